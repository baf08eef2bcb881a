import Derived.Test.YtmcclbiaoeilkaaGreatP19
/- Part 20 of a proof; the last part says what is proved. -/
namespace Go.Proofs.YtmcclbiaoeilkaaGreat
open Go.RowKit Go.Sl Go.ChangeMaps
abbrev TCk : TypeId := 44
abbrev ckA (c : CkM) : Array Value := #[.int .i64 c.gen.epoch, .int .i64 c.gen.count, .int .i64 c.seq, .string (strB c.image)]
theorem read_nil {S : ShelfM} {a : PlaceM} (h : (S.read a).2 ≠ 0) : (S.read a).1 = [] := by
  unfold ShelfM.read at h ⊢
  split
  · rfl
  rename_i hn
  rw [if_neg hn] at h
  split
  · rfl
  rename_i ha
  rw [if_neg ha] at h
  unfold DiskM.read at h ⊢
  split
  · rename_i hh; rw [if_pos hh] at h; exact absurd rfl h
  · rfl
theorem openM_nil (a : PlaceM) : openM a [] = none := by unfold openM; rw [if_neg]; rintro ⟨_, h, _⟩; cases h
theorem openM_len {a : PlaceM} {s : List UInt8} {g : GenM} {p : List UInt8} (h : openM a s = some (g, p)) : p.length = 40 := by
  unfold openM at h
  split at h
  · rename_i hh
    simp only [Option.some.injEq, Prod.mk.injEq] at h
    rw [← h.2]
    unfold subL
    rw [List.length_take, List.length_drop, hh.2.1]; rfl
  · cases h
theorem opn_none {S : ShelfM} {d area i : Int} (h : openAt S d area i = none) : (opnR S d area i).2.2 ≠ 0 ∧ (opnR S d area i).1 = g0 := by
  unfold opnR
  split
  · rename_i h1; exact ⟨h1, rfl⟩
  · rw [h]; exact ⟨by simp, rfl⟩
theorem opn_some {S : ShelfM} {d area i : Int} {g : GenM} {p : List UInt8} (h : openAt S d area i = some (g, p)) : opnR S d area i = (g, p, 0) := by
  unfold opnR
  split
  · rename_i h1
    unfold openAt at h
    rw [read_nil h1, openM_nil] at h
    cases h
  · rw [h]
theorem num0 {S : ShelfM} (hwf : S.WF) {d area : Int} (hs : S.state d ≠ 0) (ha : area = 2 ∨ area = 3) : ¬ S.number ⟨d, area, 0⟩ < 0 := by
  have him := hwf.cfg.image
  unfold ShelfM.number
  have hlog := hwf.cfg.log
  have hrow := hwf.cfg.rows
  rw [if_neg]
  · unfold CfgM.base
    rcases ha with rfl | rfl <;> simp <;> omega
  · unfold CfgM.size
    rcases ha with rfl | rfl <;> simp [hs] <;> omega
theorem acc_in {S : ShelfM} {d : Int} (h : S.access d = 0) : S.state d = 1 := by
  unfold ShelfM.access at h
  split at h
  · cases h
  · split at h
    · assumption
    · cases h
theorem read_in {S : ShelfM} (hwf : S.WF) {a : PlaceM} (hn : ¬ S.number a < 0) (h : S.access a.disk = 0) : S.read a = ((S.disk a.disk).content (S.number a).toNat, 0) := by
  unfold ShelfM.read
  rw [if_neg hn, if_neg (by simp [h])]
  obtain ⟨_, _, _, _, _, _, h7⟩ := ShelfM.number_lt hwf (a := a) (by omega)
  have hd := ShelfM.disk_n hwf (acc_in h)
  unfold DiskM.read
  rw [if_pos]
  unfold DiskM.has
  simp only [Bool.and_eq_true, decide_eq_true_eq]
  omega
theorem read0 {S : ShelfM} (hwf : S.WF) {d area : Int} (hs : S.state d ≠ 0) (ha : area = 2 ∨ area = 3) : (S.access d ≠ 0 → S.read ⟨d, area, 0⟩ = ([], S.access d)) := by
  intro h
  unfold ShelfM.read
  rw [if_neg (num0 hwf hs ha), if_pos h]
theorem ckRead_opn {S : ShelfM} (hwf : S.WF) {d area : Int} (hs : S.state d ≠ 0) (ha : area = 2 ∨ area = 3) : ckRead S d area =
    if (opnR S d area 0).2.2 ≠ 0 then (ck0, (opnR S d area 0).2.2) else match headM (opnR S d area 0).2.1 (capM S.cfg) with
      | none => (ck0, 12)
      | some (s, n) => match imgK S d area (opnR S d area 0).1 ((n + 39) / 40) with
        | none => (ck0, 12)
        | some a => (⟨(opnR S d area 0).1, s, a.take n⟩, 0) := by
  unfold ckRead
  rw [if_neg (by omega)]
  by_cases hacc : S.access d = 0
  · rw [if_neg (by simp [hacc])]
    cases h : openAt S d area 0 with
    | none =>
      have h1 := opn_none h
      rw [if_pos h1.1]
      have h2 : (opnR S d area 0).2.2 = 12 := by
        unfold opnR at h1 ⊢
        split
        · rename_i hr
          rw [read_in hwf (num0 hwf hs ha) hacc] at hr
          exact absurd rfl hr
        · rw [h]
      rw [h2]
    | some gp =>
      obtain ⟨g, p⟩ := gp
      rw [opn_some h]
      simp
      rfl
  · rw [if_pos hacc]
    have hr := read0 hwf hs ha hacc
    have ho : opnR S d area 0 = (g0, [], S.access d) := by unfold opnR; rw [hr, if_pos hacc]
    rw [ho, if_pos hacc]
theorem strB_app6 (a b : List UInt8) : strB a ++ strB b = strB (a ++ b) := by
  unfold strB
  apply ByteArray.ext
  simp [ByteArray.data_append]
theorem exec_str_add6 {o : Oper} {a : Act} {w : World} {T t2 : TypeId} {x y : Operand} {s t : List UInt8} (ho : o.op = .binOp .add T x y t2) (hx : a.eval x = .string (strB s)) (hy : a.eval y = .string (strB t)) (hg : eqGuard .add T x y (.string (strB s)) (.string (strB t)) = pure ()) (h : s.length + t.length ≤ 1000000000) :
    (execOp a.eval o).run Tryz.prog w = .ok (.value (.string (strB (s ++ t)))) w := by
  refine exec_binop ho hx hy hg ?_
  rw [binOp_string_add, run_string_add_sum _ _ _ (by rw [strB_size, strB_size]; omega), strB_app6]
theorem infoCk {c : Array Value} (h : c.size = 4) : (Tryz.prog.info? TCk).map (·.size) = some c.size := by rw [h]; kernel_rfl
theorem zeroCk (w : World) : (zeroValue TCk).run Tryz.prog w = .ok (.agg #[.int .i64 0, .int .i64 0, .int .i64 0, .string ⟨#[]⟩]) w := by kernel_rfl
def rdF (p : Nat) (S : ShelfM) (sB dB aB rB : Nat) (d area : Int) (X : HProp) : HProp :=
  shelfAt SH p S * (pts sB (.cells #[ptrV p] TShq (0, 0)) * (pts dB (.cells #[.int .i64 d] TInt (0, 0)) * (pts aB (.cells #[.int .i64 area] TInt (0, 0)) * (pts rB (.cells #[.int .i64 0, .int .i64 0, .int .i64 0, .string ⟨#[]⟩] TCk (0, 0)) * X))))
theorem rdF_cells {p : Nat} {S : ShelfM} {sB dB aB rB : Nat} {d area : Int} {X : HProp} {w : World} (h : Sat w (rdF p S sB dB aB rB d area X)) : w.cell? ⟨sB, 0, none⟩ = some (.pointer (some ⟨p, 0, none⟩)) ∧ w.cell? ⟨dB, 0, none⟩ = some (.int .i64 d) ∧ w.cell? ⟨aB, 0, none⟩ = some (.int .i64 area) ∧
    (w.frozen? ⟨rB, 0, none⟩ = false ∧ w.frozen? ⟨rB, 1, none⟩ = false ∧ w.frozen? ⟨rB, 2, none⟩ = false ∧ w.frozen? ⟨rB, 3, none⟩ = false) ∧ (w.cell? ⟨rB, 0, none⟩ = some (.int .i64 0) ∧ w.cell? ⟨rB, 1, none⟩ = some (.int .i64 0) ∧ w.cell? ⟨rB, 2, none⟩ = some (.int .i64 0) ∧ w.cell? ⟨rB, 3, none⟩ = some (.string ⟨#[]⟩)) := by
  unfold rdF at h
  have h4 := h.right.right.right.right
  exact ⟨cells_at h.right.block 0, cells_at h.right.right.block 0, cells_at h.right.right.right.block 0, ⟨thawed_at h4.block 0, thawed_at h4.block 1, thawed_at h4.block 2, thawed_at h4.block 3⟩, cells_at h4.block 0, cells_at h4.block 1, cells_at h4.block 2, cells_at h4.block 3⟩
theorem rdF_res {p : Nat} {S : ShelfM} {sB dB aB rB : Nat} {d area : Int} {X : HProp} {w : World} (h : Sat w (rdF p S sB dB aB rB d area X)) (x y z u : Value) :
    Sat ((((w.setCell ⟨rB, 0, none⟩ x).setCell ⟨rB, 1, none⟩ y).setCell ⟨rB, 2, none⟩ z).setCell ⟨rB, 3, none⟩ u) (pts rB (.cells #[x, y, z, u] TCk (0, 0)) * (shelfAt SH p S * (pts sB (.cells #[ptrV p] TShq (0, 0)) * (pts dB (.cells #[.int .i64 d] TInt (0, 0)) * (pts aB (.cells #[.int .i64 area] TInt (0, 0)) * X))))) := by
  unfold rdF at h
  exact ((((h.perm (show _ = pts rB (.cells #[.int .i64 0, .int .i64 0, .int .i64 0, .string ⟨#[]⟩] TCk (0, 0)) * (shelfAt SH p S * (pts sB (.cells #[ptrV p] TShq (0, 0)) * (pts dB (.cells #[.int .i64 d] TInt (0, 0)) * (pts aB (.cells #[.int .i64 area] TInt (0, 0)) * X)))) from by ac_rfl)).setCell (i := 0) x).setCell (i := 1) y).setCell (i := 2) z).setCell (i := 3) u
theorem opnR_len {S : ShelfM} {d area i ge gc er : Int} {pl : List UInt8} (this : opnR S d area i = (⟨ge, gc⟩, pl, er)) (h : er = 0) : pl.length = 40 := by
  unfold opnR at this
  split at this
  · rename_i h1; simp only [Prod.mk.injEq] at this; exact absurd (this.2.2.trans h) h1
  · split at this
    · simp only [Prod.mk.injEq] at this; rw [← this.2.2] at h; cases h
    · rename_i g' p' ho
      simp only [Prod.mk.injEq] at this
      rw [← this.2.1]; exact openM_len ho
theorem str_bytes6 (s : List UInt8) (W : World) : ∃ (c : Array Value) (fr : Nat × Nat) (cap : Nat), (convert 9 69 (.string (strB s))).run Tryz.prog W = .ok (.slice (some ⟨W.heap.size, 0, none⟩) s.length cap) (W.drew.alloc (.cells c TByte fr)) ∧ (∀ (j : Nat) (u : Value), (secL s)[j]? = some u → c[j]? = some u) ∧ s.length ≤ cap := by
  have h := run_bytes_of_string (P := Tryz.prog) W 9 69 5 (strB s) Tryz.underlying9 Tryz.underlying69 Tryz.underlying5
  rw [strB_size] at h
  refine ⟨_, _, _, h, ?_, grownCap_ge _ _ _ _⟩
  intro j u hu
  have hj : j < s.length := by have := (List.getElem?_eq_some_iff.1 hu).1; simpa [secL] using this
  simp only [secL, List.getElem?_map] at hu
  have hu' : (s.map fun b => Value.int .u8 b.toNat)[j]? = some u := by simpa [byteV] using hu
  unfold bytesRow
  rw [Array.getElem?_append_left (by simpa [strB] using hj)]
  simpa [strB] using hu'
theorem headM_le {b : List UInt8} {most : Int} {s : Int} {n : Nat} (h : headM b most = some (s, n)) : (n : Int) ≤ most := by
  rw [headM_val] at h
  split at h
  · cases h
  split at h
  · cases h
  split at h
  · simp only [Option.some.injEq, Prod.mk.injEq] at h; omega
  · cases h
theorem imgK_len {S : ShelfM} {d area : Int} {g : GenM} : ∀ {k : Nat} {a : List UInt8}, imgK S d area g k = some a → a.length = 40 * k
  | 0, a, h => by simp only [imgK, Option.some.injEq] at h; subst h; rfl
  | k + 1, a, h => by
    simp only [imgK] at h
    split at h
    · cases h
    rename_i b hb
    split at h
    · cases h
    rename_i g' q ho
    split at h
    · simp only [Option.some.injEq] at h
      subst h
      rw [List.length_append, imgK_len hb, openM_len ho]; omega
    · cases h
theorem imgK_mono {S : ShelfM} {d area : Int} {g : GenM} {k : Nat} (h : imgK S d area g k = none) : ∀ j, imgK S d area g (k + j) = none
  | 0 => h
  | j + 1 => by rw [← Nat.add_assoc]; simp only [imgK]; rw [imgK_mono h j]
theorem opn_img {S : ShelfM} {d area : Int} {g g' : GenM} {k : Nat} {a q : List UInt8} {er : Int} (ha : imgK S d area g k = some a) (h : opnR S d area ((k : Int) + 1) = (g', q, er)) :
    (er ≠ 0 ∨ g' ≠ g → imgK S d area g (k + 1) = none) ∧ (er = 0 → g' = g → imgK S d area g (k + 1) = some (a ++ q) ∧ q.length = 40) := by
  cases ho : openAt S d area ((k : Int) + 1) with
  | none =>
    have h1 := (opn_none ho).1
    rw [h] at h1
    exact ⟨fun _ => by simp only [imgK]; rw [ha, ho], fun e => absurd e h1⟩
  | some gp =>
    obtain ⟨g2, q2⟩ := gp
    have h1 := opn_some ho
    rw [h, Prod.mk.injEq, Prod.mk.injEq] at h1
    obtain ⟨rfl, rfl, rfl⟩ := h1
    refine ⟨fun hh => ?_, fun _ hg => ⟨?_, openM_len ho⟩⟩
    · simp only [imgK]; rw [ha, ho]; exact if_neg (hh.resolve_left (by simp))
    · simp only [imgK]; rw [ha, ho]; exact if_pos hg
def ckF (p : Nat) (S : ShelfM) (sB dB aB rB kB gB : Nat) (d area ge gc : Int) (s : Value) (X : HProp) : HProp :=
  rdF p S sB dB aB rB d area (pts kB (.cells #[.int .i64 ge, .int .i64 gc, .int .i64 0, s] TCk (0, 0)) * (pts gB (.cells #[.int .i64 ge, .int .i64 gc] TGen (0, 0)) * X))
theorem ckF_cells {p : Nat} {S : ShelfM} {sB dB aB rB kB gB : Nat} {d area ge gc : Int} {s : Value} {X : HProp} {w : World} (h : Sat w (ckF p S sB dB aB rB kB gB d area ge gc s X)) :
    (w.cell? ⟨kB, 0, none⟩ = some (.int .i64 ge) ∧ w.cell? ⟨kB, 1, none⟩ = some (.int .i64 gc) ∧ w.cell? ⟨kB, 2, none⟩ = some (.int .i64 0) ∧ w.cell? ⟨kB, 3, none⟩ = some s) ∧ (w.frozen? ⟨kB, 0, none⟩ = false ∧ w.frozen? ⟨kB, 1, none⟩ = false ∧ w.frozen? ⟨kB, 2, none⟩ = false ∧ w.frozen? ⟨kB, 3, none⟩ = false) ∧ (w.cell? ⟨gB, 0, none⟩ = some (.int .i64 ge) ∧ w.cell? ⟨gB, 1, none⟩ = some (.int .i64 gc)) ∧ kB < w.heap.size ∧ gB < w.heap.size := by
  unfold ckF rdF at h
  have h5 := h.right.right.right.right.right
  have h6 := h5.right
  exact ⟨⟨cells_at h5.block 0, cells_at h5.block 1, cells_at h5.block 2, cells_at h5.block 3⟩, ⟨thawed_at h5.block 0, thawed_at h5.block 1, thawed_at h5.block 2, thawed_at h5.block 3⟩, ⟨cells_at h6.block 0, cells_at h6.block 1⟩, h5.lt, h6.lt⟩
theorem ckF_set {p : Nat} {S : ShelfM} {sB dB aB rB kB gB : Nat} {d area ge gc : Int} {s : Value} {X : HProp} {w : World} (h : Sat w (ckF p S sB dB aB rB kB gB d area ge gc s X)) (t : Value) : Sat (w.setCell ⟨kB, 3, none⟩ t) (ckF p S sB dB aB rB kB gB d area ge gc t X) := by
  unfold ckF rdF at h ⊢
  exact ((h.perm (show _ = pts kB (.cells #[.int .i64 ge, .int .i64 gc, .int .i64 0, s] TCk (0, 0)) * (shelfAt SH p S * (pts sB (.cells #[ptrV p] TShq (0, 0)) * (pts dB (.cells #[.int .i64 d] TInt (0, 0)) * (pts aB (.cells #[.int .i64 area] TInt (0, 0)) * (pts rB (.cells #[.int .i64 0, .int .i64 0, .int .i64 0, .string ⟨#[]⟩] TCk (0, 0)) * (pts gB (.cells #[.int .i64 ge, .int .i64 gc] TGen (0, 0)) * X)))))) from by ac_rfl)).setCell (i := 3) t).perm (by ac_rfl)
theorem ckF_fin {p : Nat} {S : ShelfM} {sB dB aB rB kB gB : Nat} {d area ge gc : Int} {s : Value} {X : HProp} {w : World} (h : Sat w (ckF p S sB dB aB rB kB gB d area ge gc s X)) (u t : Value) : Sat ((w.setCell ⟨kB, 2, none⟩ u).setCell ⟨kB, 3, none⟩ t) (rdF p S sB dB aB rB d area (pts kB (.cells #[.int .i64 ge, .int .i64 gc, u, t] TCk (0, 0)) * (pts gB (.cells #[.int .i64 ge, .int .i64 gc] TGen (0, 0)) * X))) := by
  unfold ckF rdF at h
  unfold rdF
  exact (((h.perm (show _ = pts kB (.cells #[.int .i64 ge, .int .i64 gc, .int .i64 0, s] TCk (0, 0)) * (shelfAt SH p S * (pts sB (.cells #[ptrV p] TShq (0, 0)) * (pts dB (.cells #[.int .i64 d] TInt (0, 0)) * (pts aB (.cells #[.int .i64 area] TInt (0, 0)) * (pts rB (.cells #[.int .i64 0, .int .i64 0, .int .i64 0, .string ⟨#[]⟩] TCk (0, 0)) * (pts gB (.cells #[.int .i64 ge, .int .i64 gc] TGen (0, 0)) * X)))))) from by ac_rfl)).setCell (i := 2) u).setCell (i := 3) t).perm (by ac_rfl)
theorem rd_ck {p : Nat} {S : ShelfM} {sB dB aB rB kB : Nat} {d area : Int} {x y u t : Value} {X : HProp} {w : World} (h : Sat w (rdF p S sB dB aB rB d area (pts kB (.cells #[x, y, u, t] TCk (0, 0)) * X))) : w.cell? ⟨kB, 0, none⟩ = some x ∧ w.cell? ⟨kB, 1, none⟩ = some y ∧ w.cell? ⟨kB, 2, none⟩ = some u ∧ w.cell? ⟨kB, 3, none⟩ = some t := by
  unfold rdF at h
  have h5 := h.right.right.right.right.right
  exact ⟨cells_at h5.block 0, cells_at h5.block 1, cells_at h5.block 2, cells_at h5.block 3⟩
structure CkS (w : World) (p : Nat) (S : ShelfM) (sB dB aB rB kB gB : Nat) (d area ge gc : Int) (F : HProp) (n : Nat) (iv : Value) (wr : World) : Prop where
  st : ∃ (k : Nat) (a : List UInt8) (X : HProp), Hid (40 * k < n + 40 ∧ imgK S d area ⟨ge, gc⟩ k = some a) ∧ iv = .int .i64 ((k : Int) + 1) ∧ Hid (Same w wr ∧ Sat wr (ckF p S sB dB aB rB kB gB d area ge gc (.string (strB a)) (X * F)))
def CkOut (p : Nat) (S : ShelfM) (F : HProp) (r : CkM × Int) (w : World) (e : Ending) (w' : World) : Prop := e = .returned (.tuple #[.agg (ckA r.1), .int .i64 r.2]) ∧ Same w w' ∧ Sat w' (shelfAt SH p S * F)
set_option maxRecDepth 20000 in
set_option maxHeartbeats 4000000 in
theorem ckread_any (p : Nat) (S : ShelfM) (F : HProp) (d area : Int) (w : World) (hS : Sat w (shelfAt SH p S * F)) :
    Calls Tryz.prog 20 #[.pointer (some ⟨p, 0, none⟩), .int .i64 d, .int .i64 area] w (CkOut p S F (ckRead S d area) w) := by
  have hwf := shelfAt_wf hS
  obtain ⟨R, hR⟩ : ∃ R, ckRead S d area = R := ⟨_, rfl⟩
  rw [hR]
  have hA := (((hS.alloc (.cells #[.pointer (some ⟨p, 0, none⟩)] TShq)).alloc (.cells #[.int .i64 d] TInt)).alloc (.cells #[.int .i64 area] TInt)).alloc (.cells #[.int .i64 0, .int .i64 0, .int .i64 0, .string ⟨#[]⟩] TCk)
  simp only [World.size_alloc] at hA
  have hsm := ((((Same.refl w).alloc (.cells #[.pointer (some ⟨p, 0, none⟩)] TShq)).alloc (.cells #[.int .i64 d] TInt)).alloc (.cells #[.int .i64 area] TInt)).alloc (.cells #[.int .i64 0, .int .i64 0, .int .i64 0, .string ⟨#[]⟩] TCk)
  have HST := Lib.hid (fun (W : World) (X : HProp) (h : Sat W (shelfAt SH p S * X)) => state_any p S X d W h)
  go_enter Tryz.func20, Tryz.ntmps20
  go_upto_region 1 with ((with_reducible (refine wpList_alloc_zero ?_ TCk ?_ _ (zeroCk _) ?_)); rfl; rfl)
  generalize (((w.alloc (.cells #[.pointer (some ⟨p, 0, none⟩)] TShq)).alloc (.cells #[.int .i64 d] TInt)).alloc (.cells #[.int .i64 area] TInt)).alloc (.cells #[.int .i64 0, .int .i64 0, .int .i64 0, .string ⟨#[]⟩] TCk) = w1 at hA hsm ⊢
  generalize w.heap.size + 1 + 1 + 1 = rB at hA ⊢
  generalize w.heap.size + 1 + 1 = aB at hA ⊢
  generalize w.heap.size + 1 = dB at hA ⊢
  generalize w.heap.size = sB at hA ⊢
  have H1 := Lib.hid (show Same w w1 ∧ Sat w1 (rdF p S sB dB aB rB d area F) from ⟨hsm, hA.perm (by unfold rdF ptrV; ac_rfl)⟩)
  have HWF := Lib.hid hwf
  have HFIN := Lib.hid (show ∀ (W : World) (r : CkM × Int) (X : HProp), Same w W → Sat W (pts rB (.cells (ckA r.1) TCk (0, 0)) * (shelfAt SH p S * (pts sB (.cells #[ptrV p] TShq (0, 0)) * (pts dB (.cells #[.int .i64 d] TInt (0, 0)) * (pts aB (.cells #[.int .i64 area] TInt (0, 0)) * (X * F)))))) → R = r → CkOut p S F R w (.returned (.tuple #[.agg (ckA r.1), .int .i64 r.2])) W from fun W r X h1 h2 h3 => by
    subst h3
    exact ⟨rfl, h1, (h2.perm (show _ = (pts rB (.cells (ckA R.1) TCk (0, 0)) * (pts sB (.cells #[ptrV p] TShq (0, 0)) * (pts dB (.cells #[.int .i64 d] TInt (0, 0)) * (pts aB (.cells #[.int .i64 area] TInt (0, 0)) * X)))) * (shelfAt SH p S * F) from by ac_rfl)).right⟩)
  clear hA hsm hS hwf
  obtain ⟨c1, c2, c3, ⟨f0, f1, f2, f3⟩, c4, c5, c6, c7⟩ := rdF_cells H1.out.2
  have HRv := Lib.hid hR
  by_cases hb : S.state d = 0 ∨ (area ≠ 2 ∧ area ≠ 3)
  case pos =>
    have hR2 : R = (ck0, 1) := by rw [← hR]; unfold ckRead; rw [if_pos hb]
    clear hR HRv HWF
    rcases Classical.em (S.state d = 0) with h0 | h0
    · have e0 : (S.state d == 0) = true := by simp [h0]
      generalize S.state d = st at HST e0
      clear hb h0
      go_wp2_with (go_at_call 36; refine (HST.out w1 _ H1.out.2).mono ?_; rintro e w2 ⟨rfl, rfl⟩)
      have H2 := Lib.hid (And.intro ((((H1.out.1.setCell ⟨rB, 0, none⟩ (.int .i64 0)).setCell ⟨rB, 1, none⟩ (.int .i64 0)).setCell ⟨rB, 2, none⟩ (.int .i64 0)).setCell ⟨rB, 3, none⟩ (.string ⟨#[]⟩)) (rdF_res H1.out.2 (.int .i64 0) (.int .i64 0) (.int .i64 0) (.string ⟨#[]⟩)))
      refine bodyPost_ret (v := .tuple #[.agg #[.int .i64 0, .int .i64 0, .int .i64 0, .string ⟨#[]⟩], .int .i64 1]) (results2 Tryz.results20 (ResIs.row rfl H2.out.2.block Tryz.underlying44 rfl (infoCk rfl)) (.tmp rfl)) rfl ?_
      exact HFIN.out _ (ck0, 1) emp H2.out.1 (H2.out.2.perm (by rw [emp_star]; rfl)) hR2
    · have e0 : (S.state d == 0) = false := by simp [h0]
      have e2 : (area != 2) = true := bne_iff_ne.2 (hb.resolve_left h0).1
      have e3 : (area != 3) = true := bne_iff_ne.2 (hb.resolve_left h0).2
      generalize S.state d = st at HST e0
      clear hb h0
      go_wp2_with (go_at_call 36; refine (HST.out w1 _ H1.out.2).mono ?_; rintro e w2 ⟨rfl, rfl⟩)
      have H2 := Lib.hid (And.intro ((((H1.out.1.setCell ⟨rB, 0, none⟩ (.int .i64 0)).setCell ⟨rB, 1, none⟩ (.int .i64 0)).setCell ⟨rB, 2, none⟩ (.int .i64 0)).setCell ⟨rB, 3, none⟩ (.string ⟨#[]⟩)) (rdF_res H1.out.2 (.int .i64 0) (.int .i64 0) (.int .i64 0) (.string ⟨#[]⟩)))
      refine bodyPost_ret (v := .tuple #[.agg #[.int .i64 0, .int .i64 0, .int .i64 0, .string ⟨#[]⟩], .int .i64 1]) (results2 Tryz.results20 (ResIs.row rfl H2.out.2.block Tryz.underlying44 rfl (infoCk rfl)) (.tmp rfl)) rfl ?_
      exact HFIN.out _ (ck0, 1) emp H2.out.1 (H2.out.2.perm (by rw [emp_star]; rfl)) hR2
  case neg =>
    have h0 : S.state d ≠ 0 := fun h => hb (.inl h)
    have ha : area = 2 ∨ area = 3 := by
      rcases Classical.em (area = 2) with h | h
      · exact .inl h
      · rcases Classical.em (area = 3) with h' | h'
        · exact .inr h'
        · exact absurd (.inr ⟨h, h'⟩) hb
    have hck := ckRead_opn HWF.out h0 ha
    rw [hR] at hck
    have e0 : (S.state d == 0) = false := by simp [h0]
    have HOP := Lib.hid (show ∀ (W : World) (i : Int) (X : HProp), Sat W (rdF p S sB dB aB rB d area X) → Calls Tryz.prog 76 #[.int .i64 i, .pointer (some ⟨dB, 0, none⟩), .pointer (some ⟨aB, 0, none⟩), .pointer (some ⟨sB, 0, none⟩)] W fun e w' => e = .returned (.tuple #[.agg (genA (opnR S d area i).1), .string (strB (opnR S d area i).2.1), .int .i64 (opnR S d area i).2.2]) ∧ Hid (Same W w' ∧ Sat w' (rdF p S sB dB aB rB d area X)) from fun W i X h => ckopen_any p S _ dB aB sB d area i W h)
    have HCK := Lib.hid hck
    have hcf := HWF.out.cfg
    have HCAP := Lib.hid (show ∀ (W : World), Calls Tryz.prog 22 #[.agg (cfgA S.cfg)] W _ from fun W => ckcap_any S.cfg hcf.image.1 hcf.image.2 W)
    generalize S.state d = st at HST e0
    clear hb h0 hck hR hcf
    rcases ha with rfl | rfl
    case inl =>
      go_upto_region 4 with (go_at_call 36; refine (HST.out w1 _ H1.out.2).mono ?_; rintro e w2 ⟨rfl, rfl⟩)
      clear HST e0
      have hck := HCK.out
      obtain ⟨⟨⟨ge, gc⟩, pl, er⟩, hr0⟩ : ∃ r, opnR S d 2 0 = r := ⟨_, rfl⟩
      have HOP0 := HOP.out w1 0 F H1.out.2
      rw [hr0] at HOP0 hck
      have HLEN := Lib.hid (fun h => opnR_len hr0 h)
      simp only at hck
      by_cases he : er = 0
      case neg =>
        have hed : (er != 0) = true := bne_iff_ne.2 he
        have hR2 : R = (ck0, er) := by rw [hck, if_pos he]
        have HR2 := Lib.hid hR2
        clear hck he HLEN hr0 hR2
        go_wp2_with (go_at_call 76; refine HOP0.mono ?_; rintro e w3 ⟨rfl, h3⟩; replace H1 := Lib.hid (And.intro (H1.out.1.trans h3.out.1) h3.out.2); clear c1 c2 c3 f0 f1 f2 f3 c4 c5 c6 c7; obtain ⟨c1, c2, c3, ⟨f0, f1, f2, f3⟩, c4, c5, c6, c7⟩ := rdF_cells H1.out.2; have lr := World.block_lt_of_cell? _ _ c4; clear h3)
        have H2 := Lib.hid (And.intro ((((H1.out.1.setCell ⟨rB, 0, none⟩ (.int .i64 0)).setCell ⟨rB, 1, none⟩ (.int .i64 0)).setCell ⟨rB, 2, none⟩ (.int .i64 0)).setCell ⟨rB, 3, none⟩ (.string ⟨#[]⟩)) (rdF_res H1.out.2 (.int .i64 0) (.int .i64 0) (.int .i64 0) (.string ⟨#[]⟩)))
        replace H2 := Lib.hid (And.intro (H2.out.1.alloc (.cells #[.int .i64 ge, .int .i64 gc] TGen)) (H2.out.2.allocKeep (.cells #[.int .i64 ge, .int .i64 gc] TGen)))
        refine bodyPost_ret (v := .tuple #[.agg #[.int .i64 0, .int .i64 0, .int .i64 0, .string ⟨#[]⟩], .int .i64 er]) (results2 Tryz.results20 (ResIs.row rfl H2.out.2.block Tryz.underlying44 rfl (infoCk rfl)) (.tmp rfl)) rfl ?_
        exact HFIN.out _ (ck0, er) emp H2.out.1 (H2.out.2.perm (by rw [emp_star]; rfl)) HR2.out
      case pos =>
        subst he
        have hed : ((0 : Int) != 0) = false := rfl
        replace HCK := Lib.hid (hck.trans (if_neg (by simp)))
        have HL40 := Lib.hid (HLEN.out rfl)
        clear hck hr0 HLEN
        go_upto_region 8 with (go_at_call 76; refine HOP0.mono ?_; rintro e w3 ⟨rfl, h3⟩; replace H1 := Lib.hid (And.intro (H1.out.1.trans h3.out.1) h3.out.2); clear c1 c2 c3 f0 f1 f2 f3 c4 c5 c6 c7; obtain ⟨c1, c2, c3, ⟨f0, f1, f2, f3⟩, c4, c5, c6, c7⟩ := rdF_cells H1.out.2; have lr := World.block_lt_of_cell? _ _ c4; clear h3)
        have hA := (H1.out.2.alloc (.cells #[.int .i64 ge, .int .i64 gc] TGen)).alloc (.cells #[.int .i64 ge, .int .i64 gc, .int .i64 0, .string ⟨#[]⟩] TCk)
        rw [World.size_alloc] at hA
        have hsm := (H1.out.1.alloc (.cells #[.int .i64 ge, .int .i64 gc] TGen)).alloc (.cells #[.int .i64 ge, .int .i64 gc, .int .i64 0, .string ⟨#[]⟩] TCk)
        clear HOP0 H1 c1 c2 c3 f0 f1 f2 f3 c4 c5 c6 c7 lr
        generalize (w3.alloc (.cells #[.int .i64 ge, .int .i64 gc] TGen)).alloc (.cells #[.int .i64 ge, .int .i64 gc, .int .i64 0, .string ⟨#[]⟩] TCk) = w4 at hA hsm ⊢
        generalize w3.heap.size + 1 = kB at hA ⊢
        generalize w3.heap.size = gB at hA ⊢
        obtain ⟨row, fr, cap, hrun, hrow, hcp⟩ := str_bytes6 pl w4
        have hA5 := hA.drew.alloc (.cells row TByte fr)
        have hsm5 := hsm.drew.alloc (.cells row TByte fr)
        generalize w4.drew.alloc (.cells row TByte fr) = w5 at hrun hA5 hsm5
        rw [show w4.drew.heap.size = w4.heap.size from rfl] at hA5
        generalize w4.heap.size = bB at hrun hA5
        have hbc : ∀ (W : World) (Y : HProp), Sat W (pts bB (.cells row TByte fr) * Y) → BytesC W (.slice (some ⟨bB, 0, none⟩) pl.length cap) pl := fun W Y h => ⟨_, _, rfl, hcp, fun _ => ⟨bB, 0, rfl, fun j x hx => by
          rw [Nat.zero_add, cells_at h.block]
          exact hrow j _ (by rw [secL, List.getElem?_map, hx]; rfl)⟩⟩
        have HHD := Lib.hid (show ∀ (W : World) (Y : HProp), Sat W (pts bB (.cells row TByte fr) * Y) → Calls Tryz.prog 79 #[.slice (some ⟨bB, 0, none⟩) pl.length cap, .int .i64 (capM S.cfg)] W (HeadOut pl (capM S.cfg) W) from fun W Y h => ckhead_any _ pl (capM S.cfg) W (hbc W Y h) (by rw [HL40.out]; decide))
        have HCFG := Lib.hid (show ∀ (W : World) (X Y : HProp), Sat W (X * (rdF p S sB dB aB rB d 2 Y)) → Calls Tryz.prog 26 #[.pointer (some ⟨p, 0, none⟩)] W fun e w' => e = .returned (.agg (cfgA S.cfg)) ∧ Below W.heap.size W w' from fun W X Y h => config_any p S _ W h.right)
        have H5 := Lib.hid (show Same w w5 ∧ Sat w5 (pts bB (.cells row TByte fr) * (rdF p S sB dB aB rB d 2 (pts kB (.cells #[.int .i64 ge, .int .i64 gc, .int .i64 0, .string ⟨#[]⟩] TCk (0, 0)) * (pts gB (.cells #[.int .i64 ge, .int .i64 gc] TGen (0, 0)) * F)))) from ⟨hsm5, hA5.perm (by unfold rdF; ac_rfl)⟩)
        have HRUN := Lib.hid hrun
        clear hA hsm hA5 hsm5 hrun hrow hcp hbc
        refine wp_region_lit ?_
        (apply wpList_runG rfl); (go_simp; first | rfl | exact ⟨rfl, rfl⟩); simp only [Act.put, List.setIfInBounds_toArray, List.set_cons_succ, List.set_cons_zero]
        refine wpList_runG (v := .slice (some ⟨bB, 0, none⟩) pl.length cap) rfl (exec_convert rfl rfl HRUN.out) ?_; simp only [Act.put, List.setIfInBounds_toArray, List.set_cons_succ, List.set_cons_zero]
        clear HRUN
        obtain ⟨c1, -⟩ := rdF_cells H5.out.2.right
        obtain ⟨mx, hmx⟩ : ∃ mx, capM S.cfg = mx := ⟨_, rfl⟩
        rw [hmx] at HHD HCAP HCK
        have HMX := Lib.hid (show mx ≤ 65536 * 40 from by rw [← hmx]; have := HWF.out.cfg.image; unfold capM; omega)
        clear hmx HL40
        generalize pl.length = len at HHD ⊢
        go_upto_region 9 with (first
          | (go_at_call 26; refine (HCFG.out w5 _ _ H5.out.2).mono ?_; rintro e w6 ⟨rfl, hb⟩; replace H5 := Lib.hid (And.intro (H5.out.1.below hb) (H5.out.2.below hb)); clear hb c1; obtain ⟨c1, -⟩ := rdF_cells H5.out.2.right)
          | (go_at_call 22; refine (HCAP.out w6).mono ?_; rintro e w7 ⟨rfl, hb⟩; replace H5 := Lib.hid (And.intro (H5.out.1.below hb) (H5.out.2.below hb)); clear hb c1)
          | (go_at_call 79; refine (HHD.out w7 _ H5.out.2).mono ?_; rintro e w8 ⟨sv, nv, okv, rfl, rfl, hh⟩; have HH := Lib.hid hh; clear hh))
        have H1 := Lib.hid (show Same w w7 ∧ Sat w7 (ckF p S sB dB aB rB kB gB d 2 ge gc (.string (strB [])) (pts bB (.cells row TByte fr) * F)) from ⟨H5.out.1, H5.out.2.perm (by unfold ckF rdF; ac_rfl)⟩)
        clear H5 HHD HCFG HCAP
        cases hm : headM pl mx with
        | none =>
          have hok : okv = false := by rw [HH.out.1, hm]; rfl
          subst hok
          have HR2 := Lib.hid (show R = (ck0, 12) from by rw [HCK.out, hm])
          obtain ⟨c1, c2, c3, ⟨f0, f1, f2, f3⟩, c4, c5, c6, c7⟩ := rdF_cells (show Sat w7 (rdF p S sB dB aB rB d 2 _) from H1.out.2)
          clear hm
          go_wp2
          have H2 := Lib.hid (And.intro ((((H1.out.1.setCell ⟨rB, 0, none⟩ (.int .i64 0)).setCell ⟨rB, 1, none⟩ (.int .i64 0)).setCell ⟨rB, 2, none⟩ (.int .i64 0)).setCell ⟨rB, 3, none⟩ (.string ⟨#[]⟩)) (rdF_res (show Sat w7 (rdF p S sB dB aB rB d 2 _) from H1.out.2) (.int .i64 0) (.int .i64 0) (.int .i64 0) (.string ⟨#[]⟩)))
          refine bodyPost_ret (v := .tuple #[.agg #[.int .i64 0, .int .i64 0, .int .i64 0, .string ⟨#[]⟩], .int .i64 12]) (results2 Tryz.results20 (ResIs.row rfl H2.out.2.block Tryz.underlying44 rfl (infoCk rfl)) (.tmp rfl)) rfl ?_
          exact HFIN.out _ (ck0, 12) (pts kB (.cells #[.int .i64 ge, .int .i64 gc, .int .i64 0, .string (strB [])] TCk (0, 0)) * (pts gB (.cells #[.int .i64 ge, .int .i64 gc] TGen (0, 0)) * pts bB (.cells row TByte fr))) H2.out.1 (H2.out.2.perm (by ac_rfl)) HR2.out
        | some sn =>
          obtain ⟨s, n⟩ := sn
          have hok : okv = true := by rw [HH.out.1, hm]; rfl
          subst hok
          obtain ⟨rfl, rfl⟩ := HH.out.2 s n hm
          have HN := Lib.hid (show (n : Int) ≤ 65536 * 40 from Int.le_trans (headM_le hm) HMX.out)
          replace HCK := Lib.hid (show R = match imgK S d 2 ⟨ge, gc⟩ ((n + 39) / 40) with
            | none => (ck0, 12)
            | some a => (⟨⟨ge, gc⟩, sv, a.take n⟩, 0) from by rw [HCK.out, hm])
          clear hm HH HMX
          go_upto_region 12 with (fail)
          go_loopw [16] (fun iv wr => CkS w p S sB dB aB rB kB gB d 2 ge gc F n iv wr) (fun iv _ => n + 1 - (40 * ((intOf iv).toNat - 1)))
          case atStart => exact ⟨⟨0, [], _, Lib.hid ⟨by omega, rfl⟩, rfl, H1.out⟩⟩
          case round =>
            clear H1
            obtain ⟨k, a, X, HK, rfl, H1⟩ := hrel.st
            clear hrel
            obtain ⟨⟨k0, k1, k2, k3⟩, ⟨y0, y1, y2, y3⟩, ⟨g0, g1⟩, lk, lg⟩ := ckF_cells H1.out.2
            have hka := imgK_len HK.out.2
            obtain ⟨⟨⟨g', c'⟩, q, er⟩, hr⟩ : ∃ r, opnR S d 2 ((k : Int) + 1) = r := ⟨_, rfl⟩
            have HOP1 := HOP.out wr ((k : Int) + 1) _ H1.out.2
            rw [hr] at HOP1
            have hoi := opn_img HK.out.2 hr
            have HOI := Lib.hid hoi
            have HK0 := Lib.hid HK.out.1
            have hkn := HK.out.1
            have HN1 := HN.out
            clear hr hoi
            by_cases hlt : 40 * k < n
            · have hltd : decide (((strB a).size : Int) < (n : Int)) = true := decide_eq_true (by rw [strB_size, hka]; omega)
              have hltd2 : decide ((strB a).size < n) = true := decide_eq_true (by rw [strB_size, hka]; omega)
              have hw1 : IntKind.i64.wrap ((k : Int) + 1 + 1) = (k : Int) + 1 + 1 := IntWalk.i64_in _ (by omega)
              have HKM : imgK S d 2 ⟨ge, gc⟩ (k + 1) = none → R = (ck0, 12) := fun h => by
                obtain ⟨j, hj⟩ : ∃ j, (n + 39) / 40 = k + 1 + j := ⟨(n + 39) / 40 - (k + 1), by omega⟩
                rw [HCK.out, hj, imgK_mono h j]
              have HKM := Lib.hid HKM
              have HLT := Lib.hid (And.intro hlt hkn)
              have HKA := Lib.hid hka
              have HW1 := Lib.hid hw1
              clear hka hkn hlt hw1 HN1
              simp only [genA] at HOP1
              by_cases he : er = 0
              case neg =>
                have hed2 : (er != 0) = true := bne_iff_ne.2 he
                have HE := Lib.hid he
                clear he
                go_wp2_with (go_at_call 76; refine HOP1.mono ?_; rintro e wq ⟨rfl, h3⟩; replace H1 := Lib.hid (show Same w wq ∧ Sat wq (ckF p S sB dB aB rB kB gB d 2 ge gc (.string (strB a)) (X * F)) from ⟨H1.out.1.trans h3.out.1, h3.out.2⟩); clear h3 k0 k1 k2 k3 y0 y1 y2 y3 g0 g1 lk lg; obtain ⟨⟨k0, k1, k2, k3⟩, ⟨y0, y1, y2, y3⟩, ⟨g0, g1⟩, lk, lg⟩ := ckF_cells H1.out.2; obtain ⟨c1, c2, c3, ⟨f0, f1, f2, f3⟩, c4, c5, c6, c7⟩ := rdF_cells (show Sat wq (rdF p S sB dB aB rB d 2 _) from H1.out.2); have lr := World.block_lt_of_cell? _ _ c4)
                have HR2 := Lib.hid (HKM.out (HOI.out.1 (.inl HE.out)))
                have H2 := Lib.hid (And.intro ((((H1.out.1.setCell ⟨rB, 0, none⟩ (.int .i64 0)).setCell ⟨rB, 1, none⟩ (.int .i64 0)).setCell ⟨rB, 2, none⟩ (.int .i64 0)).setCell ⟨rB, 3, none⟩ (.string ⟨#[]⟩)) (rdF_res (show Sat wq (rdF p S sB dB aB rB d 2 _) from H1.out.2) (.int .i64 0) (.int .i64 0) (.int .i64 0) (.string ⟨#[]⟩)))
                replace H2 := Lib.hid (And.intro (H2.out.1.alloc (.cells #[.int .i64 g', .int .i64 c'] TGen)) (H2.out.2.allocKeep (.cells #[.int .i64 g', .int .i64 c'] TGen)))
                refine bodyPost_ret (v := .tuple #[.agg #[.int .i64 0, .int .i64 0, .int .i64 0, .string ⟨#[]⟩], .int .i64 12]) (results2 Tryz.results20 (ResIs.row rfl H2.out.2.block Tryz.underlying44 rfl (infoCk rfl)) (.tmp rfl)) rfl ?_
                exact HFIN.out _ (ck0, 12) (pts kB (.cells #[.int .i64 ge, .int .i64 gc, .int .i64 0, .string (strB a)] TCk (0, 0)) * (pts gB (.cells #[.int .i64 ge, .int .i64 gc] TGen (0, 0)) * X)) H2.out.1 (H2.out.2.perm (by ac_rfl)) HR2.out
              case pos =>
                subst he
                by_cases hge : g' = ge
                case neg =>
                  have hg1 : (g' == ge) = false := by simp [hge]
                  have HE := Lib.hid hge
                  clear hge
                  go_wp2_with (go_at_call 76; refine HOP1.mono ?_; rintro e wq ⟨rfl, h3⟩; replace H1 := Lib.hid (show Same w wq ∧ Sat wq (ckF p S sB dB aB rB kB gB d 2 ge gc (.string (strB a)) (X * F)) from ⟨H1.out.1.trans h3.out.1, h3.out.2⟩); clear h3 k0 k1 k2 k3 y0 y1 y2 y3 g0 g1 lk lg; obtain ⟨⟨k0, k1, k2, k3⟩, ⟨y0, y1, y2, y3⟩, ⟨g0, g1⟩, lk, lg⟩ := ckF_cells H1.out.2; obtain ⟨c1, c2, c3, ⟨f0, f1, f2, f3⟩, c4, c5, c6, c7⟩ := rdF_cells (show Sat wq (rdF p S sB dB aB rB d 2 _) from H1.out.2); have lr := World.block_lt_of_cell? _ _ c4)
                  have HR2 := Lib.hid (HKM.out (HOI.out.1 (.inr (fun h => HE.out (GenM.mk.inj h).1))))
                  have H2 := Lib.hid (And.intro ((((H1.out.1.setCell ⟨rB, 0, none⟩ (.int .i64 0)).setCell ⟨rB, 1, none⟩ (.int .i64 0)).setCell ⟨rB, 2, none⟩ (.int .i64 0)).setCell ⟨rB, 3, none⟩ (.string ⟨#[]⟩)) (rdF_res (show Sat wq (rdF p S sB dB aB rB d 2 _) from H1.out.2) (.int .i64 0) (.int .i64 0) (.int .i64 0) (.string ⟨#[]⟩)))
                  replace H2 := Lib.hid (And.intro (H2.out.1.alloc (.cells #[.int .i64 g', .int .i64 c'] TGen)) (H2.out.2.allocKeep (.cells #[.int .i64 g', .int .i64 c'] TGen)))
                  refine bodyPost_ret (v := .tuple #[.agg #[.int .i64 0, .int .i64 0, .int .i64 0, .string ⟨#[]⟩], .int .i64 12]) (results2 Tryz.results20 (ResIs.row rfl H2.out.2.block Tryz.underlying44 rfl (infoCk rfl)) (.tmp rfl)) rfl ?_
                  exact HFIN.out _ (ck0, 12) (pts kB (.cells #[.int .i64 ge, .int .i64 gc, .int .i64 0, .string (strB a)] TCk (0, 0)) * (pts gB (.cells #[.int .i64 ge, .int .i64 gc] TGen (0, 0)) * X)) H2.out.1 (H2.out.2.perm (by ac_rfl)) HR2.out
                case pos =>
                  replace hge := hge.symm
                  subst hge
                  by_cases hgc : c' = gc
                  case neg =>
                    have hg1 : (c' == gc) = false := by simp [hgc]
                    have HE := Lib.hid hgc
                    clear hgc
                    go_wp2_with (go_at_call 76; refine HOP1.mono ?_; rintro e wq ⟨rfl, h3⟩; replace H1 := Lib.hid (show Same w wq ∧ Sat wq (ckF p S sB dB aB rB kB gB d 2 ge gc (.string (strB a)) (X * F)) from ⟨H1.out.1.trans h3.out.1, h3.out.2⟩); clear h3 k0 k1 k2 k3 y0 y1 y2 y3 g0 g1 lk lg; obtain ⟨⟨k0, k1, k2, k3⟩, ⟨y0, y1, y2, y3⟩, ⟨g0, g1⟩, lk, lg⟩ := ckF_cells H1.out.2; obtain ⟨c1, c2, c3, ⟨f0, f1, f2, f3⟩, c4, c5, c6, c7⟩ := rdF_cells (show Sat wq (rdF p S sB dB aB rB d 2 _) from H1.out.2); have lr := World.block_lt_of_cell? _ _ c4)
                    have HR2 := Lib.hid (HKM.out (HOI.out.1 (.inr (fun h => HE.out (GenM.mk.inj h).2))))
                    have H2 := Lib.hid (And.intro ((((H1.out.1.setCell ⟨rB, 0, none⟩ (.int .i64 0)).setCell ⟨rB, 1, none⟩ (.int .i64 0)).setCell ⟨rB, 2, none⟩ (.int .i64 0)).setCell ⟨rB, 3, none⟩ (.string ⟨#[]⟩)) (rdF_res (show Sat wq (rdF p S sB dB aB rB d 2 _) from H1.out.2) (.int .i64 0) (.int .i64 0) (.int .i64 0) (.string ⟨#[]⟩)))
                    replace H2 := Lib.hid (And.intro (H2.out.1.alloc (.cells #[.int .i64 ge, .int .i64 c'] TGen)) (H2.out.2.allocKeep (.cells #[.int .i64 ge, .int .i64 c'] TGen)))
                    refine bodyPost_ret (v := .tuple #[.agg #[.int .i64 0, .int .i64 0, .int .i64 0, .string ⟨#[]⟩], .int .i64 12]) (results2 Tryz.results20 (ResIs.row rfl H2.out.2.block Tryz.underlying44 rfl (infoCk rfl)) (.tmp rfl)) rfl ?_
                    exact HFIN.out _ (ck0, 12) (pts kB (.cells #[.int .i64 ge, .int .i64 gc, .int .i64 0, .string (strB a)] TCk (0, 0)) * (pts gB (.cells #[.int .i64 ge, .int .i64 gc] TGen (0, 0)) * X)) H2.out.1 (H2.out.2.perm (by ac_rfl)) HR2.out
                  case pos =>
                    replace hgc := hgc.symm
                    subst hgc
                    obtain ⟨hi, hq⟩ := HOI.out.2 rfl rfl
                    have HI := Lib.hid (And.intro hi hq)
                    clear hi hq HOI
                    go_upto_region 17 with (go_at_call 76; refine HOP1.mono ?_; rintro e wq ⟨rfl, h3⟩; replace H1 := Lib.hid (show Same w wq ∧ Sat wq (ckF p S sB dB aB rB kB gB d 2 ge gc (.string (strB a)) (X * F)) from ⟨H1.out.1.trans h3.out.1, h3.out.2⟩); clear h3 k0 k1 k2 k3 y0 y1 y2 y3 g0 g1 lk lg; obtain ⟨⟨k0, k1, k2, k3⟩, ⟨y0, y1, y2, y3⟩, ⟨g0, g1⟩, lk, lg⟩ := ckF_cells H1.out.2; obtain ⟨c1, c2, c3, ⟨f0, f1, f2, f3⟩, c4, c5, c6, c7⟩ := rdF_cells (show Sat wq (rdF p S sB dB aB rB d 2 _) from H1.out.2); have lr := World.block_lt_of_cell? _ _ c4)
                    refine wp_region_lit ?_
                    (apply wpList_runG rfl); (go_simp; first | rfl | exact ⟨rfl, rfl⟩); simp only [Act.put, List.setIfInBounds_toArray, List.set_cons_succ, List.set_cons_zero]
                    (apply wpList_runG rfl); (go_simp; first | rfl | exact ⟨rfl, rfl⟩); simp only [Act.put, List.setIfInBounds_toArray, List.set_cons_succ, List.set_cons_zero]
                    (apply wpList_runG rfl); (go_simp; first | rfl | exact ⟨rfl, rfl⟩); simp only [Act.put, List.setIfInBounds_toArray, List.set_cons_succ, List.set_cons_zero]
                    refine wpList_runG (v := .string (strB (a ++ q))) rfl (exec_str_add6 rfl rfl rfl rfl (by have := HI.out.2; have := HKA.out; have := HLT.out; have := HN.out; omega)) ?_; simp only [Act.put, List.setIfInBounds_toArray, List.set_cons_succ, List.set_cons_zero]
                    have hw1 := HW1.out
                    go_wp2
                    go_roundw
                    case rel => exact ⟨⟨k + 1, a ++ q, X, Lib.hid ⟨by have := HLT.out; omega, HI.out.1⟩, congrArg (Value.int .i64) (by omega), Lib.hid ⟨(H1.out.1.setCell _ _).alloc _, (ckF_set H1.out.2 (.string (strB (a ++ q)))).allocKeep _⟩⟩⟩
                    case measure =>
                      have := HLT.out
                      simp [intOf]; omega
            · have hltd : decide (((strB a).size : Int) < (n : Int)) = false := decide_eq_false (by rw [strB_size, hka]; omega)
              have hltd2 : decide ((strB a).size < n) = false := decide_eq_false (by rw [strB_size, hka]; omega)
              have HR2 : Hid (R = (⟨⟨ge, gc⟩, sv, a.take n⟩, 0)) := Lib.hid (by
                rw [HCK.out, show (n + 39) / 40 = k by omega, HK.out.2])
              have HNA := Lib.hid (show n ≤ a.length by rw [hka]; omega)
              clear hka hkn hlt HOP1 HOI HN1
              go_upto_region 18 with (fail)
              refine reg_begin (fun w' => w'.cell? ⟨kB, 3, none⟩ = some (.string (strB a))) (by kernel_rfl) ?_
              replace H1 := Lib.hid (And.intro H1.out.1.drew H1.out.2.drew)
              generalize wr.drew = wx at H1 ⊢
              clear k0 k1 k2 k3 y0 y1 y2 y3 g0 g1 lk lg
              obtain ⟨⟨k0, k1, k2, k3⟩, ⟨y0, y1, y2, y3⟩, ⟨g0, g1⟩, lk, lg⟩ := ckF_cells H1.out.2
              have hS0 := k3
              (apply reg_take 0 rfl rfl (by decide +kernel) rfl); (intro w' _; go_simp; rfl); exact hS0; simp only [List.setIfInBounds_toArray, List.set_cons_succ, List.set_cons_zero]
              (apply reg_take 1 rfl rfl (by decide +kernel) rfl); (intro w' _; go_simp; rfl); exact hS0; simp only [List.setIfInBounds_toArray, List.set_cons_succ, List.set_cons_zero]
              (apply reg_take 2 rfl rfl (by decide +kernel) rfl); (intro w' h3'; go_simp; rfl); exact hS0; simp only [List.setIfInBounds_toArray, List.set_cons_succ, List.set_cons_zero]
              (apply reg_take 3 rfl rfl (by decide +kernel) rfl); (intro w' _; go_simp; rfl); exact hS0; simp only [List.setIfInBounds_toArray, List.set_cons_succ, List.set_cons_zero]
              refine reg_take 4 (v := .string (strB (a.take n))) rfl rfl (by decide +kernel) rfl (fun w' _ => exec_str_to (j := n) rfl Tryz.underlying9 rfl rfl HNA.out) hS0 ?_; simp only [List.setIfInBounds_toArray, List.set_cons_succ, List.set_cons_zero]
              (apply reg_take 5 rfl rfl (by decide +kernel) rfl); (intro w' _; go_simp; rfl); exact hS0; simp only [List.setIfInBounds_toArray, List.set_cons_succ, List.set_cons_zero]
              refine reg_do 6 (wx.setCell ⟨kB, 2, none⟩ (.int .i64 sv)) rfl rfl (by decide +kernel) rfl (by go_simp) (by go_simp) ?_
              (apply reg_take 7 rfl rfl (by decide +kernel) rfl); (intro w' _; go_simp; rfl); exact (show (wx.setCell ⟨kB, 2, none⟩ (.int .i64 sv)).cell? ⟨kB, 3, none⟩ = some (.string (strB a)) from by go_simp); simp only [List.setIfInBounds_toArray, List.set_cons_succ, List.set_cons_zero]
              refine reg_do_last 8 (((wx.setCell ⟨kB, 2, none⟩ (.int .i64 sv)).setCell ⟨kB, 3, none⟩ (.string (strB (a.take n))))) rfl rfl (by decide +kernel) rfl (by go_simp) ?_
              replace H1 := Lib.hid (And.intro ((H1.out.1.setCell ⟨kB, 2, none⟩ (.int .i64 sv)).setCell ⟨kB, 3, none⟩ (.string (strB (a.take n)))) (ckF_fin H1.out.2 (.int .i64 sv) (.string (strB (a.take n)))))
              generalize (wx.setCell ⟨kB, 2, none⟩ (.int .i64 sv)).setCell ⟨kB, 3, none⟩ (.string (strB (a.take n))) = wy at H1 ⊢
              clear hS0 k0 k1 k2 k3 y0 y1 y2 y3 g0 g1 lk lg
              obtain ⟨c1, c2, c3, ⟨f0, f1, f2, f3⟩, c4, c5, c6, c7⟩ := rdF_cells H1.out.2
              obtain ⟨k0, k1, k2, k3⟩ := rd_ck H1.out.2
              go_wp2
              have H2 := Lib.hid (And.intro ((((H1.out.1.setCell ⟨rB, 0, none⟩ (.int .i64 ge)).setCell ⟨rB, 1, none⟩ (.int .i64 gc)).setCell ⟨rB, 2, none⟩ (.int .i64 sv)).setCell ⟨rB, 3, none⟩ (.string (strB (a.take n)))) (rdF_res H1.out.2 (.int .i64 ge) (.int .i64 gc) (.int .i64 sv) (.string (strB (a.take n)))))
              refine bodyPost_ret (v := .tuple #[.agg #[.int .i64 ge, .int .i64 gc, .int .i64 sv, .string (strB (a.take n))], .int .i64 0]) (results2 Tryz.results20 (ResIs.row rfl H2.out.2.block Tryz.underlying44 rfl (infoCk rfl)) (.tmp rfl)) rfl ?_
              exact HFIN.out _ (⟨⟨ge, gc⟩, sv, a.take n⟩, 0) (pts kB (.cells #[.int .i64 ge, .int .i64 gc, .int .i64 sv, .string (strB (a.take n))] TCk (0, 0)) * (pts gB (.cells #[.int .i64 ge, .int .i64 gc] TGen (0, 0)) * X)) H2.out.1 (H2.out.2.perm (by ac_rfl)) HR2.out
    case inr =>
      go_upto_region 4 with (go_at_call 36; refine (HST.out w1 _ H1.out.2).mono ?_; rintro e w2 ⟨rfl, rfl⟩)
      clear HST e0
      have hck := HCK.out
      obtain ⟨⟨⟨ge, gc⟩, pl, er⟩, hr0⟩ : ∃ r, opnR S d 3 0 = r := ⟨_, rfl⟩
      have HOP0 := HOP.out w1 0 F H1.out.2
      rw [hr0] at HOP0 hck
      have HLEN := Lib.hid (fun h => opnR_len hr0 h)
      simp only at hck
      by_cases he : er = 0
      case neg =>
        have hed : (er != 0) = true := bne_iff_ne.2 he
        have hR2 : R = (ck0, er) := by rw [hck, if_pos he]
        have HR2 := Lib.hid hR2
        clear hck he HLEN hr0 hR2
        go_wp2_with (go_at_call 76; refine HOP0.mono ?_; rintro e w3 ⟨rfl, h3⟩; replace H1 := Lib.hid (And.intro (H1.out.1.trans h3.out.1) h3.out.2); clear c1 c2 c3 f0 f1 f2 f3 c4 c5 c6 c7; obtain ⟨c1, c2, c3, ⟨f0, f1, f2, f3⟩, c4, c5, c6, c7⟩ := rdF_cells H1.out.2; have lr := World.block_lt_of_cell? _ _ c4; clear h3)
        have H2 := Lib.hid (And.intro ((((H1.out.1.setCell ⟨rB, 0, none⟩ (.int .i64 0)).setCell ⟨rB, 1, none⟩ (.int .i64 0)).setCell ⟨rB, 2, none⟩ (.int .i64 0)).setCell ⟨rB, 3, none⟩ (.string ⟨#[]⟩)) (rdF_res H1.out.2 (.int .i64 0) (.int .i64 0) (.int .i64 0) (.string ⟨#[]⟩)))
        replace H2 := Lib.hid (And.intro (H2.out.1.alloc (.cells #[.int .i64 ge, .int .i64 gc] TGen)) (H2.out.2.allocKeep (.cells #[.int .i64 ge, .int .i64 gc] TGen)))
        refine bodyPost_ret (v := .tuple #[.agg #[.int .i64 0, .int .i64 0, .int .i64 0, .string ⟨#[]⟩], .int .i64 er]) (results2 Tryz.results20 (ResIs.row rfl H2.out.2.block Tryz.underlying44 rfl (infoCk rfl)) (.tmp rfl)) rfl ?_
        exact HFIN.out _ (ck0, er) emp H2.out.1 (H2.out.2.perm (by rw [emp_star]; rfl)) HR2.out
      case pos =>
        subst he
        have hed : ((0 : Int) != 0) = false := rfl
        replace HCK := Lib.hid (hck.trans (if_neg (by simp)))
        have HL40 := Lib.hid (HLEN.out rfl)
        clear hck hr0 HLEN
        go_upto_region 8 with (go_at_call 76; refine HOP0.mono ?_; rintro e w3 ⟨rfl, h3⟩; replace H1 := Lib.hid (And.intro (H1.out.1.trans h3.out.1) h3.out.2); clear c1 c2 c3 f0 f1 f2 f3 c4 c5 c6 c7; obtain ⟨c1, c2, c3, ⟨f0, f1, f2, f3⟩, c4, c5, c6, c7⟩ := rdF_cells H1.out.2; have lr := World.block_lt_of_cell? _ _ c4; clear h3)
        have hA := (H1.out.2.alloc (.cells #[.int .i64 ge, .int .i64 gc] TGen)).alloc (.cells #[.int .i64 ge, .int .i64 gc, .int .i64 0, .string ⟨#[]⟩] TCk)
        rw [World.size_alloc] at hA
        have hsm := (H1.out.1.alloc (.cells #[.int .i64 ge, .int .i64 gc] TGen)).alloc (.cells #[.int .i64 ge, .int .i64 gc, .int .i64 0, .string ⟨#[]⟩] TCk)
        clear HOP0 H1 c1 c2 c3 f0 f1 f2 f3 c4 c5 c6 c7 lr
        generalize (w3.alloc (.cells #[.int .i64 ge, .int .i64 gc] TGen)).alloc (.cells #[.int .i64 ge, .int .i64 gc, .int .i64 0, .string ⟨#[]⟩] TCk) = w4 at hA hsm ⊢
        generalize w3.heap.size + 1 = kB at hA ⊢
        generalize w3.heap.size = gB at hA ⊢
        obtain ⟨row, fr, cap, hrun, hrow, hcp⟩ := str_bytes6 pl w4
        have hA5 := hA.drew.alloc (.cells row TByte fr)
        have hsm5 := hsm.drew.alloc (.cells row TByte fr)
        generalize w4.drew.alloc (.cells row TByte fr) = w5 at hrun hA5 hsm5
        rw [show w4.drew.heap.size = w4.heap.size from rfl] at hA5
        generalize w4.heap.size = bB at hrun hA5
        have hbc : ∀ (W : World) (Y : HProp), Sat W (pts bB (.cells row TByte fr) * Y) → BytesC W (.slice (some ⟨bB, 0, none⟩) pl.length cap) pl := fun W Y h => ⟨_, _, rfl, hcp, fun _ => ⟨bB, 0, rfl, fun j x hx => by
          rw [Nat.zero_add, cells_at h.block]
          exact hrow j _ (by rw [secL, List.getElem?_map, hx]; rfl)⟩⟩
        have HHD := Lib.hid (show ∀ (W : World) (Y : HProp), Sat W (pts bB (.cells row TByte fr) * Y) → Calls Tryz.prog 79 #[.slice (some ⟨bB, 0, none⟩) pl.length cap, .int .i64 (capM S.cfg)] W (HeadOut pl (capM S.cfg) W) from fun W Y h => ckhead_any _ pl (capM S.cfg) W (hbc W Y h) (by rw [HL40.out]; decide))
        have HCFG := Lib.hid (show ∀ (W : World) (X Y : HProp), Sat W (X * (rdF p S sB dB aB rB d 3 Y)) → Calls Tryz.prog 26 #[.pointer (some ⟨p, 0, none⟩)] W fun e w' => e = .returned (.agg (cfgA S.cfg)) ∧ Below W.heap.size W w' from fun W X Y h => config_any p S _ W h.right)
        have H5 := Lib.hid (show Same w w5 ∧ Sat w5 (pts bB (.cells row TByte fr) * (rdF p S sB dB aB rB d 3 (pts kB (.cells #[.int .i64 ge, .int .i64 gc, .int .i64 0, .string ⟨#[]⟩] TCk (0, 0)) * (pts gB (.cells #[.int .i64 ge, .int .i64 gc] TGen (0, 0)) * F)))) from ⟨hsm5, hA5.perm (by unfold rdF; ac_rfl)⟩)
        have HRUN := Lib.hid hrun
        clear hA hsm hA5 hsm5 hrun hrow hcp hbc
        refine wp_region_lit ?_
        (apply wpList_runG rfl); (go_simp; first | rfl | exact ⟨rfl, rfl⟩); simp only [Act.put, List.setIfInBounds_toArray, List.set_cons_succ, List.set_cons_zero]
        refine wpList_runG (v := .slice (some ⟨bB, 0, none⟩) pl.length cap) rfl (exec_convert rfl rfl HRUN.out) ?_; simp only [Act.put, List.setIfInBounds_toArray, List.set_cons_succ, List.set_cons_zero]
        clear HRUN
        obtain ⟨c1, -⟩ := rdF_cells H5.out.2.right
        obtain ⟨mx, hmx⟩ : ∃ mx, capM S.cfg = mx := ⟨_, rfl⟩
        rw [hmx] at HHD HCAP HCK
        have HMX := Lib.hid (show mx ≤ 65536 * 40 from by rw [← hmx]; have := HWF.out.cfg.image; unfold capM; omega)
        clear hmx HL40
        generalize pl.length = len at HHD ⊢
        go_upto_region 9 with (first
          | (go_at_call 26; refine (HCFG.out w5 _ _ H5.out.2).mono ?_; rintro e w6 ⟨rfl, hb⟩; replace H5 := Lib.hid (And.intro (H5.out.1.below hb) (H5.out.2.below hb)); clear hb c1; obtain ⟨c1, -⟩ := rdF_cells H5.out.2.right)
          | (go_at_call 22; refine (HCAP.out w6).mono ?_; rintro e w7 ⟨rfl, hb⟩; replace H5 := Lib.hid (And.intro (H5.out.1.below hb) (H5.out.2.below hb)); clear hb c1)
          | (go_at_call 79; refine (HHD.out w7 _ H5.out.2).mono ?_; rintro e w8 ⟨sv, nv, okv, rfl, rfl, hh⟩; have HH := Lib.hid hh; clear hh))
        have H1 := Lib.hid (show Same w w7 ∧ Sat w7 (ckF p S sB dB aB rB kB gB d 3 ge gc (.string (strB [])) (pts bB (.cells row TByte fr) * F)) from ⟨H5.out.1, H5.out.2.perm (by unfold ckF rdF; ac_rfl)⟩)
        clear H5 HHD HCFG HCAP
        cases hm : headM pl mx with
        | none =>
          have hok : okv = false := by rw [HH.out.1, hm]; rfl
          subst hok
          have HR2 := Lib.hid (show R = (ck0, 12) from by rw [HCK.out, hm])
          obtain ⟨c1, c2, c3, ⟨f0, f1, f2, f3⟩, c4, c5, c6, c7⟩ := rdF_cells (show Sat w7 (rdF p S sB dB aB rB d 3 _) from H1.out.2)
          clear hm
          go_wp2
          have H2 := Lib.hid (And.intro ((((H1.out.1.setCell ⟨rB, 0, none⟩ (.int .i64 0)).setCell ⟨rB, 1, none⟩ (.int .i64 0)).setCell ⟨rB, 2, none⟩ (.int .i64 0)).setCell ⟨rB, 3, none⟩ (.string ⟨#[]⟩)) (rdF_res (show Sat w7 (rdF p S sB dB aB rB d 3 _) from H1.out.2) (.int .i64 0) (.int .i64 0) (.int .i64 0) (.string ⟨#[]⟩)))
          refine bodyPost_ret (v := .tuple #[.agg #[.int .i64 0, .int .i64 0, .int .i64 0, .string ⟨#[]⟩], .int .i64 12]) (results2 Tryz.results20 (ResIs.row rfl H2.out.2.block Tryz.underlying44 rfl (infoCk rfl)) (.tmp rfl)) rfl ?_
          exact HFIN.out _ (ck0, 12) (pts kB (.cells #[.int .i64 ge, .int .i64 gc, .int .i64 0, .string (strB [])] TCk (0, 0)) * (pts gB (.cells #[.int .i64 ge, .int .i64 gc] TGen (0, 0)) * pts bB (.cells row TByte fr))) H2.out.1 (H2.out.2.perm (by ac_rfl)) HR2.out
        | some sn =>
          obtain ⟨s, n⟩ := sn
          have hok : okv = true := by rw [HH.out.1, hm]; rfl
          subst hok
          obtain ⟨rfl, rfl⟩ := HH.out.2 s n hm
          have HN := Lib.hid (show (n : Int) ≤ 65536 * 40 from Int.le_trans (headM_le hm) HMX.out)
          replace HCK := Lib.hid (show R = match imgK S d 3 ⟨ge, gc⟩ ((n + 39) / 40) with
            | none => (ck0, 12)
            | some a => (⟨⟨ge, gc⟩, sv, a.take n⟩, 0) from by rw [HCK.out, hm])
          clear hm HH HMX
          go_upto_region 12 with (fail)
          go_loopw [16] (fun iv wr => CkS w p S sB dB aB rB kB gB d 3 ge gc F n iv wr) (fun iv _ => n + 1 - (40 * ((intOf iv).toNat - 1)))
          case atStart => exact ⟨⟨0, [], _, Lib.hid ⟨by omega, rfl⟩, rfl, H1.out⟩⟩
          case round =>
            clear H1
            obtain ⟨k, a, X, HK, rfl, H1⟩ := hrel.st
            clear hrel
            obtain ⟨⟨k0, k1, k2, k3⟩, ⟨y0, y1, y2, y3⟩, ⟨g0, g1⟩, lk, lg⟩ := ckF_cells H1.out.2
            have hka := imgK_len HK.out.2
            obtain ⟨⟨⟨g', c'⟩, q, er⟩, hr⟩ : ∃ r, opnR S d 3 ((k : Int) + 1) = r := ⟨_, rfl⟩
            have HOP1 := HOP.out wr ((k : Int) + 1) _ H1.out.2
            rw [hr] at HOP1
            have hoi := opn_img HK.out.2 hr
            have HOI := Lib.hid hoi
            have HK0 := Lib.hid HK.out.1
            have hkn := HK.out.1
            have HN1 := HN.out
            clear hr hoi
            by_cases hlt : 40 * k < n
            · have hltd : decide (((strB a).size : Int) < (n : Int)) = true := decide_eq_true (by rw [strB_size, hka]; omega)
              have hltd2 : decide ((strB a).size < n) = true := decide_eq_true (by rw [strB_size, hka]; omega)
              have hw1 : IntKind.i64.wrap ((k : Int) + 1 + 1) = (k : Int) + 1 + 1 := IntWalk.i64_in _ (by omega)
              have HKM : imgK S d 3 ⟨ge, gc⟩ (k + 1) = none → R = (ck0, 12) := fun h => by
                obtain ⟨j, hj⟩ : ∃ j, (n + 39) / 40 = k + 1 + j := ⟨(n + 39) / 40 - (k + 1), by omega⟩
                rw [HCK.out, hj, imgK_mono h j]
              have HKM := Lib.hid HKM
              have HLT := Lib.hid (And.intro hlt hkn)
              have HKA := Lib.hid hka
              have HW1 := Lib.hid hw1
              clear hka hkn hlt hw1 HN1
              simp only [genA] at HOP1
              by_cases he : er = 0
              case neg =>
                have hed2 : (er != 0) = true := bne_iff_ne.2 he
                have HE := Lib.hid he
                clear he
                go_wp2_with (go_at_call 76; refine HOP1.mono ?_; rintro e wq ⟨rfl, h3⟩; replace H1 := Lib.hid (show Same w wq ∧ Sat wq (ckF p S sB dB aB rB kB gB d 3 ge gc (.string (strB a)) (X * F)) from ⟨H1.out.1.trans h3.out.1, h3.out.2⟩); clear h3 k0 k1 k2 k3 y0 y1 y2 y3 g0 g1 lk lg; obtain ⟨⟨k0, k1, k2, k3⟩, ⟨y0, y1, y2, y3⟩, ⟨g0, g1⟩, lk, lg⟩ := ckF_cells H1.out.2; obtain ⟨c1, c2, c3, ⟨f0, f1, f2, f3⟩, c4, c5, c6, c7⟩ := rdF_cells (show Sat wq (rdF p S sB dB aB rB d 3 _) from H1.out.2); have lr := World.block_lt_of_cell? _ _ c4)
                have HR2 := Lib.hid (HKM.out (HOI.out.1 (.inl HE.out)))
                have H2 := Lib.hid (And.intro ((((H1.out.1.setCell ⟨rB, 0, none⟩ (.int .i64 0)).setCell ⟨rB, 1, none⟩ (.int .i64 0)).setCell ⟨rB, 2, none⟩ (.int .i64 0)).setCell ⟨rB, 3, none⟩ (.string ⟨#[]⟩)) (rdF_res (show Sat wq (rdF p S sB dB aB rB d 3 _) from H1.out.2) (.int .i64 0) (.int .i64 0) (.int .i64 0) (.string ⟨#[]⟩)))
                replace H2 := Lib.hid (And.intro (H2.out.1.alloc (.cells #[.int .i64 g', .int .i64 c'] TGen)) (H2.out.2.allocKeep (.cells #[.int .i64 g', .int .i64 c'] TGen)))
                refine bodyPost_ret (v := .tuple #[.agg #[.int .i64 0, .int .i64 0, .int .i64 0, .string ⟨#[]⟩], .int .i64 12]) (results2 Tryz.results20 (ResIs.row rfl H2.out.2.block Tryz.underlying44 rfl (infoCk rfl)) (.tmp rfl)) rfl ?_
                exact HFIN.out _ (ck0, 12) (pts kB (.cells #[.int .i64 ge, .int .i64 gc, .int .i64 0, .string (strB a)] TCk (0, 0)) * (pts gB (.cells #[.int .i64 ge, .int .i64 gc] TGen (0, 0)) * X)) H2.out.1 (H2.out.2.perm (by ac_rfl)) HR2.out
              case pos =>
                subst he
                by_cases hge : g' = ge
                case neg =>
                  have hg1 : (g' == ge) = false := by simp [hge]
                  have HE := Lib.hid hge
                  clear hge
                  go_wp2_with (go_at_call 76; refine HOP1.mono ?_; rintro e wq ⟨rfl, h3⟩; replace H1 := Lib.hid (show Same w wq ∧ Sat wq (ckF p S sB dB aB rB kB gB d 3 ge gc (.string (strB a)) (X * F)) from ⟨H1.out.1.trans h3.out.1, h3.out.2⟩); clear h3 k0 k1 k2 k3 y0 y1 y2 y3 g0 g1 lk lg; obtain ⟨⟨k0, k1, k2, k3⟩, ⟨y0, y1, y2, y3⟩, ⟨g0, g1⟩, lk, lg⟩ := ckF_cells H1.out.2; obtain ⟨c1, c2, c3, ⟨f0, f1, f2, f3⟩, c4, c5, c6, c7⟩ := rdF_cells (show Sat wq (rdF p S sB dB aB rB d 3 _) from H1.out.2); have lr := World.block_lt_of_cell? _ _ c4)
                  have HR2 := Lib.hid (HKM.out (HOI.out.1 (.inr (fun h => HE.out (GenM.mk.inj h).1))))
                  have H2 := Lib.hid (And.intro ((((H1.out.1.setCell ⟨rB, 0, none⟩ (.int .i64 0)).setCell ⟨rB, 1, none⟩ (.int .i64 0)).setCell ⟨rB, 2, none⟩ (.int .i64 0)).setCell ⟨rB, 3, none⟩ (.string ⟨#[]⟩)) (rdF_res (show Sat wq (rdF p S sB dB aB rB d 3 _) from H1.out.2) (.int .i64 0) (.int .i64 0) (.int .i64 0) (.string ⟨#[]⟩)))
                  replace H2 := Lib.hid (And.intro (H2.out.1.alloc (.cells #[.int .i64 g', .int .i64 c'] TGen)) (H2.out.2.allocKeep (.cells #[.int .i64 g', .int .i64 c'] TGen)))
                  refine bodyPost_ret (v := .tuple #[.agg #[.int .i64 0, .int .i64 0, .int .i64 0, .string ⟨#[]⟩], .int .i64 12]) (results2 Tryz.results20 (ResIs.row rfl H2.out.2.block Tryz.underlying44 rfl (infoCk rfl)) (.tmp rfl)) rfl ?_
                  exact HFIN.out _ (ck0, 12) (pts kB (.cells #[.int .i64 ge, .int .i64 gc, .int .i64 0, .string (strB a)] TCk (0, 0)) * (pts gB (.cells #[.int .i64 ge, .int .i64 gc] TGen (0, 0)) * X)) H2.out.1 (H2.out.2.perm (by ac_rfl)) HR2.out
                case pos =>
                  replace hge := hge.symm
                  subst hge
                  by_cases hgc : c' = gc
                  case neg =>
                    have hg1 : (c' == gc) = false := by simp [hgc]
                    have HE := Lib.hid hgc
                    clear hgc
                    go_wp2_with (go_at_call 76; refine HOP1.mono ?_; rintro e wq ⟨rfl, h3⟩; replace H1 := Lib.hid (show Same w wq ∧ Sat wq (ckF p S sB dB aB rB kB gB d 3 ge gc (.string (strB a)) (X * F)) from ⟨H1.out.1.trans h3.out.1, h3.out.2⟩); clear h3 k0 k1 k2 k3 y0 y1 y2 y3 g0 g1 lk lg; obtain ⟨⟨k0, k1, k2, k3⟩, ⟨y0, y1, y2, y3⟩, ⟨g0, g1⟩, lk, lg⟩ := ckF_cells H1.out.2; obtain ⟨c1, c2, c3, ⟨f0, f1, f2, f3⟩, c4, c5, c6, c7⟩ := rdF_cells (show Sat wq (rdF p S sB dB aB rB d 3 _) from H1.out.2); have lr := World.block_lt_of_cell? _ _ c4)
                    have HR2 := Lib.hid (HKM.out (HOI.out.1 (.inr (fun h => HE.out (GenM.mk.inj h).2))))
                    have H2 := Lib.hid (And.intro ((((H1.out.1.setCell ⟨rB, 0, none⟩ (.int .i64 0)).setCell ⟨rB, 1, none⟩ (.int .i64 0)).setCell ⟨rB, 2, none⟩ (.int .i64 0)).setCell ⟨rB, 3, none⟩ (.string ⟨#[]⟩)) (rdF_res (show Sat wq (rdF p S sB dB aB rB d 3 _) from H1.out.2) (.int .i64 0) (.int .i64 0) (.int .i64 0) (.string ⟨#[]⟩)))
                    replace H2 := Lib.hid (And.intro (H2.out.1.alloc (.cells #[.int .i64 ge, .int .i64 c'] TGen)) (H2.out.2.allocKeep (.cells #[.int .i64 ge, .int .i64 c'] TGen)))
                    refine bodyPost_ret (v := .tuple #[.agg #[.int .i64 0, .int .i64 0, .int .i64 0, .string ⟨#[]⟩], .int .i64 12]) (results2 Tryz.results20 (ResIs.row rfl H2.out.2.block Tryz.underlying44 rfl (infoCk rfl)) (.tmp rfl)) rfl ?_
                    exact HFIN.out _ (ck0, 12) (pts kB (.cells #[.int .i64 ge, .int .i64 gc, .int .i64 0, .string (strB a)] TCk (0, 0)) * (pts gB (.cells #[.int .i64 ge, .int .i64 gc] TGen (0, 0)) * X)) H2.out.1 (H2.out.2.perm (by ac_rfl)) HR2.out
                  case pos =>
                    replace hgc := hgc.symm
                    subst hgc
                    obtain ⟨hi, hq⟩ := HOI.out.2 rfl rfl
                    have HI := Lib.hid (And.intro hi hq)
                    clear hi hq HOI
                    go_upto_region 17 with (go_at_call 76; refine HOP1.mono ?_; rintro e wq ⟨rfl, h3⟩; replace H1 := Lib.hid (show Same w wq ∧ Sat wq (ckF p S sB dB aB rB kB gB d 3 ge gc (.string (strB a)) (X * F)) from ⟨H1.out.1.trans h3.out.1, h3.out.2⟩); clear h3 k0 k1 k2 k3 y0 y1 y2 y3 g0 g1 lk lg; obtain ⟨⟨k0, k1, k2, k3⟩, ⟨y0, y1, y2, y3⟩, ⟨g0, g1⟩, lk, lg⟩ := ckF_cells H1.out.2; obtain ⟨c1, c2, c3, ⟨f0, f1, f2, f3⟩, c4, c5, c6, c7⟩ := rdF_cells (show Sat wq (rdF p S sB dB aB rB d 3 _) from H1.out.2); have lr := World.block_lt_of_cell? _ _ c4)
                    refine wp_region_lit ?_
                    (apply wpList_runG rfl); (go_simp; first | rfl | exact ⟨rfl, rfl⟩); simp only [Act.put, List.setIfInBounds_toArray, List.set_cons_succ, List.set_cons_zero]
                    (apply wpList_runG rfl); (go_simp; first | rfl | exact ⟨rfl, rfl⟩); simp only [Act.put, List.setIfInBounds_toArray, List.set_cons_succ, List.set_cons_zero]
                    (apply wpList_runG rfl); (go_simp; first | rfl | exact ⟨rfl, rfl⟩); simp only [Act.put, List.setIfInBounds_toArray, List.set_cons_succ, List.set_cons_zero]
                    refine wpList_runG (v := .string (strB (a ++ q))) rfl (exec_str_add6 rfl rfl rfl rfl (by have := HI.out.2; have := HKA.out; have := HLT.out; have := HN.out; omega)) ?_; simp only [Act.put, List.setIfInBounds_toArray, List.set_cons_succ, List.set_cons_zero]
                    have hw1 := HW1.out
                    go_wp2
                    go_roundw
                    case rel => exact ⟨⟨k + 1, a ++ q, X, Lib.hid ⟨by have := HLT.out; omega, HI.out.1⟩, congrArg (Value.int .i64) (by omega), Lib.hid ⟨(H1.out.1.setCell _ _).alloc _, (ckF_set H1.out.2 (.string (strB (a ++ q)))).allocKeep _⟩⟩⟩
                    case measure =>
                      have := HLT.out
                      simp [intOf]; omega
            · have hltd : decide (((strB a).size : Int) < (n : Int)) = false := decide_eq_false (by rw [strB_size, hka]; omega)
              have hltd2 : decide ((strB a).size < n) = false := decide_eq_false (by rw [strB_size, hka]; omega)
              have HR2 : Hid (R = (⟨⟨ge, gc⟩, sv, a.take n⟩, 0)) := Lib.hid (by
                rw [HCK.out, show (n + 39) / 40 = k by omega, HK.out.2])
              have HNA := Lib.hid (show n ≤ a.length by rw [hka]; omega)
              clear hka hkn hlt HOP1 HOI HN1
              go_upto_region 18 with (fail)
              refine reg_begin (fun w' => w'.cell? ⟨kB, 3, none⟩ = some (.string (strB a))) (by kernel_rfl) ?_
              replace H1 := Lib.hid (And.intro H1.out.1.drew H1.out.2.drew)
              generalize wr.drew = wx at H1 ⊢
              clear k0 k1 k2 k3 y0 y1 y2 y3 g0 g1 lk lg
              obtain ⟨⟨k0, k1, k2, k3⟩, ⟨y0, y1, y2, y3⟩, ⟨g0, g1⟩, lk, lg⟩ := ckF_cells H1.out.2
              have hS0 := k3
              (apply reg_take 0 rfl rfl (by decide +kernel) rfl); (intro w' _; go_simp; rfl); exact hS0; simp only [List.setIfInBounds_toArray, List.set_cons_succ, List.set_cons_zero]
              (apply reg_take 1 rfl rfl (by decide +kernel) rfl); (intro w' _; go_simp; rfl); exact hS0; simp only [List.setIfInBounds_toArray, List.set_cons_succ, List.set_cons_zero]
              (apply reg_take 2 rfl rfl (by decide +kernel) rfl); (intro w' h3'; go_simp; rfl); exact hS0; simp only [List.setIfInBounds_toArray, List.set_cons_succ, List.set_cons_zero]
              (apply reg_take 3 rfl rfl (by decide +kernel) rfl); (intro w' _; go_simp; rfl); exact hS0; simp only [List.setIfInBounds_toArray, List.set_cons_succ, List.set_cons_zero]
              refine reg_take 4 (v := .string (strB (a.take n))) rfl rfl (by decide +kernel) rfl (fun w' _ => exec_str_to (j := n) rfl Tryz.underlying9 rfl rfl HNA.out) hS0 ?_; simp only [List.setIfInBounds_toArray, List.set_cons_succ, List.set_cons_zero]
              (apply reg_take 5 rfl rfl (by decide +kernel) rfl); (intro w' _; go_simp; rfl); exact hS0; simp only [List.setIfInBounds_toArray, List.set_cons_succ, List.set_cons_zero]
              refine reg_do 6 (wx.setCell ⟨kB, 2, none⟩ (.int .i64 sv)) rfl rfl (by decide +kernel) rfl (by go_simp) (by go_simp) ?_
              (apply reg_take 7 rfl rfl (by decide +kernel) rfl); (intro w' _; go_simp; rfl); exact (show (wx.setCell ⟨kB, 2, none⟩ (.int .i64 sv)).cell? ⟨kB, 3, none⟩ = some (.string (strB a)) from by go_simp); simp only [List.setIfInBounds_toArray, List.set_cons_succ, List.set_cons_zero]
              refine reg_do_last 8 (((wx.setCell ⟨kB, 2, none⟩ (.int .i64 sv)).setCell ⟨kB, 3, none⟩ (.string (strB (a.take n))))) rfl rfl (by decide +kernel) rfl (by go_simp) ?_
              replace H1 := Lib.hid (And.intro ((H1.out.1.setCell ⟨kB, 2, none⟩ (.int .i64 sv)).setCell ⟨kB, 3, none⟩ (.string (strB (a.take n)))) (ckF_fin H1.out.2 (.int .i64 sv) (.string (strB (a.take n)))))
              generalize (wx.setCell ⟨kB, 2, none⟩ (.int .i64 sv)).setCell ⟨kB, 3, none⟩ (.string (strB (a.take n))) = wy at H1 ⊢
              clear hS0 k0 k1 k2 k3 y0 y1 y2 y3 g0 g1 lk lg
              obtain ⟨c1, c2, c3, ⟨f0, f1, f2, f3⟩, c4, c5, c6, c7⟩ := rdF_cells H1.out.2
              obtain ⟨k0, k1, k2, k3⟩ := rd_ck H1.out.2
              go_wp2
              have H2 := Lib.hid (And.intro ((((H1.out.1.setCell ⟨rB, 0, none⟩ (.int .i64 ge)).setCell ⟨rB, 1, none⟩ (.int .i64 gc)).setCell ⟨rB, 2, none⟩ (.int .i64 sv)).setCell ⟨rB, 3, none⟩ (.string (strB (a.take n)))) (rdF_res H1.out.2 (.int .i64 ge) (.int .i64 gc) (.int .i64 sv) (.string (strB (a.take n)))))
              refine bodyPost_ret (v := .tuple #[.agg #[.int .i64 ge, .int .i64 gc, .int .i64 sv, .string (strB (a.take n))], .int .i64 0]) (results2 Tryz.results20 (ResIs.row rfl H2.out.2.block Tryz.underlying44 rfl (infoCk rfl)) (.tmp rfl)) rfl ?_
              exact HFIN.out _ (⟨⟨ge, gc⟩, sv, a.take n⟩, 0) (pts kB (.cells #[.int .i64 ge, .int .i64 gc, .int .i64 sv, .string (strB (a.take n))] TCk (0, 0)) * (pts gB (.cells #[.int .i64 ge, .int .i64 gc] TGen (0, 0)) * X)) H2.out.1 (H2.out.2.perm (by ac_rfl)) HR2.out
end Go.Proofs.YtmcclbiaoeilkaaGreat
