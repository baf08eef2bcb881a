/- Scripts of law 17: what is handed in, and built with a script. -/
import Derived.Test.YtogmkbhbmmgidaaTd
import Derived.Test.YtogmkbhbmmgidaaRe
import Derived.Test.YtogmkbhbmmgidaaZl
namespace Go.Proofs.Ytogmkbhbmmgidaa
open Go.RowKit Go.Sl Go.ChangeMaps

theorem trod_rd {H : Type} {enc : TypeId × Value → H} {w : World} {t : TypeId} {v : Value} {d : DataW H} {ps : List MemPlace} (h : DataW.Trod enc Try.prog w 0 (fun _ => true) true t v d ps) : Rd Try.prog w t v.cells.toList := by
  obtain ⟨fuel, h⟩ := h
  exact ⟨H, enc, fuel, d, ps, h⟩
theorem rd_u8 {w : World} {cs : List Value} (h : Rd Try.prog w TB cs) : ∃ f : UInt8, cs = [.int .u8 (f.toNat : Int)] := by
  obtain ⟨n, rfl, hw⟩ := Rd.int Try.underlying5 h
  have hb := bounds_u8 hw
  obtain ⟨m, rfl⟩ := Int.eq_ofNat_of_zero_le hb.1
  refine ⟨UInt8.ofNat m, ?_⟩
  have : (UInt8.ofNat m).toNat = m := by simp; omega
  rw [this]
theorem i64_lt {n : Int} (h : (Lit.int .i64 n).wf = true) : n < 9223372036854775808 := by
  simp [Lit.wf, IntKind.min, IntKind.max, IntKind.bits, IntKind.signed] at h
  omega
set_option maxRecDepth 20000 in
theorem rd_cfg {w : World} {cs : List Value} (h : Rd Try.prog w TCfg cs) : ∃ c : CfgM, cs = cfgL c := by
  obtain ⟨hl, hf⟩ := Rd.struct Try.underlying23 h
  rw [show Try.prog.cellsOf TCfg = 6 by kernel_rfl] at hl
  have k1 : Try.prog.cellsOf 3 = 1 := by kernel_rfl
  match cs, hl with
  | [a0, a1, a2, a3, a4, a5], _ =>
    simp only [List.mem_cons, List.not_mem_nil, or_false, forall_eq_or_imp, forall_eq, k1, List.drop_zero, List.drop_succ_cons, List.take_succ_cons, List.take_zero] at hf
    obtain ⟨h0, h1, h2, h3, h4, h5⟩ := hf
    obtain ⟨n0, e0, _⟩ := Rd.int Try.underlying3 h0
    obtain ⟨n1, e1, _⟩ := Rd.int Try.underlying3 h1
    obtain ⟨n2, e2, _⟩ := Rd.int Try.underlying3 h2
    obtain ⟨n3, e3, _⟩ := Rd.int Try.underlying3 h3
    obtain ⟨n4, e4, _⟩ := Rd.int Try.underlying3 h4
    obtain ⟨n5, e5, _⟩ := Rd.int Try.underlying3 h5
    simp at e0 e1 e2 e3 e4 e5
    subst e0 e1 e2 e3 e4 e5
    exact ⟨⟨n0, n1, n2, n3, n4, n5⟩, rfl⟩
set_option maxRecDepth 20000 in
theorem rd_pl {w : World} {cs : List Value} (h : Rd Try.prog w TPl cs) : ∃ a : PlaceM, cs = (plA a).toList := by
  obtain ⟨hl, hf⟩ := Rd.struct Try.underlying25 h
  rw [show Try.prog.cellsOf TPl = 3 by kernel_rfl] at hl
  have k1 : Try.prog.cellsOf 3 = 1 := by kernel_rfl
  match cs, hl with
  | [a0, a1, a2], _ =>
    simp only [List.mem_cons, List.not_mem_nil, or_false, forall_eq_or_imp, forall_eq, k1, List.drop_zero, List.drop_succ_cons, List.take_succ_cons, List.take_zero] at hf
    obtain ⟨h0, h1, h2⟩ := hf
    obtain ⟨n0, e0, _⟩ := Rd.int Try.underlying3 h0
    obtain ⟨n1, e1, _⟩ := Rd.int Try.underlying3 h1
    obtain ⟨n2, e2, _⟩ := Rd.int Try.underlying3 h2
    simp at e0 e1 e2
    subst e0 e1 e2
    exact ⟨⟨n0, n1, n2⟩, rfl⟩
theorem rd_ints {w : World} {cs : List Value} (h : Rd Try.prog w 57 cs) : ∃ v l, cs = [v] ∧ IntsC w v l ∧ l.length ≤ maxLen := by
  obtain ⟨ao, len, cap, rfl, ⟨hm, hlc⟩, hc⟩ := Rd.sliceC (sz := 1) Try.underlying57 (by kernel_rfl) (by decide) h
  by_cases h0 : len = 0
  · subst h0
    exact ⟨_, [], rfl, ⟨ao, cap, rfl, Nat.zero_le _, fun h => absurd rfl h⟩, Nat.zero_le _⟩
  · obtain ⟨b, off, rfl, hi⟩ := hc (by omega)
    obtain ⟨l, hl, hp⟩ := list_of (p := fun i (n : Int) => w.cell? ⟨b, off + i * 1, none⟩ = some (.int .i64 n)) len (by
      intro i hlt
      obtain ⟨es, _, hr, hcell⟩ := hi i hlt
      obtain ⟨n, rfl, _⟩ := Rd.int Try.underlying3 hr
      exact ⟨n, hcell 0 _ rfl⟩)
    subst hl
    exact ⟨_, l, rfl, ⟨some ⟨b, off, none⟩, cap, rfl, hlc, fun _ => ⟨b, off, rfl, hp⟩⟩, hm⟩
structure OpWF (o : OpN) : Prop where
  n : o.n < 9223372036854775808
  picks : o.picks.length ≤ 9223372036854775807
set_option maxRecDepth 40000 in
theorem rd_op {w : World} {cs : List Value} (h : Rd Try.prog w TOp cs) : ∃ o v, cs = (opN o v).toList ∧ IntsC w v o.picks ∧ OpWF o := by
  obtain ⟨hl, hf⟩ := Rd.struct Try.underlying59 h
  rw [show Try.prog.cellsOf TOp = 11 by kernel_rfl] at hl
  have k1 : Try.prog.cellsOf 3 = 1 := by kernel_rfl
  have k2 : Try.prog.cellsOf 5 = 1 := by kernel_rfl
  have k3 : Try.prog.cellsOf 57 = 1 := by kernel_rfl
  have k4 : Try.prog.cellsOf TPl = 3 := by kernel_rfl
  match cs, hl with
  | [a0, a1, a2, a3, a4, a5, a6, a7, a8, a9, a10], _ =>
    simp only [List.mem_cons, List.not_mem_nil, or_false, forall_eq_or_imp, forall_eq, k1, k2, k3, k4, List.drop_zero, List.drop_succ_cons, List.take_succ_cons, List.take_zero] at hf
    obtain ⟨h0, h1, h2, h3, h4, h5, h6⟩ := hf
    obtain ⟨n0, e0, _⟩ := Rd.int Try.underlying3 h0
    obtain ⟨a, e1⟩ := rd_pl h1
    obtain ⟨b, e2⟩ := rd_pl h2
    obtain ⟨n3, e3, w3⟩ := Rd.int Try.underlying3 h3
    obtain ⟨f, e4⟩ := rd_u8 h4
    obtain ⟨n5, e5, _⟩ := Rd.int Try.underlying3 h5
    obtain ⟨v, l, e6, hi, hlm⟩ := rd_ints h6
    refine ⟨⟨n0, a, b, n3, f, n5, l⟩, v, ?_, hi, ⟨i64_lt w3, by show l.length ≤ _; unfold maxLen at hlm; omega⟩⟩
    simp at e0 e1 e2 e3 e4 e5 e6
    obtain ⟨rfl, rfl, rfl⟩ := e1
    obtain ⟨rfl, rfl, rfl⟩ := e2
    subst e0 e3 e4 e5 e6
    rfl
/-- A script: its operations lie one behind the other. -/
def ScrN (w : World) (v : Value) (l : List (OpN × Value)) : Prop := ∃ ao cap, v = .slice ao l.length cap ∧ (l ≠ [] → ∃ b off, ao = some ⟨b, off, none⟩ ∧ ∀ j o, l[j]? = some o → OpWF o.1 ∧ w.rangeAt b (off + j * 11) (opN o.1 o.2).toList ∧ IntsC w o.2 o.1.picks)
theorem rd_script {w : World} {cs : List Value} (h : Rd Try.prog w 39 cs) : ∃ v l, cs = [v] ∧ ScrN w v l := by
  obtain ⟨ao, len, cap, rfl, hm, hc⟩ := Rd.slice (sz := 11) Try.underlying39 (by kernel_rfl) (by decide) h
  by_cases h0 : len = 0
  · subst h0
    exact ⟨_, [], rfl, ⟨ao, cap, rfl, fun h => absurd rfl h⟩⟩
  · obtain ⟨b, off, rfl, hi⟩ := hc (by omega)
    obtain ⟨l, hl, hp⟩ := list_of (p := fun j (o : OpN × Value) => OpWF o.1 ∧ w.rangeAt b (off + j * 11) (opN o.1 o.2).toList ∧ IntsC w o.2 o.1.picks) len (by
      intro i hlt
      obtain ⟨es, _, hr, hcell⟩ := hi i hlt
      obtain ⟨o, v, rfl, hio, hwo⟩ := rd_op hr
      exact ⟨(o, v), hwo, hcell, hio⟩)
    subst hl
    exact ⟨_, l, rfl, ⟨some ⟨b, off, none⟩, cap, rfl, fun _ => ⟨b, off, rfl, hp⟩⟩⟩
theorem IntsC.old {w w' : World} {v : Value} {l : List Int} {P : HProp} (h : IntsC w v l) (hs : Sat w' (P * Sl.old w)) : IntsC w' v l := by
  have hk := hs.of_old
  have hcell : ∀ (a : Addr) u, w.cell? a = some u → w'.cell? a = some u := fun a u hu => (World.cell?_of_block (hk a.block (World.block_lt_of_cell? _ _ hu))).trans hu
  obtain ⟨ai, ci, rfl, hlc, h2⟩ := h
  refine ⟨ai, ci, rfl, hlc, fun hn => ?_⟩
  obtain ⟨b', off', rfl, h3⟩ := h2 hn
  exact ⟨b', off', rfl, fun i x hx => hcell _ _ (h3 i x hx)⟩
theorem ScrN.old {w w' : World} {v : Value} {l : List (OpN × Value)} {P : HProp} (h : ScrN w v l) (hs : Sat w' (P * Sl.old w)) : ScrN w' v l := by
  have hk := hs.of_old
  have hcell : ∀ (a : Addr) u, w.cell? a = some u → w'.cell? a = some u := fun a u hu => (World.cell?_of_block (hk a.block (World.block_lt_of_cell? _ _ hu))).trans hu
  obtain ⟨ao, cap, rfl, hc⟩ := h
  refine ⟨ao, cap, rfl, fun hne => ?_⟩
  obtain ⟨b, off, rfl, hp⟩ := hc hne
  refine ⟨b, off, rfl, fun j o hj => ?_⟩
  obtain ⟨hwo, h1, h2⟩ := hp j o hj
  exact ⟨hwo, fun i u hu => hcell _ _ (h1 i u hu), IntsC.old h2 hs⟩

/-! ### scripts on the plain model -/
def runN (S : ShelfM) (l : List (OpN × Value)) : ShelfM := l.foldl (fun S o => (doN S o.1).1) S
theorem runN_take (S : ShelfM) {l : List (OpN × Value)} {k : Nat} {o : OpN × Value} (h : l[k]? = some o) : runN S (l.take (k + 1)) = (doN (runN S (l.take k)) o.1).1 := by
  rw [List.take_add_one, h]; simp [runN, List.foldl_append]
theorem step_images (S : ShelfM) (d : Int) (f : DiskM → DiskM) : (S.step d f).1.images = S.images := by
  unfold ShelfM.step
  split; rfl
  split; rfl
  split
  · split <;> rfl
  · rfl
theorem flush_images (S : ShelfM) (d : Int) : (S.flush d).1.images = S.images := by
  unfold ShelfM.flush; split
  · rfl
  · exact step_images S d _
theorem flushFrom_images : ∀ (m : Nat) (S : ShelfM) (k : Nat), (S.flushFrom k m).1.images = S.images
  | 0, _, _ => rfl
  | m + 1, S, k => by
    show (if S.state k ≠ 1 then S.flushFrom (k + 1) m else if (S.flush k).2 ≠ 0 then S.flush k else (S.flush k).1.flushFrom (k + 1) m).1.images = _
    split
    · exact flushFrom_images m S (k + 1)
    · split
      · exact flush_images S k
      · rw [flushFrom_images m, flush_images]
theorem arm_images (S : ShelfM) (a : PlaceM) (v : Bool) (f : DiskM → Int → DiskM × Int) : (S.arm a v f).1.images = S.images := by
  unfold ShelfM.arm
  split; rfl
  split <;> rfl
theorem doN_images (S : ShelfM) (o : OpN) : (doN S o).1.images.length ≤ S.images.length + 1 := by
  have key : ∀ S' : ShelfM, S'.images = S.images → S'.images.length ≤ S.images.length + 1 := fun S' h => by rw [h]; omega
  unfold doN
  by_cases q1 : o.kind = 1
  · rw [if_pos q1]; refine key _ ?_; show (S.write _ _).1.images = _; unfold ShelfM.write; split; rfl; exact step_images _ _ _
  rw [if_neg q1]
  by_cases q2 : o.kind = 2
  · rw [if_pos q2]; exact key _ rfl
  rw [if_neg q2]
  by_cases q3 : o.kind = 3
  · rw [if_pos q3]; exact key _ (flush_images _ _)
  rw [if_neg q3]
  by_cases q4 : o.kind = 4
  · rw [if_pos q4]; refine key _ ?_; show S.flushAll.1.images = _; unfold ShelfM.flushAll; split; rfl; exact flushFrom_images _ _ _
  rw [if_neg q4]
  by_cases q5 : o.kind = 5
  · rw [if_pos q5]; exact key _ rfl
  rw [if_neg q5]
  by_cases q6 : o.kind = 6
  · rw [if_pos q6]; exact key _ rfl
  rw [if_neg q6]
  by_cases q7 : o.kind = 7
  · rw [if_pos q7]; refine key _ ?_; show (S.kill _).1.images = _; unfold ShelfM.kill; split <;> rfl
  rw [if_neg q7]
  by_cases q8 : o.kind = 8
  · rw [if_pos q8]
    show (S.remove _).1.images.length ≤ _
    unfold ShelfM.remove
    split
    · show (S.images ++ [_]).length ≤ _
      rw [List.length_append]; exact Nat.le_refl _
    · exact Nat.le_succ _
  rw [if_neg q8]
  by_cases q9 : o.kind = 9
  · rw [if_pos q9]; refine key _ ?_; show (S.insert _ _).1.images = _; unfold ShelfM.insert; split; rfl; split; rfl; split <;> rfl
  rw [if_neg q9]
  by_cases q10 : o.kind = 10
  · rw [if_pos q10]; refine key _ ?_; show (S.replace _).1.images = _; unfold ShelfM.replace; split <;> rfl
  rw [if_neg q10]
  by_cases q11 : o.kind = 11
  · rw [if_pos q11]; exact key _ (arm_images _ _ _ _)
  rw [if_neg q11]
  by_cases q12 : o.kind = 12
  · rw [if_pos q12]; exact key _ (arm_images _ _ _ _)
  rw [if_neg q12]
  by_cases q13 : o.kind = 13
  · rw [if_pos q13]; exact key _ (arm_images _ _ _ _)
  rw [if_neg q13]
  exact key _ rfl
theorem runN_images : ∀ (l : List (OpN × Value)) (S : ShelfM), (runN S l).images.length ≤ S.images.length + l.length
  | [], S => by simp [runN]
  | o :: l, S => by
    have h1 := runN_images l (doN S o.1).1
    have h2 := doN_images S o.1
    show (runN (doN S o.1).1 l).images.length ≤ _
    simp only [List.length_cons]
    omega

structure BuSt (w : World) (p : Nat) (c : CfgM) (l : List (OpN × Value)) (F : HProp) (i : Value) (wr : World) : Prop where
  st : ∃ k : Nat, k ≤ l.length ∧ i = .int .i64 k ∧ Same w wr ∧ Sat wr (shelfAt SH p (runN (ShelfM.new c) (l.take k)) * F)

section
variable {ops : Array Oper} {rest : List Oper} {op : Oper} {a : Act} {w : World} {Q : Exit → Act → World → Prop}
theorem wp_load_scr {o : OpN} {pv : Value} {b off : Nat} (hr : w.rangeAt b off (opN o pv).toList) (hg : op.guard = none) (x : Operand) (ho : op.op = .load TOp x)
    (hx : a.eval x = .pointer (some ⟨b, off, none⟩)) (k : wpList Try.prog ops Q rest (a.put op.dst (.agg (opN o pv))) w) : wpList Try.prog ops Q (op :: rest) a w :=
  wpList_load_mid hg TOp x ho b off hx (opN o pv).toList _ hr Try.underlying59 rfl (by rw [infoTOp o pv]; rfl) k
end

set_option maxRecDepth 100000 in
set_option maxHeartbeats 2000000 in
theorem built_any (c : CfgM) (v : Value) (l : List (OpN × Value)) (F : HProp) (w : World) (hF : Sat w F) (hscr : ∀ w', Sat w' F → ScrN w' v l) (h1 : smallB c = true) (h2 : c.ok = true) (h3 : l.length ≤ 60) :
    Calls Try.prog 15 #[.agg (cfgA c), v] w fun e w' => ∃ p, e = .returned (.tuple #[.pointer (some ⟨p, 0, none⟩), .bool true]) ∧ Hid (Same w w' ∧ Sat w' (shelfAt SH p (runN (ShelfM.new c) l) * F)) := by
  obtain ⟨ao, cap, rfl, _⟩ := hscr w hF
  have HSC := Lib.hid hscr
  have H1 := Lib.hid (And.intro ((Same.refl w).alloc (.cells (cfgA c) TCfg)) (hF.alloc (.cells (cfgA c) TCfg)))
  have hsm := small_any c (w.alloc (.cells (cfgA c) TCfg))
  rw [h1] at hsm
  have hsb := (small_bound h1 h2).2
  have HB := Lib.hid (And.intro h2 (show c.sectors ≤ 65536 by omega))
  have hl : decide ((60 : Int) < (l.length : Int)) = false := decide_eq_false (by omega)
  clear hF h1 h2 hsb hscr
  go_enter Try.func15, Try.ntmps15
  go_wp2_with (first
    | (go_at_call 9; refine hsm.mono ?_; rintro e w1 ⟨rfl, hb⟩; replace H1 := Lib.hid (And.intro (H1.out.1.below hb.out) (H1.out.2.below hb.out)); obtain ⟨⟨b0, b1, b2⟩, ⟨b3, b4, b5⟩, bl, br⟩ := cfg_cells H1.out.2; clear hb hsm br)
    | (go_at_call 10; refine (snew_ok c _ _ H1.out.2 HB.out.1 HB.out.2).mono ?_; rintro e w2 ⟨p, rfl, h2⟩; replace H1 := Lib.hid (And.intro (H1.out.1.trans h2.out.1) (h2.out.2.perm (show _ = pts w.heap.size (.cells (cfgA c) TCfg (0, 0)) * (shelfAt SH p (ShelfM.new c) * F) from by ac_rfl)).right); clear h2 b0 b1 b2 b3 b4 b5 bl))
  go_loopw [8] (fun i wr => BuSt w p c l F i wr) (fun i _ => l.length - (intOf i).toNat)
  case atStart => exact ⟨0, Nat.zero_le _, rfl, H1.out⟩
  case round =>
    obtain ⟨k, hk, rfl, hsm, hs⟩ := hrel.st
    clear hrel H1
    have H1 := Lib.hid (And.intro hsm hs)
    clear hsm
    by_cases hlt : k < l.length
    · have hltd : decide ((k : Int) < (l.length : Int)) = true := decide_eq_true (by omega)
      have hk60 : (k : Int) ≤ 60 := by omega
      obtain ⟨o, ho⟩ : ∃ o, l[k]? = some o := ⟨_, List.getElem?_eq_getElem hlt⟩
      obtain ⟨ao', cap', hv, hcell⟩ := HSC.out wr hs.right
      simp only [Value.slice.injEq, true_and] at hv
      obtain ⟨rfl, rfl⟩ := hv
      obtain ⟨b, off, rfl, hc⟩ := hcell (by rintro rfl; simp at hlt)
      obtain ⟨hwo, hra, hpk⟩ := hc k o ho
      have him : (runN (ShelfM.new c) (l.take k)).images.length ≤ 1000000 := by
        have := runN_images (l.take k) (ShelfM.new c)
        have h0 : (ShelfM.new c).images.length = 0 := rfl
        rw [List.length_take] at this
        omega
      have hpk2 : ∀ w', Sat w' F → IntsC w' o.2 o.1.picks := by
        intro w' h
        obtain ⟨ao2, cap2, hv2, hcell2⟩ := HSC.out w' h
        simp only [Value.slice.injEq, true_and] at hv2
        obtain ⟨rfl, rfl⟩ := hv2
        obtain ⟨b2, off2, hb2, hc2⟩ := hcell2 (by rintro rfl; simp at hlt)
        exact (hc2 k o ho).2.2
      have hdo := do_any p (runN (ShelfM.new c) (l.take k)) F o.1 o.2 wr hs hpk2 hwo.picks him hwo.n
      unfold DoOut at hdo
      rw [← runN_take (ShelfM.new c) ho] at hdo
      have HDO := Lib.hid hdo
      clear hs hcell hc hwo hpk him hpk2 ho hdo
      go_wp2_with (first
        | ((with_reducible (apply wp_load_scr hra)); rfl; rfl; rfl)
        | (go_at_call 44; refine HDO.out.mono ?_; rintro e w2 ⟨rfl, h2⟩; replace H1 := Lib.hid (And.intro (H1.out.1.trans h2.1) h2.2); clear h2))
      go_roundw
      case rel => exact ⟨⟨k + 1, hlt, rfl, H1.out.1, H1.out.2⟩⟩
      case measure => simp only [intOf]; omega
    · obtain rfl : k = l.length := by omega
      have hltd : decide ((l.length : Int) < (l.length : Int)) = false := decide_eq_false (by omega)
      rw [List.take_length] at H1
      clear hs
      go_wp2
      go_ret2
      exact ⟨_, rfl, H1.out⟩

end Go.Proofs.Ytogmkbhbmmgidaa
