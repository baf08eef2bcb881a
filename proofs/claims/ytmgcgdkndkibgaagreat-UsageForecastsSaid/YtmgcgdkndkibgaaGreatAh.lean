import Derived.Test.YtmgcgdkndkibgaaGreatMr
import Derived.Test.YtmgcgdkndkibgaaGreatAq
import Derived.Test.YtmgcgdkndkibgaaGreatRh
import Derived.Test.YtmgcgdkndkibgaaGreatWe
/- Plain: what a forecast counts: the different blocks of a list that no mapping names; a map's way and a double loop's way agree. -/
namespace Go.Proofs.YtmgcgdkndkibgaaGreat
open Go Go.RowKit Go.Sl

theorem rev_ind {α : Type} {motive : List α → Prop} (nil : motive []) (append_singleton : ∀ l x, motive l → motive (l ++ [x])) (l : List α) : motive l := by
  have h : ∀ r : List α, motive r.reverse := by
    intro r
    induction r with
    | nil => exact nil
    | cons x r ih => rw [List.reverse_cons]; exact append_singleton _ _ ih
  have := h l.reverse
  rwa [List.reverse_reverse] at this
theorem keys_del (l : KV) (k : Int) : (del l k).map (·.1) = (l.map (·.1)).erase k := by
  induction l with
  | nil => rfl
  | cons p r ih =>
    obtain ⟨a, x⟩ := p
    unfold del
    by_cases h : k = a
    · subst h; simp
    · rw [if_neg h, List.map_cons, List.map_cons, ih, List.erase_cons_tail (by simpa using Ne.symm h)]
/-- The blocks asked for, each once. -/
def askK (v : Value) (l : List Int) : KV := l.foldl (fun m x => upd m x v) []
def dropK (m : KV) (ks : List Int) : KV := ks.foldl del m
theorem askK_snoc (v : Value) (l : List Int) (x : Int) : askK v (l ++ [x]) = upd (askK v l) x v := by simp [askK]
theorem dropK_snoc (m : KV) (l : List Int) (x : Int) : dropK m (l ++ [x]) = del (dropK m l) x := by simp [dropK]
theorem askK_mem (v : Value) (l : List Int) (x : Int) : x ∈ (askK v l).map (·.1) ↔ x ∈ l := by
  induction l using rev_ind with
  | nil => simp [askK]
  | append_singleton l y ih =>
    rw [askK_snoc, keys_upd]
    split
    · rename_i h
      rw [ih]
      constructor
      · intro h1; simp [h1]
      · intro h1
        rcases List.mem_append.1 h1 with h1 | h1
        · exact h1
        · simp at h1; subst h1; exact ih.1 h
    · rw [List.mem_append, ih, List.mem_append]
theorem askK_nodup (v : Value) (l : List Int) : ((askK v l).map (·.1)).Nodup := by
  induction l using rev_ind with
  | nil => simp [askK]
  | append_singleton l y ih => rw [askK_snoc]; exact nodup_upd ih _ _
theorem dropK_nodup {m : KV} (h : (m.map (·.1)).Nodup) (ks : List Int) : ((dropK m ks).map (·.1)).Nodup := by
  induction ks using rev_ind with
  | nil => exact h
  | append_singleton l y ih => rw [dropK_snoc]; exact nodup_del ih _
theorem dropK_keys {m : KV} (h : (m.map (·.1)).Nodup) (ks : List Int) : (dropK m ks).map (·.1) = (m.map (·.1)).filter fun x => !(ks.contains x) := by
  induction ks using rev_ind with
  | nil => exact (List.filter_eq_self.2 (by simp)).symm
  | append_singleton l y ih =>
    have hn := dropK_nodup h l
    rw [dropK_snoc, keys_del, hn.erase_eq_filter, ih, List.filter_filter]
    apply List.filter_congr
    intro x _
    rw [List.contains_eq_mem, List.contains_eq_mem]
    by_cases h1 : x ∈ l <;> by_cases h2 : x = y <;> simp [h1, h2]
/-- The double loop's count of the first k. -/
def cntG (l ks : List Int) : Nat → Nat
  | 0 => 0
  | k + 1 => cntG l ks k + if (match l[k]? with | some x => (l.take k).contains x || ks.contains x | none => true) then 0 else 1
theorem askK_take (v : Value) (l ks : List Int) : ∀ k, k ≤ l.length → (((askK v (l.take k)).map (·.1)).filter fun x => !(ks.contains x)).length = cntG l ks k
  | 0, _ => by simp [askK, cntG]
  | k + 1, hk => by
    have ih := askK_take v l ks k (by omega)
    obtain ⟨x, hx⟩ : ∃ x, l[k]? = some x := ⟨_, List.getElem?_eq_getElem (by omega)⟩
    rw [List.take_add_one, hx]
    simp only [Option.toList_some]
    rw [askK_snoc, keys_upd, cntG, ← ih, hx]
    by_cases h1 : x ∈ l.take k
    · rw [if_pos ((askK_mem v _ _).2 h1)]
      simp [h1]
    · rw [if_neg (fun h => h1 ((askK_mem v _ _).1 h)), List.filter_append, List.length_append]
      by_cases h2 : x ∈ ks <;> simp [h1, h2]
theorem grow_plain (v : Value) (l ks : List Int) : (dropK (askK v l) ks).length = cntG l ks l.length := by
  have h := askK_take v l ks l.length (Nat.le_refl _)
  rw [List.take_length] at h
  rw [← h, ← dropK_keys (askK_nodup v l), List.length_map]
end Go.Proofs.YtmgcgdkndkibgaaGreat

/- solventref28.Same: two lists of ints. Printed by as28.py out of XLr. -/
namespace Go.Proofs.YtmgcgdkndkibgaaGreat
open Go.RowKit Go.Vol Go.Sl
structure SameSt (w : World) (la lb : List Int) (i : Value) (wr : World) : Prop where
  st : ∃ k : Nat, k ≤ la.length ∧ i = .int .i64 k ∧ la.take k = lb.take k ∧ Below w.heap.size w wr

theorem IntsAt.row {w wr : World} {v : Value} {l : List Int} (h : IntsAt w v l) (hb : Below w.heap.size w wr) : IntsAt wr v l := by
  obtain ⟨ao, c, rfl, h⟩ := h
  refine ⟨ao, c, rfl, fun hne => ?_⟩
  obtain ⟨b, off, rfl, hc⟩ := h hne
  exact ⟨b, off, rfl, fun j x hj => (hb.cell (World.block_lt_of_cell? _ _ (hc j x hj))).trans (hc j x hj)⟩

set_option maxHeartbeats 400000 in
theorem same28_any (va vb : Value) (la lb : List Int) (w : World) (ha : IntsAt w va la) (hb : IntsAt w vb lb) (hm : la.length ≤ 4611686018427387904) :
    Calls Tryz.prog 24 #[va, vb] w fun e w' => e = .returned (.bool (decide (la = lb))) ∧ Below w.heap.size w w' := by
  obtain ⟨aa, ca, rfl, ha0⟩ := ha
  obtain ⟨ab, cb, rfl, hb0⟩ := hb
  by_cases hl : la.length = lb.length
  · by_cases hne : la = []
    · have hne' : lb = [] := by apply List.eq_nil_of_length_eq_zero; rw [← hl, hne]; rfl
      subst hne hne'
      clear ha0 hb0 hl
      go_enter Tryz.func24, Tryz.ntmps24
      go_wp2
      go_loopw [5] (fun i wr => i = .int .i64 0 ∧ wr = w) (fun i _ => 0)
      case atStart => exact ⟨rfl, rfl⟩
      case round =>
        obtain ⟨rfl, rfl⟩ := hrel
        go_wp2
        go_ret
        exact ⟨rfl, Below.refl _ _⟩
    obtain ⟨ba, oa, rfl, ha⟩ := ha0 hne
    obtain ⟨bb, ob, rfl, hb⟩ := hb0 (by rintro rfl; apply hne; apply List.eq_nil_of_length_eq_zero; rw [hl]; rfl)
    have hq : ((la.length : Int) != (lb.length : Int)) = false := by simp; omega
    have HL := Lib.hid hl
    have HA := Lib.hid ha
    have HB := Lib.hid hb
    obtain ⟨ti3, hti3, hz03, hts3, hz23⟩ := info_parts (show (Tryz.prog.info? 3).map (fun i => (i.zero, i.size, i.bytes)) = some (some (.int .i64 0), 1, 8) from by kernel_rfl)
    clear ha0 hb0 ha hb hl hz03 hz23
    go_enter Tryz.func24, Tryz.ntmps24
    go_wp2
    go_loopw [5] (fun i wr => SameSt w la lb i wr) (fun i _ => la.length - (intOf i).toNat)
    case atStart => exact ⟨⟨0, Nat.zero_le _, rfl, rfl, Below.refl _ _⟩⟩
    case round =>
      obtain ⟨k, hk, rfl, htk, hbw⟩ := hrel.st
      clear hrel
      have HT := Lib.hid htk
      have HBW := Lib.hid hbw
      by_cases hlt : k < la.length
      · have hltd : decide ((k : Int) < (la.length : Int)) = true := decide_eq_true (by omega)
        have hl2 := HL.out
        have hki : (k : Int) ≤ 4611686018427387904 := by omega
        obtain ⟨x, hx⟩ : ∃ x, la[k]? = some x := ⟨_, List.getElem?_eq_getElem hlt⟩
        obtain ⟨y, hy⟩ : ∃ y, lb[k]? = some y := ⟨_, List.getElem?_eq_getElem (by omega)⟩
        have hlt2 : k < lb.length := by omega
        have c1 : wr.cell? ⟨ba, oa + k * 1, none⟩ = some (.int .i64 x) := (hbw.cell (World.block_lt_of_cell? _ _ (HA.out k x hx))).trans (HA.out k x hx)
        have c2 : wr.cell? ⟨bb, ob + k * 1, none⟩ = some (.int .i64 y) := (hbw.cell (World.block_lt_of_cell? _ _ (HB.out k y hy))).trans (HB.out k y hy)
        have HX := Lib.hid hx
        have HY := Lib.hid hy
        clear hx hy hl2 htk hbw
        by_cases hxy : x = y
        · subst hxy
          have hn : (x != x) = false := by simp
          go_upto_region 6 with (fail)
          have hS0 : wr.drew.cell? ⟨ba, oa + k * 1, none⟩ = some (.int .i64 x) ∧ wr.drew.cell? ⟨bb, ob + k * 1, none⟩ = some (.int .i64 x) := ⟨c1, c2⟩
          refine reg_begin (fun w' => w'.cell? ⟨ba, oa + k * 1, none⟩ = some (.int .i64 x) ∧ w'.cell? ⟨bb, ob + k * 1, none⟩ = some (.int .i64 x)) (by kernel_rfl) ?_
          (apply reg_take 0 rfl rfl (by decide +kernel) rfl); (rintro w' ⟨h1, h2⟩; go_simp; rfl); exact hS0; simp only [List.setIfInBounds_toArray, List.set_cons_succ, List.set_cons_zero]
          (apply reg_take 1 rfl rfl (by decide +kernel) rfl); (rintro w' ⟨h1, h2⟩; go_simp; rfl); exact hS0; simp only [List.setIfInBounds_toArray, List.set_cons_succ, List.set_cons_zero]
          refine reg_take 2 (v := .pointer (some ⟨ba, oa + k * 1, none⟩)) rfl rfl (by decide +kernel) rfl (fun _ _ => exec_index_slice rfl rfl rfl Tryz.underlying32 hti3 hts3 hlt) hS0 ?_; simp only [List.setIfInBounds_toArray, List.set_cons_succ, List.set_cons_zero]
          refine reg_take 3 (v := .int .i64 x) rfl rfl (by decide +kernel) rfl (fun _ h => exec_load_cell rfl rfl Tryz.underlying3 rfl h.1) hS0 ?_; simp only [List.setIfInBounds_toArray, List.set_cons_succ, List.set_cons_zero]
          (apply reg_take 4 rfl rfl (by decide +kernel) rfl); (rintro w' ⟨h1, h2⟩; go_simp; rfl); exact hS0; simp only [List.setIfInBounds_toArray, List.set_cons_succ, List.set_cons_zero]
          (apply reg_take 5 rfl rfl (by decide +kernel) rfl); (rintro w' ⟨h1, h2⟩; go_simp; rfl); exact hS0; simp only [List.setIfInBounds_toArray, List.set_cons_succ, List.set_cons_zero]
          refine reg_take 6 (v := .pointer (some ⟨bb, ob + k * 1, none⟩)) rfl rfl (by decide +kernel) rfl (fun _ _ => exec_index_slice rfl rfl rfl Tryz.underlying32 hti3 hts3 hlt2) hS0 ?_; simp only [List.setIfInBounds_toArray, List.set_cons_succ, List.set_cons_zero]
          refine reg_take 7 (v := .int .i64 x) rfl rfl (by decide +kernel) rfl (fun _ h => exec_load_cell rfl rfl Tryz.underlying3 rfl h.2) hS0 ?_; simp only [List.setIfInBounds_toArray, List.set_cons_succ, List.set_cons_zero]
          (apply reg_take 8 rfl rfl (by decide +kernel) rfl); (rintro w' ⟨h1, h2⟩; go_simp; rfl); exact hS0; simp only [List.setIfInBounds_toArray, List.set_cons_succ, List.set_cons_zero]
          refine reg_done (by decide +kernel) ?_
          go_wp2
          go_roundw
          case rel =>
            refine ⟨⟨k + 1, hlt, rfl, ?_, HBW.out.drew⟩⟩
            rw [List.take_add_one, List.take_add_one, HT.out, HX.out, HY.out]
          case measure =>
            simp only [intOf]; omega
        · have hn : (x != y) = true := by simp [hxy]
          go_upto_region 6 with (fail)
          have hS0 : wr.drew.cell? ⟨ba, oa + k * 1, none⟩ = some (.int .i64 x) ∧ wr.drew.cell? ⟨bb, ob + k * 1, none⟩ = some (.int .i64 y) := ⟨c1, c2⟩
          refine reg_begin (fun w' => w'.cell? ⟨ba, oa + k * 1, none⟩ = some (.int .i64 x) ∧ w'.cell? ⟨bb, ob + k * 1, none⟩ = some (.int .i64 y)) (by kernel_rfl) ?_
          (apply reg_take 0 rfl rfl (by decide +kernel) rfl); (rintro w' ⟨h1, h2⟩; go_simp; rfl); exact hS0; simp only [List.setIfInBounds_toArray, List.set_cons_succ, List.set_cons_zero]
          (apply reg_take 1 rfl rfl (by decide +kernel) rfl); (rintro w' ⟨h1, h2⟩; go_simp; rfl); exact hS0; simp only [List.setIfInBounds_toArray, List.set_cons_succ, List.set_cons_zero]
          refine reg_take 2 (v := .pointer (some ⟨ba, oa + k * 1, none⟩)) rfl rfl (by decide +kernel) rfl (fun _ _ => exec_index_slice rfl rfl rfl Tryz.underlying32 hti3 hts3 hlt) hS0 ?_; simp only [List.setIfInBounds_toArray, List.set_cons_succ, List.set_cons_zero]
          refine reg_take 3 (v := .int .i64 x) rfl rfl (by decide +kernel) rfl (fun _ h => exec_load_cell rfl rfl Tryz.underlying3 rfl h.1) hS0 ?_; simp only [List.setIfInBounds_toArray, List.set_cons_succ, List.set_cons_zero]
          (apply reg_take 4 rfl rfl (by decide +kernel) rfl); (rintro w' ⟨h1, h2⟩; go_simp; rfl); exact hS0; simp only [List.setIfInBounds_toArray, List.set_cons_succ, List.set_cons_zero]
          (apply reg_take 5 rfl rfl (by decide +kernel) rfl); (rintro w' ⟨h1, h2⟩; go_simp; rfl); exact hS0; simp only [List.setIfInBounds_toArray, List.set_cons_succ, List.set_cons_zero]
          refine reg_take 6 (v := .pointer (some ⟨bb, ob + k * 1, none⟩)) rfl rfl (by decide +kernel) rfl (fun _ _ => exec_index_slice rfl rfl rfl Tryz.underlying32 hti3 hts3 hlt2) hS0 ?_; simp only [List.setIfInBounds_toArray, List.set_cons_succ, List.set_cons_zero]
          refine reg_take 7 (v := .int .i64 y) rfl rfl (by decide +kernel) rfl (fun _ h => exec_load_cell rfl rfl Tryz.underlying3 rfl h.2) hS0 ?_; simp only [List.setIfInBounds_toArray, List.set_cons_succ, List.set_cons_zero]
          (apply reg_take 8 rfl rfl (by decide +kernel) rfl); (rintro w' ⟨h1, h2⟩; go_simp; rfl); exact hS0; simp only [List.setIfInBounds_toArray, List.set_cons_succ, List.set_cons_zero]
          refine reg_done (by decide +kernel) ?_
          go_wp2
          go_ret
          have hd : decide (la = lb) = false := decide_eq_false (by rintro rfl; apply hxy; have h1 := HX.out; rw [HY.out] at h1; exact (Option.some.inj h1).symm)
          rw [hd]
          exact ⟨rfl, HBW.out.drew⟩
      · have hke : k = la.length := by omega
        have hltd : decide ((k : Int) < (la.length : Int)) = false := decide_eq_false (by omega)
        clear htk hbw
        go_wp2
        go_ret
        have hd : decide (la = lb) = true := decide_eq_true (by have := HT.out; rwa [hke, List.take_length, HL.out, List.take_length] at this)
        rw [hd]
        exact ⟨rfl, HBW.out⟩
  · have hq : ((la.length : Int) != (lb.length : Int)) = true := by simp; omega
    have hd : decide (la = lb) = false := decide_eq_false (by rintro rfl; exact hl rfl)
    rw [hd]
    clear hl ha0 hb0 hd
    go_enter Tryz.func24, Tryz.ntmps24
    go_wp2
    go_ret
    exact ⟨rfl, Below.refl _ _⟩
end Go.Proofs.YtmgcgdkndkibgaaGreat

/- usage.Grow: how a volume would grow by a list of blocks. -/
namespace Go.Proofs.YtmgcgdkndkibgaaGreat
open Go.RowKit Go.Vol Go.Sl Go.ChangeMaps

def badB (x : Int) : Bool := decide (x < 0) || decide (4096 ≤ x)
def growM (S : SpaceM) (v : Int) (l : List Int) : Int × Int := if (contM S v).2 ≠ 0 then (0, (contM S v).2) else if l.any badB then (0, 1) else ((cntG l ((contM S v).1.map fun y => (y.1 : Int)) l.length : Int), 0)
theorem len_kv {P : Program} {w : World} {T K E : TypeId} {r : Nat} {es : Array MapEntry} {clock : Nat} {l : KV} (hT : P.underlying T = some (.map K E)) (hb : w.heap[r]? = some (.map es clock)) (hl : MapL es clock l) (ty : TypeId) :
    (Builtin.len_ #[T] ty #[.map (some r)]).run P w = .ok (.int .i64 (l.length : Int)) w := by
  simp [Builtin.len_, run_underlying hT, MapKept.run_getObj_map hb, goInt, Result.andThen, hl.size]
structure GrSt (w1 : World) (mb : Nat) (l : List Int) (i : Value) (wr : World) : Prop where
  st : ∃ (k : Nat) (es : Array MapEntry) (ck : Nat), k ≤ l.length ∧ i = .int .i64 (k : Int) ∧ (l.take k).any badB = false ∧ MapL es ck (askK (.agg #[]) (l.take k)) ∧ Hid (Same w1 wr ∧ Sat wr (pts mb (.map es ck) * old w1))
structure DrSt (w1 : World) (mb : Nat) (m : KV) (L : List (Nat × Int)) (i : Value) (wr : World) : Prop where
  st : ∃ (k : Nat) (es : Array MapEntry) (ck : Nat), k ≤ L.length ∧ i = .int .i64 (k : Int) ∧ MapL es ck (dropK m ((L.take k).map fun y => (y.1 : Int))) ∧ Hid (Same w1 wr ∧ Sat wr (pts mb (.map es ck) * old w1))
set_option maxRecDepth 20000 in
set_option maxHeartbeats 4000000 in
theorem ugrow_any (p : Nat) (S : SpaceM) (v : Int) (l : List Int) (va : Value) (w : World) (hS : SpaceAt TNode TSp w p S) (ha : IntsAt w va l) (hm : l.length ≤ 1000000) :
    Calls Tryz.prog 16 #[.pointer (some ⟨p, 0, none⟩), .int .i64 v, va] w fun e w' => e = .returned (.tuple #[.int .i64 (growM S v l).1, .int .i64 (growM S v l).2]) ∧ Below w.heap.size w w' := by
  have HC := Lib.hid (contS_any p S v w hS)
  have hcl := contM_len S v
  clear hS
  obtain ⟨G, hG⟩ : ∃ G, Hid (growM S v l = G) := ⟨_, Lib.hid rfl⟩
  rw [hG.out]
  unfold growM at hG
  generalize contM S v = R at HC hcl hG
  obtain ⟨L, er⟩ := R
  obtain ⟨ai, ci, rfl, ha⟩ := ha
  have HA := Lib.hid ha
  clear ha
  have hmm := @run_makeMap Tryz.prog
  by_cases her : er = 0
  · subst her
    simp only at hcl HC ⊢
    go_enter Tryz.func16, Tryz.ntmps16
    go_upto_region 5 with (go_at_call 40; refine HC.out.mono ?_; rintro e w1 ⟨r, rfl, h1⟩; obtain ⟨ao, cap, rfl, _⟩ := id h1.out.2)
    clear hmm
    have HW := Lib.hid h1.out
    have H1 := Lib.hid (And.intro ((Same.refl w1).alloc (.map #[] 0)) ((Sat.old w1).alloc (.map #[] 0)))
    clear h1
    generalize w1.alloc (.map #[] 0) = w2 at H1 ⊢
    generalize w1.heap.size = mb at H1 ⊢
    go_wp2
    go_loopw [27] (fun i wr => GrSt w1 mb l i wr) (fun i _ => l.length - (intOf i).toNat)
    case atStart => exact ⟨⟨0, #[], 0, Nat.zero_le _, rfl, rfl, MapL.empty 0, H1.out⟩⟩
    case round =>
      obtain ⟨k, es, ck, hk, rfl, hno, hM, HX⟩ := hrel.st
      clear hrel H1
      have hbw := HW.out.1.trans ((HX.out.1.below_of HX.out.2).mono HW.out.1.size)
      have HM := Lib.hid (And.intro hno hM)
      clear hno hM
      by_cases hlt : k < l.length
      · have hltd : decide ((k : Int) < (l.length : Int)) = true := decide_eq_true (by omega)
        have hki : (k : Int) ≤ 1000000 := by omega
        obtain ⟨x, hx⟩ : ∃ x, l[k]? = some x := ⟨_, List.getElem?_eq_getElem hlt⟩
        obtain ⟨b, off, rfl, hc⟩ := HA.out (by rintro rfl; simp at hlt)
        have c0 : wr.cell? ⟨b, off + k, none⟩ = some (.int .i64 x) := by
          have := (hbw.cell (World.block_lt_of_cell? _ _ (hc k x hx))).trans (hc k x hx)
          rwa [Nat.mul_one] at this
        have hwk : IntKind.i64.wrap ((k : Int) + 1) = (k : Int) + 1 := IntWalk.i64_in _ (by omega)
        have HB := Lib.hid (And.intro hbw hx)
        have htk : l.take (k + 1) = l.take k ++ [x] := by rw [List.take_add_one, hx]; rfl
        have HT := Lib.hid htk
        clear hc hx hbw htk
        by_cases hbad : x < 0 ∨ 4096 ≤ x
        · have hany : l.any badB = true := by
            rw [List.any_eq_true]; exact ⟨x, List.mem_of_getElem? HB.out.2, by unfold badB; rcases hbad with h | h <;> simp [h]⟩
          have HN := Lib.hid hany
          clear hany
          by_cases hx0 : x < 0
          · have hd0 : decide (x < 0) = true := decide_eq_true hx0
            clear hbad
            go_wp2
            go_ret2
            obtain rfl : (0, 1) = G := by rw [← hG.out, HN.out]; rfl
            exact ⟨rfl, HB.out.1⟩
          · have hd0 : decide (x < 0) = false := decide_eq_false hx0
            have hx1 : 4096 ≤ x := by omega
            have hd1 : decide (4096 ≤ x) = true := decide_eq_true hx1
            clear hbad
            go_wp2
            go_ret2
            obtain rfl : (0, 1) = G := by rw [← hG.out, HN.out]; rfl
            exact ⟨rfl, HB.out.1⟩
        · have hx0 : ¬ x < 0 := fun h => hbad (.inl h)
          have hx1 : ¬ 4096 ≤ x := fun h => hbad (.inr h)
          have hd0 : decide (x < 0) = false := decide_eq_false hx0
          have hd1 : decide (4096 ≤ x) = false := decide_eq_false hx1
          have hb : badB x = false := by unfold badB; rw [hd0, hd1]; rfl
          obtain ⟨es4, ck4, hup, hM4⟩ := run_mapUpdate_kv (P := Tryz.prog) (w := wr) Tryz.underlying91 Tryz.underlying3 HX.out.2.block HM.out.2 x (.agg #[])
          have H5 := Lib.hid (And.intro (HX.out.1.setBlock (r := mb) (.map es4 ck4)) (HX.out.2.setBlock (o' := .map es4 ck4)))
          have HM4 := Lib.hid (And.intro hb hM4)
          clear hM4 hb hbad
          go_wp2
          go_roundw
          case rel => exact ⟨⟨k + 1, es4, ck4, hlt, rfl, by rw [HT.out, List.any_append, HM.out.1]; simpa using HM4.out.1, by rw [HT.out, askK_snoc]; exact HM4.out.2, H5.out⟩⟩
          case measure => simp only [intOf]; omega
      · obtain rfl : k = l.length := by omega
        have hltd : decide ((l.length : Int) < (l.length : Int)) = false := decide_eq_false (by omega)
        have hnlt : ¬ (l.length : Int) < (l.length : Int) := by omega
        rw [List.take_length] at HM
        go_wp2
        clear hbw
        go_loopw [43] (fun i wr => DrSt w1 mb (askK (.agg #[]) l) L i wr) (fun i _ => L.length - (intOf i).toNat)
        case atStart => exact ⟨⟨0, es, ck, Nat.zero_le _, rfl, HM.out.2, HX.out⟩⟩
        case round =>
          clear HX
          have HM0 := Lib.hid HM.out.1
          clear HM
          obtain ⟨k, es, ck, hk, rfl, hM, HX⟩ := hrel.st
          clear hrel
          have hbw := (HX.out.1.below_of HX.out.2)
          have HM := Lib.hid hM
          clear hM
          by_cases hlt2 : k < L.length
          · have hltd2 : decide ((k : Int) < (L.length : Int)) = true := decide_eq_true (by omega)
            have hki : (k : Int) ≤ 4096 := by omega
            obtain ⟨x, hx⟩ : ∃ x, L[k]? = some x := ⟨_, List.getElem?_eq_getElem hlt2⟩
            obtain ⟨b, rfl, hbl, e0, e1⟩ := ref_cells HW.out.2 hx
            have e0 := (hbw.cell (p := ⟨b, k * 2, none⟩) hbl).trans e0
            have e1 := (hbw.cell (p := ⟨b, k * 2 + 1, none⟩) hbl).trans e1
            have hwk : IntKind.i64.wrap ((k : Int) + 1) = (k : Int) + 1 := IntWalk.i64_in _ (by omega)
            have htk : L.take (k + 1) = L.take k ++ [x] := by rw [List.take_add_one, hx]; rfl
            have HT := Lib.hid htk
            have hs2 := HX.out.2.allocKeep (.cells #[.int .i64 (x.1 : Int), .int .i64 x.2] 94)
            obtain ⟨es3, ck3, hrun, hM3⟩ := run_delete_kv (P := Tryz.prog) Tryz.underlying91 Tryz.underlying3 hs2.block HM.out (x.1 : Int)
            have H5 := Lib.hid (And.intro ((HX.out.1.alloc (.cells #[.int .i64 (x.1 : Int), .int .i64 x.2] 94)).setBlock (r := mb) (.map es3 ck3)) (hs2.setBlock (o' := .map es3 ck3)))
            have HM3 := Lib.hid hM3
            clear hM3 hs2 hx htk hbw
            go_wp2_with ((with_reducible (apply wpList_delete_run (hrun := hrun))); rfl; rfl; rfl; rfl)
            go_roundw
            case rel => exact ⟨⟨k + 1, es3, ck3, hlt2, rfl, by rw [HT.out, List.map_append, List.map_cons, List.map_nil, dropK_snoc]; exact HM3.out, H5.out⟩⟩
            case measure => simp only [intOf]; omega
          · obtain rfl : k = L.length := by omega
            have hltd2 : decide ((L.length : Int) < (L.length : Int)) = false := decide_eq_false (by omega)
            have hnlt2 : ¬ (L.length : Int) < (L.length : Int) := by omega
            rw [List.take_length] at HM
            have hlen := len_kv (P := Tryz.prog) Tryz.underlying91 HX.out.2.block HM.out
            rw [grow_plain] at hlen
            obtain rfl : ((cntG l (L.map fun y => (y.1 : Int)) l.length : Int), (0 : Int)) = G := by rw [← hG.out, HM0.out]; rfl
            go_wp2
            go_ret2
            exact ⟨rfl, HW.out.1.trans (hbw.mono HW.out.1.size)⟩
  · obtain rfl : (0, er) = G := by rw [← hG.out, if_pos her]
    clear hmm
    have hne : (er != 0) = true := by simpa using her
    go_enter Tryz.func16, Tryz.ntmps16
    go_wp2_with (go_at_call 40; refine HC.out.mono ?_; rintro e w1 ⟨r, rfl, h1⟩; obtain ⟨ao, cap, rfl, _⟩ := id h1.out.2)
    go_ret2
    exact ⟨rfl, h1.out.1⟩
end Go.Proofs.YtmgcgdkndkibgaaGreat
