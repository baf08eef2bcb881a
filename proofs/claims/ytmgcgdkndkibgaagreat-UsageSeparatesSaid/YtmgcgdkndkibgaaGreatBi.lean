/- UsageSeparates: for every space that at most 80 operations build, and any two different tenants: no chunk is exclusive to both, none that is exclusive to one is shared, and a chunk to which only one tenant refers is exclusive to it. Printed by bi.py. -/
import Derived.Test.YtmgcgdkndkibgaaGreatBd
namespace Go.Proofs.YtmgcgdkndkibgaaGreat
open Go.RowKit Go.Vol Go.Sl Go.ChangeMaps Go.ChangeShapes Go.WideShapes Go.ChangeAt

theorem cntOf_pos (c : Int) (t : Nat) : ∀ (l : List PartM) (f : Nat → Int), 0 ≤ f t → (0 < cntOf l c f t ↔ 0 < f t ∨ ∃ p ∈ l, p.tenant.toNat = t ∧ 0 < hits c (items p.m))
  | [], f, h => by simp [cntOf]
  | p :: r, f, h => by
    have e : cntOf (p :: r) c f = cntOf r c (bump f p.tenant.toNat (hits c (items p.m))) := rfl
    have h2 : 0 ≤ bump f p.tenant.toNat (hits c (items p.m)) t := by unfold bump; split <;> omega
    rw [e, cntOf_pos c t r _ h2]
    unfold bump
    constructor
    · rintro (h3 | ⟨q, hq, h4⟩)
      · split at h3
        · rename_i ht
          rcases Nat.eq_zero_or_pos (hits c (items p.m)) with h5 | h5
          · rw [h5] at h3; exact .inl (by simpa using h3)
          · exact .inr ⟨p, by simp, ht.symm, h5⟩
        · exact .inl h3
      · exact .inr ⟨q, by simp [hq], h4⟩
    · rintro (h3 | ⟨q, hq, h4, h5⟩)
      · left; split <;> omega
      · rcases List.mem_cons.1 hq with rfl | hq
        · left; rw [if_pos h4.symm]; omega
        · exact .inr ⟨q, hq, h4, h5⟩
theorem hits_pos {c : Int} {l : List (Nat × Int)} : 0 < hits c l ↔ ∃ y ∈ l, y.2 = c := by
  unfold hits
  rw [List.length_pos_iff_exists_mem]
  constructor
  · rintro ⟨y, hy⟩
    obtain ⟨h1, h2⟩ := List.mem_filter.1 hy
    exact ⟨y, h1, eq_of_beq h2⟩
  · rintro ⟨y, h1, h2⟩
    exact ⟨y, List.mem_filter.2 ⟨h1, beq_iff_eq.2 h2⟩⟩
theorem cntS_pos {S : SpaceM} (h : S.WF) {c : Int} {t : Nat} : 0 < cntS S c t ↔ (c, (t : Int)) ∈ pairsS S := by
  unfold cntS
  have h0 : 0 ≤ cntOf S.vols c zeroF t := cntOf_nonneg c t _ _ (Int.le_refl _)
  rw [cntOf_pos c t _ _ h0, cntOf_pos c t _ _ (Int.le_refl _)]
  unfold pairsS
  rw [List.mem_append, mem_pairsL, mem_pairsL]
  have key : ∀ (L : List PartM), (∀ p ∈ L, p.WF) → ((∃ p ∈ L, p.tenant.toNat = t ∧ 0 < hits c (items p.m)) ↔ ∃ p ∈ L, p.tenant = (t : Int) ∧ ∃ y ∈ items p.m, y.2 = c) := by
    intro L hL
    constructor
    · rintro ⟨p, hp, h1, h2⟩
      have := (hL p hp).ten
      exact ⟨p, hp, by omega, hits_pos.1 h2⟩
    · rintro ⟨p, hp, h1, h2⟩
      exact ⟨p, hp, by omega, hits_pos.2 h2⟩
  rw [key _ h.vp, key _ h.sp]
  constructor
  · rintro ((h1 | h1) | h1)
    · exact absurd h1 (by unfold zeroF; omega)
    · exact .inl h1
    · exact .inr h1
  · rintro (h1 | h1)
    · exact .inl (.inr h1)
    · exact .inr h1
theorem refs_mem {S : SpaceM} (h : S.WF) {c : Int} {t : Nat} (ht : t < 16) (hp : (c, (t : Int)) ∈ pairsS S) : (t, cntS S c t) ∈ refsS S c := by
  unfold refsS refsF
  rw [List.mem_filterMap]
  exact ⟨t, List.mem_range.2 ht, by rw [if_pos ((cntS_pos h).2 hp)]⟩
theorem refs_of {S : SpaceM} (h : S.WF) {c : Int} {x : Nat × Int} (hx : x ∈ refsS S c) : (c, (x.1 : Int)) ∈ pairsS S := by
  obtain ⟨h1, h2, h3⟩ := refsF_mem hx
  rw [h2] at h3
  exact (cntS_pos h).1 h3
/-- Whether the only reference is that of a tenant. -/
def onlyB (R : List (Nat × Int)) (a : Int) : Bool := match R with
  | [x] => (x.1 : Int) == a
  | _ => false
theorem only_excl {S : SpaceM} (h : S.WF) (a c : Int) : onlyB (refsS S c) a = (exclM S a).any fun n => n == c := by
  rw [Bool.eq_iff_iff, List.any_eq_true]
  have e : (∃ x, x ∈ exclM S a ∧ (x == c) = true) ↔ c ∈ exclM S a := ⟨fun ⟨x, hx, he⟩ => eq_of_beq he ▸ hx, fun hx => ⟨c, hx, beq_self_eq_true c⟩⟩
  rw [e, mem_exclM h]
  have hup : (refsS S c).Pairwise fun a b => a.1 < b.1 := refsF_up
  constructor
  · intro ho
    unfold onlyB at ho
    split at ho
    · rename_i x hR
      have hxa := eq_of_beq ho
      have h1 := refs_of h (x := x) (c := c) (by rw [hR]; simp)
      refine ⟨hxa ▸ h1, fun u hu => ?_⟩
      obtain ⟨u0, u1⟩ := ten_of h hu
      have h2 := refs_mem h (t := u.toNat) (c := c) (by omega) (by rw [Int.toNat_of_nonneg u0]; exact hu)
      rw [hR] at h2
      simp only [List.mem_singleton] at h2
      rw [← hxa, ← h2]; simp only; omega
    · cases ho
  · rintro ⟨h1, h2⟩
    obtain ⟨a0, a1⟩ := ten_of h h1
    have hm := refs_mem h (t := a.toNat) (c := c) (by omega) (by rw [Int.toNat_of_nonneg a0]; exact h1)
    have hall : ∀ x ∈ refsS S c, (x.1 : Int) = a := fun x hx => h2 _ (refs_of h hx)
    generalize refsS S c = R at hup hm hall
    match R, hup, hm, hall with
    | [x], _, _, hall => exact beq_iff_eq.2 (hall x (by simp))
    | x :: y :: r, hup, _, hall =>
      exfalso
      have e1 := hall x (by simp)
      have e2 := hall y (by simp)
      rw [List.pairwise_cons] at hup
      have := hup.1 y (by simp)
      omega
theorem count_nodup {S : SpaceM} (h : S.WF) {a b : Int} (hab : a ≠ b) : (exclM S a ++ (exclM S b ++ sharM S a b)).Nodup := by
  rw [List.nodup_append, List.nodup_append]
  refine ⟨up_nodup (exclM_up S a), ⟨up_nodup (exclM_up S b), up_nodup (sharM_up S a b), ?_⟩, ?_⟩
  · intro x hx y hy he
    subst he
    have h1 := (mem_exclM h).1 hx
    have h2 := mem_sharM.1 hy
    exact hab (h1.2 _ h2.1)
  · intro x hx y hy he
    subst he
    have h1 := (mem_exclM h).1 hx
    rcases List.mem_append.1 hy with hy | hy
    · have h2 := (mem_exclM h).1 hy
      exact hab (h2.2 _ h1.1)
    · have h2 := mem_sharM.1 hy
      exact hab (h1.2 _ h2.2).symm
theorem upd_vals {l : KV} {v : Value} (h : ∀ p ∈ l, p.2 = v) (x : Int) : ∀ p ∈ Sl.upd l x v, p.2 = v := by
  induction l with
  | nil => intro p hp; simp [Sl.upd] at hp; rw [hp]
  | cons q l ih =>
    obtain ⟨k, y⟩ := q
    intro p hp
    unfold Sl.upd at hp
    split at hp
    · rcases List.mem_cons.1 hp with rfl | hp
      · rfl
      · exact h p (by simp [hp])
    · rcases List.mem_cons.1 hp with rfl | hp
      · exact h _ (by simp)
      · exact ih (fun p hp => h p (by simp [hp])) p hp
theorem askK_vals (v : Value) (l : List Int) : ∀ p ∈ askK v l, p.2 = v := by
  unfold askK
  suffices hs : ∀ (l : List Int) (m : KV), (∀ p ∈ m, p.2 = v) → ∀ p ∈ l.foldl (fun m x => Sl.upd m x v) m, p.2 = v from hs l [] (by simp)
  intro l
  induction l with
  | nil => intro m hm; exact hm
  | cons x l ih => intro m hm; exact ih _ (upd_vals hm x)
theorem ask_none {v : Value} {P l : List Int} {k : Nat} {x : Int} (hn : (P ++ l).Nodup) (hx : l[k]? = some x) : lk (askK v (P ++ l.take k)) x = none := by
  refine lk_none_of_not_mem fun hm => ?_
  rw [askK_mem, List.mem_append] at hm
  rw [List.nodup_append] at hn
  have hxl := List.mem_of_getElem? hx
  rcases hm with hm | hm
  · exact hn.2.2 x hm x hxl rfl
  · have h2 : (l.take (k + 1)).Nodup := hn.2.1.sublist (List.take_sublist _ _)
    rw [List.take_add_one, hx] at h2
    simp only [Option.toList_some] at h2
    rw [List.nodup_append] at h2
    exact h2.2.2 x hm x (by simp) rfl
theorem ask_next {v : Value} {P l : List Int} {k : Nat} {x : Int} (hx : l[k]? = some x) : askK v (P ++ l.take (k + 1)) = Sl.upd (askK v (P ++ l.take k)) x v := by
  rw [List.take_add_one, hx]
  simp only [Option.toList_some]
  rw [← List.append_assoc, askK_snoc]
abbrev oneV : Value := .int .i64 1
theorem zeroI (w : World) : (zeroValue 3).run Tryz.prog w = .ok (.int .i64 0) w := by kernel_rfl
structure CtSt (W w1 : World) (mb : Nat) (P l : List Int) (i : Value) (wr : World) : Prop where
  st : ∃ (k : Nat) (es : Array MapEntry) (ck : Nat), k ≤ l.length ∧ i = .int .i64 (k : Int) ∧ MapL es ck (askK oneV (P ++ l.take k)) ∧ Hid ((Same W wr ∧ Sat wr (pts mb (.map es ck) * old W)) ∧ Kept w1 wr)
structure RgSt (W : World) (mb it ck : Nat) (es : Array MapEntry) (wr : World) : Prop where
  st : ∃ seen : Array Nat, Hid (Same W wr ∧ Sat wr (pts it (.mapIter (some mb) ck seen ck) * (pts mb (.map es ck) * old W)))
structure FuSt (W : World) (l : List Int) (c : Int) (f i : Value) (wr : World) : Prop where
  st : ∃ k : Nat, k ≤ l.length ∧ i = .int .i64 (k : Int) ∧ f = .bool ((l.take k).any fun n => n == c) ∧ Hid (Below W.heap.size W wr)
set_option maxRecDepth 20000 in
set_option maxHeartbeats 4000000 in
theorem sepa_out (sv : Value) (ta tb ch : Int) (w : World) (S : SpaceM)
    (hN : Calls Tryz.prog 9 #[sv] w fun e w' => ∃ (p : Nat) (va : Option Addr) (vc : Nat) (sa : Option Addr) (sc : Nat), e = .returned (.tuple #[.pointer (some ⟨p, 0, none⟩), .agg #[.slice va S.vols.length vc, .slice sa S.snaps.length sc], .bool true]) ∧ Hid (Both w w' p va vc sa sc S))
    (hc : ta = tb ∨ (¬ ta = tb ∧ ta < 0) ∨ (¬ ta = tb ∧ ¬ ta < 0 ∧ 15 < ta) ∨ (¬ ta = tb ∧ ¬ ta < 0 ∧ ¬ 15 < ta ∧ tb < 0) ∨ (¬ ta = tb ∧ ¬ ta < 0 ∧ ¬ 15 < ta ∧ ¬ tb < 0 ∧ 15 < tb)) :
    Calls Tryz.prog 8 #[sv, .int .i64 ta, .int .i64 tb, .int .i64 ch] w fun e w' => e = .returned (.bool true) ∧ Below w.heap.size w w' := by
  have HN := Lib.hid hN
  clear hN
  rcases hc with c1 | ⟨c1, c2⟩ | ⟨c1, c2, c3⟩ | ⟨c1, c2, c3, c4⟩ | ⟨c1, c2, c3, c4, c5⟩
  · have q1 : (ta == tb) = true := beq_iff_eq.2 c1
    clear c1
    go_enter Tryz.func8, Tryz.ntmps8
    go_wp2_with (first
      | (go_at_call 9; refine HN.out.mono ?_; rintro e w1 ⟨p, va, vc, sa, sc, rfl, h1⟩)
      | (go_at_call 10; refine (sanity_any _).mono ?_; rintro e w2 ⟨rfl, h2⟩))
    go_ret
    have hal := (Below.refl w1.heap.size w1).alloc (Nat.le_refl _) (.cells #[.slice va S.vols.length vc, .slice sa S.snaps.length sc] TRS)
    exact ⟨rfl, ((h1.out.next hal).next h2).1⟩
  · have q1 : (ta == tb) = false := beq_eq_false_iff_ne.2 c1
    have q2 : decide (ta < 0) = true := decide_eq_true c2
    clear c1 c2
    go_enter Tryz.func8, Tryz.ntmps8
    go_wp2_with (first
      | (go_at_call 9; refine HN.out.mono ?_; rintro e w1 ⟨p, va, vc, sa, sc, rfl, h1⟩)
      | (go_at_call 10; refine (sanity_any _).mono ?_; rintro e w2 ⟨rfl, h2⟩))
    go_ret
    have hal := (Below.refl w1.heap.size w1).alloc (Nat.le_refl _) (.cells #[.slice va S.vols.length vc, .slice sa S.snaps.length sc] TRS)
    exact ⟨rfl, ((h1.out.next hal).next h2).1⟩
  · have q1 : (ta == tb) = false := beq_eq_false_iff_ne.2 c1
    have q2 : decide (ta < 0) = false := decide_eq_false c2
    have q3 : decide (15 < ta) = true := decide_eq_true c3
    clear c1 c2 c3
    go_enter Tryz.func8, Tryz.ntmps8
    go_wp2_with (first
      | (go_at_call 9; refine HN.out.mono ?_; rintro e w1 ⟨p, va, vc, sa, sc, rfl, h1⟩)
      | (go_at_call 10; refine (sanity_any _).mono ?_; rintro e w2 ⟨rfl, h2⟩))
    go_ret
    have hal := (Below.refl w1.heap.size w1).alloc (Nat.le_refl _) (.cells #[.slice va S.vols.length vc, .slice sa S.snaps.length sc] TRS)
    exact ⟨rfl, ((h1.out.next hal).next h2).1⟩
  · have q1 : (ta == tb) = false := beq_eq_false_iff_ne.2 c1
    have q2 : decide (ta < 0) = false := decide_eq_false c2
    have q3 : decide (15 < ta) = false := decide_eq_false c3
    have q4 : decide (tb < 0) = true := decide_eq_true c4
    clear c1 c2 c3 c4
    go_enter Tryz.func8, Tryz.ntmps8
    go_wp2_with (first
      | (go_at_call 9; refine HN.out.mono ?_; rintro e w1 ⟨p, va, vc, sa, sc, rfl, h1⟩)
      | (go_at_call 10; refine (sanity_any _).mono ?_; rintro e w2 ⟨rfl, h2⟩))
    go_ret
    have hal := (Below.refl w1.heap.size w1).alloc (Nat.le_refl _) (.cells #[.slice va S.vols.length vc, .slice sa S.snaps.length sc] TRS)
    exact ⟨rfl, ((h1.out.next hal).next h2).1⟩
  · have q1 : (ta == tb) = false := beq_eq_false_iff_ne.2 c1
    have q2 : decide (ta < 0) = false := decide_eq_false c2
    have q3 : decide (15 < ta) = false := decide_eq_false c3
    have q4 : decide (tb < 0) = false := decide_eq_false c4
    have q5 : decide (15 < tb) = true := decide_eq_true c5
    clear c1 c2 c3 c4 c5
    go_enter Tryz.func8, Tryz.ntmps8
    go_wp2_with (first
      | (go_at_call 9; refine HN.out.mono ?_; rintro e w1 ⟨p, va, vc, sa, sc, rfl, h1⟩)
      | (go_at_call 10; refine (sanity_any _).mono ?_; rintro e w2 ⟨rfl, h2⟩))
    go_ret
    have hal := (Below.refl w1.heap.size w1).alloc (Nat.le_refl _) (.cells #[.slice va S.vols.length vc, .slice sa S.snaps.length sc] TRS)
    exact ⟨rfl, ((h1.out.next hal).next h2).1⟩
set_option maxRecDepth 20000 in
set_option maxHeartbeats 16000000 in
theorem sepa_law (sv : Value) (l : List VOp) (ta tb ch : Int) (w : World) (hscr : ScrV w sv l) :
    Calls Tryz.prog 8 #[sv, .int .i64 ta, .int .i64 tb, .int .i64 ch] w fun e w' => e = .returned (.bool true) ∧ Below w.heap.size w w' := by
  by_cases hl : l.length ≤ 80
  · have HN := Lib.hid (build_both sv l w hscr hl)
    have HWF := Lib.hid (runU_wf SpaceM.WF.new l)
    generalize runU SpaceM.new l = S at HN HWF
    clear hscr hl
    by_cases c1 : ta = tb
    · have q1 : (ta == tb) = true := beq_iff_eq.2 c1
      exact sepa_out sv ta tb ch w S HN.out (by first | exact .inl c1 | exact .inr (.inl ⟨c1, c1⟩) | exact .inr (.inr (.inl ⟨c1, c2, c1⟩)) | exact .inr (.inr (.inr (.inl ⟨c1, c2, c3, c1⟩))) | exact .inr (.inr (.inr (.inr ⟨c1, c2, c3, c4, c1⟩))))
    have q1 : (ta == tb) = false := beq_eq_false_iff_ne.2 c1
    by_cases c2 : ta < 0
    · have q2 : decide (ta < 0) = true := decide_eq_true c2
      exact sepa_out sv ta tb ch w S HN.out (by first | exact .inl c2 | exact .inr (.inl ⟨c1, c2⟩) | exact .inr (.inr (.inl ⟨c1, c2, c2⟩)) | exact .inr (.inr (.inr (.inl ⟨c1, c2, c3, c2⟩))) | exact .inr (.inr (.inr (.inr ⟨c1, c2, c3, c4, c2⟩))))
    have q2 : decide (ta < 0) = false := decide_eq_false c2
    by_cases c3 : 15 < ta
    · have q3 : decide (15 < ta) = true := decide_eq_true c3
      exact sepa_out sv ta tb ch w S HN.out (by first | exact .inl c3 | exact .inr (.inl ⟨c1, c3⟩) | exact .inr (.inr (.inl ⟨c1, c2, c3⟩)) | exact .inr (.inr (.inr (.inl ⟨c1, c2, c3, c3⟩))) | exact .inr (.inr (.inr (.inr ⟨c1, c2, c3, c4, c3⟩))))
    have q3 : decide (15 < ta) = false := decide_eq_false c3
    by_cases c4 : tb < 0
    · have q4 : decide (tb < 0) = true := decide_eq_true c4
      exact sepa_out sv ta tb ch w S HN.out (by first | exact .inl c4 | exact .inr (.inl ⟨c1, c4⟩) | exact .inr (.inr (.inl ⟨c1, c2, c4⟩)) | exact .inr (.inr (.inr (.inl ⟨c1, c2, c3, c4⟩))) | exact .inr (.inr (.inr (.inr ⟨c1, c2, c3, c4, c4⟩))))
    have q4 : decide (tb < 0) = false := decide_eq_false c4
    by_cases c5 : 15 < tb
    · have q5 : decide (15 < tb) = true := decide_eq_true c5
      exact sepa_out sv ta tb ch w S HN.out (by first | exact .inl c5 | exact .inr (.inl ⟨c1, c5⟩) | exact .inr (.inr (.inl ⟨c1, c2, c5⟩)) | exact .inr (.inr (.inr (.inl ⟨c1, c2, c3, c5⟩))) | exact .inr (.inr (.inr (.inr ⟨c1, c2, c3, c4, c5⟩))))
    have q5 : decide (15 < tb) = false := decide_eq_false c5
    have hcl := chunksM_len HWF.out
    have hla : (exclM S ta).length ≤ 2000000 := Nat.le_trans (List.length_filter_le _ _) hcl
    have hlb : (exclM S tb).length ≤ 2000000 := Nat.le_trans (List.length_filter_le _ _) hcl
    have hls : (sharM S ta tb).length ≤ 2000000 := Nat.le_trans (List.length_filter_le _ _) hcl
    have HOE := Lib.hid (only_excl HWF.out ta ch)
    have hnd := count_nodup HWF.out c1
    have HND := Lib.hid (show (([] : List Int) ++ exclM S ta).Nodup ∧ (exclM S ta ++ exclM S tb).Nodup ∧ ((exclM S ta ++ exclM S tb) ++ sharM S ta tb).Nodup from ⟨by rw [List.nil_append]; exact (List.nodup_append.1 hnd).1, (hnd.sublist (by rw [← List.append_assoc]; exact List.sublist_append_left _ _)), by rw [List.append_assoc]; exact hnd⟩)
    clear hcl hnd c1 c2 c3 c4 c5
    have hmm := @run_makeMap Tryz.prog
    go_enter Tryz.func8, Tryz.ntmps8
    go_upto_region 4 with (go_at_call 9; refine HN.out.mono ?_; rintro e w1 ⟨p, va, vc, sa, sc, rfl, h1⟩)
    clear q1 q2 q3 q4 q5
    have hal := (Below.refl w1.heap.size w1).alloc (Nat.le_refl _) (.cells #[.slice va S.vols.length vc, .slice sa S.snaps.length sc] TRS)
    have HS := Lib.hid (h1.out.next hal)
    clear h1 hal HN
    generalize w1.alloc (.cells #[.slice va S.vols.length vc, .slice sa S.snaps.length sc] TRS) = W at HS ⊢
    generalize w1.heap.size = A at ⊢
    go_upto_region 5 with (fail)
    clear hmm
    have HE := Lib.hid (fun (W2 : World) (t : Int) (hb : Below W.heap.size W W2) => uexcl_any p S t W2 (HS.out.2.1.below hb) HWF.out)
    have HSH := Lib.hid (fun (W2 : World) (a b : Int) (hb : Below W.heap.size W W2) => ushar_any p S a b W2 (HS.out.2.1.below hb) HWF.out)
    have HRF := Lib.hid (fun (W2 : World) (hb : Below W.heap.size W W2) => refsS_any p S ch W2 (HS.out.2.1.below hb) HWF.out)
    have H0 := Lib.hid (And.intro ((Same.refl W).alloc (.map #[] 0)) ((Sat.old W).alloc (.map #[] 0)))
    generalize W.alloc (.map #[] 0) = Wm at H0 ⊢
    generalize W.heap.size = mb at H0 ⊢
    obtain ⟨es, ck, hM0, H2⟩ : ∃ es ck, Hid (MapL es ck (askK oneV ([] ++ []))) ∧ Hid (Same W Wm ∧ Sat Wm (pts mb (.map es ck) * old W)) := ⟨#[], 0, Lib.hid (by simpa [askK] using MapL.empty 0), H0⟩
    have HM := hM0
    clear H0 hM0
    go_wp2_with (go_at_call 25; refine (HE.out Wm ta (H2.out.1.below_of H2.out.2)).mono ?_; rintro e w1 ⟨v1, rfl, h1⟩; obtain ⟨ai, ci, rfl, _⟩ := id h1.out.2)
    have HI := Lib.hid h1.out.2
    have H1 := Lib.hid (show ((Same W w1 ∧ Sat w1 (pts mb (.map es ck) * old W)) ∧ Kept w1 w1) from ⟨⟨H2.out.1.below h1.out.1, H2.out.2.below h1.out.1⟩, fun _ _ => rfl⟩)
    clear h1 H2
    go_loopw [61] (fun i wr => CtSt W w1 mb ([]) (exclM S ta) i wr) (fun i _ => (exclM S ta).length - (intOf i).toNat)
    case atStart => exact ⟨⟨0, es, ck, Nat.zero_le _, rfl, by simpa using HM.out, H1.out⟩⟩
    case round =>
      clear H1 HM es ck
      obtain ⟨k, es, ck, hk, rfl, hM, HX⟩ := hrel.st
      clear hrel
      by_cases hlt : k < (exclM S ta).length
      · have hltd : decide ((k : Int) < ((exclM S ta).length : Int)) = true := decide_eq_true (by omega)
        have hki : (k : Int) ≤ 2000000 := by omega
        obtain ⟨x, hx⟩ : ∃ x, (exclM S ta)[k]? = some x := ⟨_, List.getElem?_eq_getElem hlt⟩
        obtain ⟨ai', ci', e', hcell⟩ := id HI.out
        simp only [Value.slice.injEq, true_and] at e'
        obtain ⟨rfl, rfl⟩ := e'
        obtain ⟨b, off, rfl, hcell2⟩ := hcell (by intro h0; rw [h0] at hlt; simp at hlt)
        have hcc := hcell2 k x hx
        rw [Nat.mul_one] at hcc
        have c0 : wr.cell? ⟨b, off + k, none⟩ = some (.int .i64 x) := (HX.out.2 ⟨b, off + k, none⟩ (World.block_lt_of_cell? _ _ hcc)).trans hcc
        have hln := ask_none (v := oneV) (P := []) HND.out.1 hx
        have hl0 := run_lookup_at (P := Tryz.prog) (w := wr) Tryz.underlying75 Tryz.underlying3 (zeroI wr) HX.out.1.2.block hM x
        rw [hln] at hl0
        simp only [Option.getD_none] at hl0
        obtain ⟨es4, ck4, hup, hM4⟩ := run_mapUpdate_kv (P := Tryz.prog) (w := wr) Tryz.underlying75 Tryz.underlying3 HX.out.1.2.block hM x (.int .i64 1)
        rw [← ask_next hx] at hM4
        have HM4 := Lib.hid hM4
        have H5 := Lib.hid (And.intro (And.intro (HX.out.1.1.setBlock (r := mb) (.map es4 ck4)) (HX.out.1.2.setBlock (o' := .map es4 ck4))) (show Kept w1 (setBlock wr mb (.map es4 ck4)) from fun a ha => (cell?_setMap HX.out.1.2.block es4 ck4 a).trans (HX.out.2 a ha)))
        have hwk : IntKind.i64.wrap ((k : Int) + 1) = (k : Int) + 1 := IntWalk.i64_in _ (by omega)
        clear hx hcell hcell2 hcc hln hM hM4
        go_wp2
        go_roundw
        case rel => exact ⟨⟨k + 1, es4, ck4, hlt, rfl, HM4.out, H5.out⟩⟩
        case measure => simp only [intOf]; omega
      · obtain rfl : k = (exclM S ta).length := by omega
        have hltd : decide (((exclM S ta).length : Int) < ((exclM S ta).length : Int)) = false := decide_eq_false (by omega)
        have hnlt : ¬ ((exclM S ta).length : Int) < ((exclM S ta).length : Int) := by omega
        rw [List.take_length] at hM
        have HM := Lib.hid hM
        have H2 := Lib.hid HX.out.1
        clear hM HX HI
        go_wp2_with (go_at_call 25; refine (HE.out wr tb (H2.out.1.below_of H2.out.2)).mono ?_; rintro e w1 ⟨v1, rfl, h1⟩; obtain ⟨ai, ci, rfl, _⟩ := id h1.out.2)
        have HI := Lib.hid h1.out.2
        have H1 := Lib.hid (show ((Same W w1 ∧ Sat w1 (pts mb (.map es ck) * old W)) ∧ Kept w1 w1) from ⟨⟨H2.out.1.below h1.out.1, H2.out.2.below h1.out.1⟩, fun _ _ => rfl⟩)
        clear h1 H2
        go_loopw [74] (fun i wr => CtSt W w1 mb (exclM S ta) (exclM S tb) i wr) (fun i _ => (exclM S tb).length - (intOf i).toNat)
        case atStart => exact ⟨⟨0, es, ck, Nat.zero_le _, rfl, by simpa using HM.out, H1.out⟩⟩
        case round =>
          clear H1 HM es ck
          obtain ⟨k, es, ck, hk, rfl, hM, HX⟩ := hrel.st
          clear hrel
          by_cases hlt : k < (exclM S tb).length
          · have hltd : decide ((k : Int) < ((exclM S tb).length : Int)) = true := decide_eq_true (by omega)
            have hki : (k : Int) ≤ 2000000 := by omega
            obtain ⟨x, hx⟩ : ∃ x, (exclM S tb)[k]? = some x := ⟨_, List.getElem?_eq_getElem hlt⟩
            obtain ⟨ai', ci', e', hcell⟩ := id HI.out
            simp only [Value.slice.injEq, true_and] at e'
            obtain ⟨rfl, rfl⟩ := e'
            obtain ⟨b, off, rfl, hcell2⟩ := hcell (by intro h0; rw [h0] at hlt; simp at hlt)
            have hcc := hcell2 k x hx
            rw [Nat.mul_one] at hcc
            have c0 : wr.cell? ⟨b, off + k, none⟩ = some (.int .i64 x) := (HX.out.2 ⟨b, off + k, none⟩ (World.block_lt_of_cell? _ _ hcc)).trans hcc
            have hln := ask_none (v := oneV) (P := exclM S ta) HND.out.2.1 hx
            have hl0 := run_lookup_at (P := Tryz.prog) (w := wr) Tryz.underlying75 Tryz.underlying3 (zeroI wr) HX.out.1.2.block hM x
            rw [hln] at hl0
            simp only [Option.getD_none] at hl0
            obtain ⟨es4, ck4, hup, hM4⟩ := run_mapUpdate_kv (P := Tryz.prog) (w := wr) Tryz.underlying75 Tryz.underlying3 HX.out.1.2.block hM x (.int .i64 1)
            rw [← ask_next hx] at hM4
            have HM4 := Lib.hid hM4
            have H5 := Lib.hid (And.intro (And.intro (HX.out.1.1.setBlock (r := mb) (.map es4 ck4)) (HX.out.1.2.setBlock (o' := .map es4 ck4))) (show Kept w1 (setBlock wr mb (.map es4 ck4)) from fun a ha => (cell?_setMap HX.out.1.2.block es4 ck4 a).trans (HX.out.2 a ha)))
            have hwk : IntKind.i64.wrap ((k : Int) + 1) = (k : Int) + 1 := IntWalk.i64_in _ (by omega)
            clear hx hcell hcell2 hcc hln hM hM4
            go_wp2
            go_roundw
            case rel => exact ⟨⟨k + 1, es4, ck4, hlt, rfl, HM4.out, H5.out⟩⟩
            case measure => simp only [intOf]; omega
          · obtain rfl : k = (exclM S tb).length := by omega
            have hltd : decide (((exclM S tb).length : Int) < ((exclM S tb).length : Int)) = false := decide_eq_false (by omega)
            have hnlt : ¬ ((exclM S tb).length : Int) < ((exclM S tb).length : Int) := by omega
            rw [List.take_length] at hM
            have HM := Lib.hid hM
            have H2 := Lib.hid HX.out.1
            clear hM HX HI
            go_wp2_with (go_at_call 27; refine (HSH.out wr ta tb (H2.out.1.below_of H2.out.2)).mono ?_; rintro e w1 ⟨v1, rfl, h1⟩; obtain ⟨ai, ci, rfl, _⟩ := id h1.out.2)
            have HI := Lib.hid h1.out.2
            have H1 := Lib.hid (show ((Same W w1 ∧ Sat w1 (pts mb (.map es ck) * old W)) ∧ Kept w1 w1) from ⟨⟨H2.out.1.below h1.out.1, H2.out.2.below h1.out.1⟩, fun _ _ => rfl⟩)
            clear h1 H2
            go_loopw [88] (fun i wr => CtSt W w1 mb (exclM S ta ++ exclM S tb) (sharM S ta tb) i wr) (fun i _ => (sharM S ta tb).length - (intOf i).toNat)
            case atStart => exact ⟨⟨0, es, ck, Nat.zero_le _, rfl, by simpa using HM.out, H1.out⟩⟩
            case round =>
              clear H1 HM es ck
              obtain ⟨k, es, ck, hk, rfl, hM, HX⟩ := hrel.st
              clear hrel
              by_cases hlt : k < (sharM S ta tb).length
              · have hltd : decide ((k : Int) < ((sharM S ta tb).length : Int)) = true := decide_eq_true (by omega)
                have hki : (k : Int) ≤ 2000000 := by omega
                obtain ⟨x, hx⟩ : ∃ x, (sharM S ta tb)[k]? = some x := ⟨_, List.getElem?_eq_getElem hlt⟩
                obtain ⟨ai', ci', e', hcell⟩ := id HI.out
                simp only [Value.slice.injEq, true_and] at e'
                obtain ⟨rfl, rfl⟩ := e'
                obtain ⟨b, off, rfl, hcell2⟩ := hcell (by intro h0; rw [h0] at hlt; simp at hlt)
                have hcc := hcell2 k x hx
                rw [Nat.mul_one] at hcc
                have c0 : wr.cell? ⟨b, off + k, none⟩ = some (.int .i64 x) := (HX.out.2 ⟨b, off + k, none⟩ (World.block_lt_of_cell? _ _ hcc)).trans hcc
                have hln := ask_none (v := oneV) (P := exclM S ta ++ exclM S tb) HND.out.2.2 hx
                have hl0 := run_lookup_at (P := Tryz.prog) (w := wr) Tryz.underlying75 Tryz.underlying3 (zeroI wr) HX.out.1.2.block hM x
                rw [hln] at hl0
                simp only [Option.getD_none] at hl0
                obtain ⟨es4, ck4, hup, hM4⟩ := run_mapUpdate_kv (P := Tryz.prog) (w := wr) Tryz.underlying75 Tryz.underlying3 HX.out.1.2.block hM x (.int .i64 1)
                rw [← ask_next hx] at hM4
                have HM4 := Lib.hid hM4
                have H5 := Lib.hid (And.intro (And.intro (HX.out.1.1.setBlock (r := mb) (.map es4 ck4)) (HX.out.1.2.setBlock (o' := .map es4 ck4))) (show Kept w1 (setBlock wr mb (.map es4 ck4)) from fun a ha => (cell?_setMap HX.out.1.2.block es4 ck4 a).trans (HX.out.2 a ha)))
                have hwk : IntKind.i64.wrap ((k : Int) + 1) = (k : Int) + 1 := IntWalk.i64_in _ (by omega)
                clear hx hcell hcell2 hcc hln hM hM4
                go_wp2
                go_roundw
                case rel => exact ⟨⟨k + 1, es4, ck4, hlt, rfl, HM4.out, H5.out⟩⟩
                case measure => simp only [intOf]; omega
              · obtain rfl : k = (sharM S ta tb).length := by omega
                have hltd : decide (((sharM S ta tb).length : Int) < ((sharM S ta tb).length : Int)) = false := decide_eq_false (by omega)
                have hnlt : ¬ ((sharM S ta tb).length : Int) < ((sharM S ta tb).length : Int) := by omega
                rw [List.take_length] at hM
                have HM := Lib.hid hM
                have H2 := Lib.hid HX.out.1
                clear hM HX HI
                have hrg := run_range_kv (P := Tryz.prog) Tryz.underlying75 H2.out.2.block
                have HST := Lib.hid (show RgSt W mb wr.heap.size ck es (wr.alloc (.mapIter (some mb) ck #[] ck)) from ⟨⟨#[], H2.out.1.alloc _, H2.out.2.alloc _⟩⟩)
                clear H2
                go_wp2_with ((with_reducible (apply wpList_range_run (h := hrg))); rfl; rfl; rfl)
                generalize wr.heap.size = it at HST ⊢
                clear hrg
                go_loopw [] (fun wr => RgSt W mb it ck es wr) (fun wr => unseen mb it wr)
                case atStart => exact HST.out
                case round =>
                  clear HST
                  obtain ⟨seen, HX⟩ := hrel.st
                  clear hrel
                  rcases run_next_kv (P := Tryz.prog) HX.out.2.block HX.out.2.right.block HM.out with ⟨hall, W5, hnx, hW⟩ | ⟨e, he, hes, w0, hw0, hnx⟩
                  · have HB5 := Lib.hid (show Below W.heap.size W W5 from by
                      rcases hW with rfl | rfl
                      · exact HX.out.1.below_of HX.out.2.right
                      · exact (HX.out.1.below_of HX.out.2.right).drew)
                    clear hW hall HX
                    go_upto_region 25 with ((with_reducible (apply wpList_next_run (h := hnx))); rfl; rfl; rfl)
                    clear hnx
                    go_upto_region 26 with (go_at_call 33; refine (HRF.out W5 HB5.out).mono ?_; rintro e w6 ⟨v6, rfl, h6⟩)
                    have HB6 := Lib.hid (HB5.out.trans (h6.out.1.mono HB5.out.size))
                    have HR6 := Lib.hid h6.out.2
                    obtain ⟨a6, c6, rfl, _⟩ := id h6.out.2
                    clear h6 HB5 HRF
                    have HON := Lib.hid (show onlyB (refsS S ch) ta = (exclM S ta).any fun n => n == ch from HOE.out)
                    clear HOE
                    generalize refsS S ch = R at HR6 HON
                    rcases R with _ | ⟨x, _ | ⟨y, R⟩⟩
                    · have ho : onlyB [] ta = false := rfl
                      rw [ho] at HON
                      go_upto_region 28 with (fail)
                      skip
                      go_wp2_with (go_at_call 25; refine (HE.out w6 ta HB6.out).mono ?_; rintro e w7 ⟨v7, rfl, h7⟩; obtain ⟨a7, c7, rfl, _⟩ := id h7.out.2)
                      have HI := Lib.hid h7.out.2
                      have HB7 := Lib.hid (HB6.out.trans (h7.out.1.mono HB6.out.size))
                      clear h7 HB6
                      go_loopw [23, 123] (fun f i wr => FuSt w7 (exclM S ta) ch f i wr) (fun _ i _ => (exclM S ta).length - (intOf i).toNat)
                      case atStart => exact ⟨⟨0, Nat.zero_le _, rfl, rfl, Below.refl _ _⟩⟩
                      case round =>
                        obtain ⟨k, hk, rfl, rfl, HX⟩ := hrel.st
                        clear hrel
                        by_cases hlt : k < (exclM S ta).length
                        · have hltd : decide ((k : Int) < ((exclM S ta).length : Int)) = true := decide_eq_true (by omega)
                          have hki : (k : Int) ≤ 2000000 := by omega
                          obtain ⟨z, hz⟩ : ∃ z, (exclM S ta)[k]? = some z := ⟨_, List.getElem?_eq_getElem hlt⟩
                          obtain ⟨ai', ci', e', hcell⟩ := id HI.out
                          simp only [Value.slice.injEq, true_and] at e'
                          obtain ⟨rfl, rfl⟩ := e'
                          obtain ⟨b, off, rfl, hcell2⟩ := hcell (by intro h0; rw [h0] at hlt; simp at hlt)
                          have hcc := hcell2 k z hz
                          rw [Nat.mul_one] at hcc
                          have c0 : wr.cell? ⟨b, off + k, none⟩ = some (.int .i64 z) := (HX.out.cell (p := ⟨b, off + k, none⟩) (World.block_lt_of_cell? _ _ hcc)).trans hcc
                          have hwk : IntKind.i64.wrap ((k : Int) + 1) = (k : Int) + 1 := IntWalk.i64_in _ (by omega)
                          have HAT := Lib.hid (show (((exclM S ta).take (k + 1)).any fun n => n == ch) = ((((exclM S ta).take k).any fun n => n == ch) || z == ch) from by rw [List.take_add_one, hz, List.any_append]; simp)
                          clear hz hcell hcell2 hcc
                          cases hfo : (((exclM S ta).take k).any fun n => n == ch)
                          · rw [hfo] at HAT
                            go_wp2
                            go_roundw
                            case rel => exact ⟨⟨k + 1, hlt, rfl, by rw [HAT.out]; rfl, HX⟩⟩
                            case measure => simp only [intOf]; omega
                          · rw [hfo] at HAT
                            go_wp2
                            go_roundw
                            case rel => exact ⟨⟨k + 1, hlt, rfl, by rw [HAT.out]; rfl, HX⟩⟩
                            case measure => simp only [intOf]; omega
                        · obtain rfl : k = (exclM S ta).length := by omega
                          have hltd : decide (((exclM S ta).length : Int) < ((exclM S ta).length : Int)) = false := decide_eq_false (by omega)
                          have hnlt : ¬ ((exclM S ta).length : Int) < ((exclM S ta).length : Int) := by omega
                          rw [List.take_length, ← HON.out]
                          have hff : (false == false) = true := rfl
                          have HB8 := Lib.hid (HB7.out.trans (HX.out.mono HB7.out.size))
                          go_wp2_with (go_at_call 10; refine (sanity_any _).mono ?_; rintro e w20 ⟨rfl, h20⟩)
                          go_ret
                          exact ⟨rfl, HS.out.1.trans ((HB8.out.trans (h20.mono HB8.out.size)).mono HS.out.1.size)⟩
                    · obtain ⟨b6, rfl, hb6, f0, f1⟩ := ref_cells (i := 0) HR6.out rfl
                      rw [Nat.zero_mul] at f0
                      have ho : onlyB [x] ta = ((x.1 : Int) == ta) := rfl
                      rw [ho] at HON
                      clear f1
                      cases hon : ((x.1 : Int) == ta)
                      · rw [hon] at HON
                        go_upto_region 28 with (fail)
                        clear f0
                        go_wp2_with (go_at_call 25; refine (HE.out w6 ta HB6.out).mono ?_; rintro e w7 ⟨v7, rfl, h7⟩; obtain ⟨a7, c7, rfl, _⟩ := id h7.out.2)
                        have HI := Lib.hid h7.out.2
                        have HB7 := Lib.hid (HB6.out.trans (h7.out.1.mono HB6.out.size))
                        clear h7 HB6
                        go_loopw [23, 123] (fun f i wr => FuSt w7 (exclM S ta) ch f i wr) (fun _ i _ => (exclM S ta).length - (intOf i).toNat)
                        case atStart => exact ⟨⟨0, Nat.zero_le _, rfl, rfl, Below.refl _ _⟩⟩
                        case round =>
                          obtain ⟨k, hk, rfl, rfl, HX⟩ := hrel.st
                          clear hrel
                          by_cases hlt : k < (exclM S ta).length
                          · have hltd : decide ((k : Int) < ((exclM S ta).length : Int)) = true := decide_eq_true (by omega)
                            have hki : (k : Int) ≤ 2000000 := by omega
                            obtain ⟨z, hz⟩ : ∃ z, (exclM S ta)[k]? = some z := ⟨_, List.getElem?_eq_getElem hlt⟩
                            obtain ⟨ai', ci', e', hcell⟩ := id HI.out
                            simp only [Value.slice.injEq, true_and] at e'
                            obtain ⟨rfl, rfl⟩ := e'
                            obtain ⟨b, off, rfl, hcell2⟩ := hcell (by intro h0; rw [h0] at hlt; simp at hlt)
                            have hcc := hcell2 k z hz
                            rw [Nat.mul_one] at hcc
                            have c0 : wr.cell? ⟨b, off + k, none⟩ = some (.int .i64 z) := (HX.out.cell (p := ⟨b, off + k, none⟩) (World.block_lt_of_cell? _ _ hcc)).trans hcc
                            have hwk : IntKind.i64.wrap ((k : Int) + 1) = (k : Int) + 1 := IntWalk.i64_in _ (by omega)
                            have HAT := Lib.hid (show (((exclM S ta).take (k + 1)).any fun n => n == ch) = ((((exclM S ta).take k).any fun n => n == ch) || z == ch) from by rw [List.take_add_one, hz, List.any_append]; simp)
                            clear hz hcell hcell2 hcc
                            cases hfo : (((exclM S ta).take k).any fun n => n == ch)
                            · rw [hfo] at HAT
                              go_wp2
                              go_roundw
                              case rel => exact ⟨⟨k + 1, hlt, rfl, by rw [HAT.out]; rfl, HX⟩⟩
                              case measure => simp only [intOf]; omega
                            · rw [hfo] at HAT
                              go_wp2
                              go_roundw
                              case rel => exact ⟨⟨k + 1, hlt, rfl, by rw [HAT.out]; rfl, HX⟩⟩
                              case measure => simp only [intOf]; omega
                          · obtain rfl : k = (exclM S ta).length := by omega
                            have hltd : decide (((exclM S ta).length : Int) < ((exclM S ta).length : Int)) = false := decide_eq_false (by omega)
                            have hnlt : ¬ ((exclM S ta).length : Int) < ((exclM S ta).length : Int) := by omega
                            rw [List.take_length, ← HON.out]
                            have hff : (false == false) = true := rfl
                            have HB8 := Lib.hid (HB7.out.trans (HX.out.mono HB7.out.size))
                            go_wp2_with (go_at_call 10; refine (sanity_any _).mono ?_; rintro e w20 ⟨rfl, h20⟩)
                            go_ret
                            exact ⟨rfl, HS.out.1.trans ((HB8.out.trans (h20.mono HB8.out.size)).mono HS.out.1.size)⟩
                      · rw [hon] at HON
                        go_upto_region 28 with (fail)
                        clear f0
                        go_wp2_with (go_at_call 25; refine (HE.out w6 ta HB6.out).mono ?_; rintro e w7 ⟨v7, rfl, h7⟩; obtain ⟨a7, c7, rfl, _⟩ := id h7.out.2)
                        have HI := Lib.hid h7.out.2
                        have HB7 := Lib.hid (HB6.out.trans (h7.out.1.mono HB6.out.size))
                        clear h7 HB6
                        go_loopw [23, 123] (fun f i wr => FuSt w7 (exclM S ta) ch f i wr) (fun _ i _ => (exclM S ta).length - (intOf i).toNat)
                        case atStart => exact ⟨⟨0, Nat.zero_le _, rfl, rfl, Below.refl _ _⟩⟩
                        case round =>
                          obtain ⟨k, hk, rfl, rfl, HX⟩ := hrel.st
                          clear hrel
                          by_cases hlt : k < (exclM S ta).length
                          · have hltd : decide ((k : Int) < ((exclM S ta).length : Int)) = true := decide_eq_true (by omega)
                            have hki : (k : Int) ≤ 2000000 := by omega
                            obtain ⟨z, hz⟩ : ∃ z, (exclM S ta)[k]? = some z := ⟨_, List.getElem?_eq_getElem hlt⟩
                            obtain ⟨ai', ci', e', hcell⟩ := id HI.out
                            simp only [Value.slice.injEq, true_and] at e'
                            obtain ⟨rfl, rfl⟩ := e'
                            obtain ⟨b, off, rfl, hcell2⟩ := hcell (by intro h0; rw [h0] at hlt; simp at hlt)
                            have hcc := hcell2 k z hz
                            rw [Nat.mul_one] at hcc
                            have c0 : wr.cell? ⟨b, off + k, none⟩ = some (.int .i64 z) := (HX.out.cell (p := ⟨b, off + k, none⟩) (World.block_lt_of_cell? _ _ hcc)).trans hcc
                            have hwk : IntKind.i64.wrap ((k : Int) + 1) = (k : Int) + 1 := IntWalk.i64_in _ (by omega)
                            have HAT := Lib.hid (show (((exclM S ta).take (k + 1)).any fun n => n == ch) = ((((exclM S ta).take k).any fun n => n == ch) || z == ch) from by rw [List.take_add_one, hz, List.any_append]; simp)
                            clear hz hcell hcell2 hcc
                            cases hfo : (((exclM S ta).take k).any fun n => n == ch)
                            · rw [hfo] at HAT
                              go_wp2
                              go_roundw
                              case rel => exact ⟨⟨k + 1, hlt, rfl, by rw [HAT.out]; rfl, HX⟩⟩
                              case measure => simp only [intOf]; omega
                            · rw [hfo] at HAT
                              go_wp2
                              go_roundw
                              case rel => exact ⟨⟨k + 1, hlt, rfl, by rw [HAT.out]; rfl, HX⟩⟩
                              case measure => simp only [intOf]; omega
                          · obtain rfl : k = (exclM S ta).length := by omega
                            have hltd : decide (((exclM S ta).length : Int) < ((exclM S ta).length : Int)) = false := decide_eq_false (by omega)
                            have hnlt : ¬ ((exclM S ta).length : Int) < ((exclM S ta).length : Int) := by omega
                            rw [List.take_length, ← HON.out]
                            have hff : (true == true) = true := rfl
                            have HB8 := Lib.hid (HB7.out.trans (HX.out.mono HB7.out.size))
                            go_wp2_with (go_at_call 10; refine (sanity_any _).mono ?_; rintro e w20 ⟨rfl, h20⟩)
                            go_ret
                            exact ⟨rfl, HS.out.1.trans ((HB8.out.trans (h20.mono HB8.out.size)).mono HS.out.1.size)⟩
                    · have ho : onlyB (x :: y :: R) ta = false := rfl
                      rw [ho] at HON
                      have hl2 : ((((x :: y :: R).length : Nat) : Int) == 1) = false := beq_eq_false_iff_ne.2 (by simp only [List.length_cons]; omega)
                      generalize (((x :: y :: R).length : Nat) : Int) = rl at hl2
                      go_upto_region 28 with (fail)
                      skip
                      go_wp2_with (go_at_call 25; refine (HE.out w6 ta HB6.out).mono ?_; rintro e w7 ⟨v7, rfl, h7⟩; obtain ⟨a7, c7, rfl, _⟩ := id h7.out.2)
                      have HI := Lib.hid h7.out.2
                      have HB7 := Lib.hid (HB6.out.trans (h7.out.1.mono HB6.out.size))
                      clear h7 HB6
                      go_loopw [23, 123] (fun f i wr => FuSt w7 (exclM S ta) ch f i wr) (fun _ i _ => (exclM S ta).length - (intOf i).toNat)
                      case atStart => exact ⟨⟨0, Nat.zero_le _, rfl, rfl, Below.refl _ _⟩⟩
                      case round =>
                        obtain ⟨k, hk, rfl, rfl, HX⟩ := hrel.st
                        clear hrel
                        by_cases hlt : k < (exclM S ta).length
                        · have hltd : decide ((k : Int) < ((exclM S ta).length : Int)) = true := decide_eq_true (by omega)
                          have hki : (k : Int) ≤ 2000000 := by omega
                          obtain ⟨z, hz⟩ : ∃ z, (exclM S ta)[k]? = some z := ⟨_, List.getElem?_eq_getElem hlt⟩
                          obtain ⟨ai', ci', e', hcell⟩ := id HI.out
                          simp only [Value.slice.injEq, true_and] at e'
                          obtain ⟨rfl, rfl⟩ := e'
                          obtain ⟨b, off, rfl, hcell2⟩ := hcell (by intro h0; rw [h0] at hlt; simp at hlt)
                          have hcc := hcell2 k z hz
                          rw [Nat.mul_one] at hcc
                          have c0 : wr.cell? ⟨b, off + k, none⟩ = some (.int .i64 z) := (HX.out.cell (p := ⟨b, off + k, none⟩) (World.block_lt_of_cell? _ _ hcc)).trans hcc
                          have hwk : IntKind.i64.wrap ((k : Int) + 1) = (k : Int) + 1 := IntWalk.i64_in _ (by omega)
                          have HAT := Lib.hid (show (((exclM S ta).take (k + 1)).any fun n => n == ch) = ((((exclM S ta).take k).any fun n => n == ch) || z == ch) from by rw [List.take_add_one, hz, List.any_append]; simp)
                          clear hz hcell hcell2 hcc
                          cases hfo : (((exclM S ta).take k).any fun n => n == ch)
                          · rw [hfo] at HAT
                            go_wp2
                            go_roundw
                            case rel => exact ⟨⟨k + 1, hlt, rfl, by rw [HAT.out]; rfl, HX⟩⟩
                            case measure => simp only [intOf]; omega
                          · rw [hfo] at HAT
                            go_wp2
                            go_roundw
                            case rel => exact ⟨⟨k + 1, hlt, rfl, by rw [HAT.out]; rfl, HX⟩⟩
                            case measure => simp only [intOf]; omega
                        · obtain rfl : k = (exclM S ta).length := by omega
                          have hltd : decide (((exclM S ta).length : Int) < ((exclM S ta).length : Int)) = false := decide_eq_false (by omega)
                          have hnlt : ¬ ((exclM S ta).length : Int) < ((exclM S ta).length : Int) := by omega
                          rw [List.take_length, ← HON.out]
                          have hff : (false == false) = true := rfl
                          have HB8 := Lib.hid (HB7.out.trans (HX.out.mono HB7.out.size))
                          go_wp2_with (go_at_call 10; refine (sanity_any _).mono ?_; rintro e w20 ⟨rfl, h20⟩)
                          go_ret
                          exact ⟨rfl, HS.out.1.trans ((HB8.out.trans (h20.mono HB8.out.size)).mono HS.out.1.size)⟩
                  · have hs0 : Same W w0 ∧ Sat w0 (pts it (.mapIter (some mb) ck seen ck) * (pts mb (.map es ck) * old W)) := by
                      rcases hw0 with rfl | rfl
                      · exact HX.out
                      · exact ⟨HX.out.1.drew, HX.out.2.drew⟩
                    obtain ⟨kx, hkey, hval⟩ : ∃ kx, e.key = .int .i64 kx ∧ e.val = .int .i64 1 := by
                      have h1 : (e.key, e.val) ∈ es.toList.map (fun e => (e.key, e.val)) := List.mem_map_of_mem he
                      rw [HM.out.ent] at h1
                      obtain ⟨q, hq, hqe⟩ := List.mem_map.1 h1
                      have h2 := askK_vals _ _ q hq
                      simp only [Prod.mk.injEq] at hqe
                      exact ⟨q.1, hqe.1.symm, by rw [← hqe.2, h2]⟩
                    have H6 := Lib.hid (And.intro (hs0.1.setBlock (r := it) (.mapIter (some mb) ck (seen.push e.born) ck)) (hs0.2.setBlock (o' := .mapIter (some mb) ck (seen.push e.born) ck)))
                    have hen := run_entry_kv (P := Tryz.prog) H6.out.2.block H6.out.2.right.block HM.out he (by simp)
                    have HUN := Lib.hid (show unseen mb it (setBlock w0 it (.mapIter (some mb) ck (seen.push e.born) ck)) < unseen mb it wr by
                      have e1 : unseen mb it (setBlock w0 it (.mapIter (some mb) ck (seen.push e.born) ck)) = (es.toList.filter fun z => !(seen.push e.born).toList.contains z.born).length := by unfold unseen; rw [H6.out.2.block, H6.out.2.right.block]
                      have e2 : unseen mb it wr = (es.toList.filter fun z => !seen.toList.contains z.born).length := by unfold unseen; rw [HX.out.2.block, HX.out.2.right.block]
                      rw [e1, e2]
                      refine filter_sub HM.out.born (fun z hz => hz) ?_ he (by simpa using hes) (.inr (by simp))
                      intro z hz hq
                      simp only [Array.toList_push, Bool.not_eq_true', List.contains_eq_mem, decide_eq_false_iff_not, List.mem_append, not_or] at hq ⊢
                      exact hq.1)
                    rw [hkey, hval] at hnx hen
                    clear hkey hval he hes hs0 hw0 HX
                    generalize setBlock w0 it (.mapIter (some mb) ck (seen.push e.born) ck) = W1 at hnx hen H6 HUN
                    go_wp2_with (first
                      | ((with_reducible (apply wpList_next_run (h := hnx))); rfl; rfl; rfl)
                      | ((with_reducible (apply wpList_entry_run (h := hen))); rfl; rfl; rfl))
                    go_roundw
                    case rel =>
                      (repeat apply Exists.intro)
                      first | exact ⟨⟨_, H6.out⟩, rfl⟩ | exact ⟨⟨_, H6.out⟩⟩
                    case measure => exact HUN.out
  · have HN := Lib.hid (build_no sv l w hscr (by omega))
    unfold nilV at HN
    clear hscr
    go_enter Tryz.func8, Tryz.ntmps8
    go_wp2_with (first
      | (go_at_call 9; refine HN.out.mono ?_; rintro e w1 ⟨rfl, h1⟩)
      | (go_at_call 10; refine (sanity_any _).mono ?_; rintro e w2 ⟨rfl, h2⟩))
    go_ret
    have hal := h1.alloc h1.size (.cells #[.slice none 0 0, .slice none 0 0] TRS)
    exact ⟨rfl, hal.trans (h2.mono hal.size)⟩
set_option maxRecDepth 100000 in
theorem usageSeparates_lifted (os : Os) (started : os.Started) (H : Type) (enc : TypeId × Value → H) :
    ReturnsInHanded {} Tryz.checked os 8 .any (Rows.usageSeparatesSpec.pre6 enc Tryz.prog Tryz.f8 Rows.usageSeparatesRow.domain false) (Rows.usageSeparatesSpec.post enc Tryz.prog Tryz.f8 false true false false) := by
  refine returnsInHanded_of_change (C := Tryz.checked) law_own started (by kernel_rfl) Tryz.func8
    (ChangeSpec.witness6 (enc := enc) (C := Tryz.checked) false ⟨#[], #[.slice none 0 0, .int .i64 0, .int .i64 0, .int .i64 0], []⟩ 8 (by kernel_rfl) (by kernel_rfl) (by kernel_rfl) (by kernel_rfl)) ?_
  intro W base args ds gs before hval0 hW _ _
  have hval : ∀ (j : Nat) t v, Tryz.f8.params[j]? = some t → args[j]? = some v → Value.okWide Tryz.prog W .any base t v := hval0
  have hW' := hW
  obtain ⟨p, q, hA0, hV, rfl, _, _⟩ := hW
  have hA : DataW.TrodAll enc Tryz.prog W 0 (fun _ => true) true Tryz.f8.params.toList args.toList ds p := hA0
  rw [Tryz.params8] at hA hval
  obtain ⟨w0, vs0, d0, ds0, p0, q0, hargs, rfl, rfl, h0, r0⟩ := trodAll_cons hA
  obtain ⟨w1, vs1, d1, ds1, p1, q1, rfl, rfl, rfl, h1, r1⟩ := trodAll_cons r0
  obtain ⟨w2, vs2, d2, ds2, p2, q2, rfl, rfl, rfl, h2, r2⟩ := trodAll_cons r1
  obtain ⟨w3, vs3, d3, ds3, p3, q3, rfl, rfl, rfl, h3, r3⟩ := trodAll_cons r2
  obtain ⟨rfl, rfl, rfl⟩ := trodAll_nil r3
  obtain rfl : args = #[w0, w1, w2, w3] := by cases args; simp_all
  obtain ⟨rfl, rfl⟩ := trodVars_none hV
  obtain ⟨v0, l0, e0, s0⟩ := rd_vscript28 (trod_rd h0)
  obtain ⟨x0, y0, z0, rfl⟩ := okWide_slice Tryz.underlying22 (hval 0 _ w0 rfl rfl)
  obtain rfl : .slice x0 y0 z0 = v0 := by simpa [Value.cells] using e0
  obtain ⟨b1, rfl, rfl, rfl, wf1⟩ := open_int Tryz.underlying3 (hval 1 3 w1 rfl rfl) h1
  obtain ⟨b2, rfl, rfl, rfl, wf2⟩ := open_int Tryz.underlying3 (hval 2 3 w2 rfl rfl) h2
  obtain ⟨b3, rfl, rfl, rfl, wf3⟩ := open_int Tryz.underlying3 (hval 3 3 w3 rfl rfl) h3
  refine (sepa_law _ l0 b1 b2 b3 W s0).mono fun e W' ⟨he, hg⟩ => ?_
  subst he
  exact ⟨_, rfl, law_post (by kernel_rfl) rfl (of_decide_eq_true (by kernel_rfl)) rfl hW' hg⟩

theorem usageSeparates_holds : Rows.UsageSeparatesSaid :=
  OpenClaim.holds_of_wide 8 Tryz.f8 rfl rfl rfl rfl rfl rfl rfl ⟨rfl, rfl, rfl, rfl, rfl⟩ rfl rfl rfl rfl rfl (by kernel_rfl) Tryz.func8 (by kernel_rfl)
    (of_decide_eq_true (by kernel_rfl)) (by unfold Func.isWrapper; first | (rw [if_pos (by decide +kernel)]; kernel_rfl) | (rw [if_neg (by decide +kernel)]; exact ⟨rfl, rfl⟩))
    (fun os started H enc _ => usageSeparates_lifted os started H enc)

end Go.Proofs.YtmgcgdkndkibgaaGreat
