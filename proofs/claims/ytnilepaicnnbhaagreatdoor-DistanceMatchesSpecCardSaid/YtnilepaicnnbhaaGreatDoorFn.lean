/- solventref07: top, Check. -/
import Derived.Test.YtnilepaicnnbhaaGreatDoorFd
import Derived.Test.YtnilepaicnnbhaaGreatDoorFj
import Derived.Test.YtnilepaicnnbhaaGreatDoorJz
namespace Go.GF
open Go
theorem take_sum {r : List Int} {j : Nat} {x : Int} (h : r[j]? = some x) : (r.take (j + 1)).sum = (r.take j).sum + x := by
  rw [List.take_add_one, h, List.sum_append]; simp
theorem sum_bound (B : Int) : ∀ (r : List Int), (∀ x ∈ r, 0 ≤ x ∧ x ≤ B) → 0 ≤ r.sum ∧ r.sum ≤ B * r.length
  | [], _ => by simp
  | x :: r, h => by
    have h1 := h x (by simp)
    have h2 := sum_bound B r fun y hy => h y (by simp [hy])
    rw [List.sum_cons, List.length_cons]
    refine ⟨by omega, ?_⟩
    have : B * ((r.length + 1 : Nat) : Int) = B * r.length + B := by rw [Int.natCast_add, Int.mul_add]; simp
    omega
theorem sum_zero : ∀ {r : List Int}, (∀ x ∈ r, 0 ≤ x) → (r.sum = 0 ↔ ∀ x ∈ r, x = 0)
  | [], _ => by simp
  | x :: r, h => by
    have h1 := h x (by simp)
    have ih := sum_zero (r := r) fun y hy => h y (by simp [hy])
    have h2 : 0 ≤ r.sum := by
      have : ∀ l : List Int, (∀ y ∈ l, 0 ≤ y) → 0 ≤ l.sum := by
        intro l
        induction l with
        | nil => intro _; simp
        | cons a l ih => intro hl; have := hl a (by simp); have := ih fun y hy => hl y (by simp [hy]); rw [List.sum_cons]; omega
      exact this r fun y hy => h y (by simp [hy])
    rw [List.sum_cons]
    constructor
    · intro h0
      intro y hy
      rcases List.mem_cons.1 hy with rfl | hy
      · omega
      · exact ih.1 (by omega) y hy
    · intro h0
      have := h0 x (by simp)
      have := ih.2 fun y hy => h0 y (by simp [hy])
      omega
end Go.GF
namespace Go.Proofs.YtnilepaicnnbhaaGreatDoor
open Go.RowKit Go.GF Go.Sl
theorem r7top_any (m : Nat) (hm : isF m) (w : World) : Calls Tryz.prog 65 #[.int .i64 (m : Int)] w fun e w' => e = .returned (.int .i64 (((2 ^ m : Nat) : Int) - 1)) ∧ w' = w := by
  rcases hm with rfl | rfl
  · go_enter Tryz.func65, Tryz.ntmps65
    go_wp2
    go_ret
    exact ⟨rfl, rfl⟩
  · go_enter Tryz.func65, Tryz.ntmps65
    go_wp2
    go_ret
    exact ⟨rfl, rfl⟩
structure C7I (w : World) (g : Nat) (nm : ByteArray) (f k : Int) (pv : Value) (dom : Int) (B : Int) (r : List Int) (sv jv : Value) (wr : World) : Prop where
  st : ∃ j : Nat, j ≤ r.length ∧ jv = .int .i64 (j : Int) ∧ (∀ x ∈ r.take j, 0 ≤ x ∧ x ≤ B) ∧ sv = .int .i64 (r.take j).sum ∧ V8 w g nm f k pv dom wr
set_option maxRecDepth 20000 in
set_option maxHeartbeats 4000000 in
theorem r7check_any (nm : ByteArray) (hnm : nm.size ≤ maxLen) (f k : Int) (pv : Value) (dom : Int) (L : List (List Int)) (hl : L.length ≤ 100000) (hk63 : -9000000000000000000 ≤ k ∧ k ≤ 9000000000000000000) (w : World) (hp : RowsI w pv L) :
    Calls Tryz.prog 42 #[.agg (codeV nm f k pv dom)] w fun e w' => (∃ z : Int, e = .returned (.int .i64 z) ∧ (z == 0) = checkB nm f k L dom) ∧ Below w.heap.size w w' := by
  have HWD := Lib.hid (fun W => r7word_any nm hnm W)
  have hbox : ∀ t, Box (w.alloc (.cells (codeV nm f k pv dom) t)) w.heap.size (codeV nm f k pv dom) := fun t => ⟨t, World.alloc_heap_new w _⟩
  have HAL := Lib.hid (fun o => al_below w o)
  have hp2 := hp
  obtain ⟨ao, cp, rfl⟩ := RowsI.shape hp
  obtain ⟨len, hlen⟩ : ∃ len, L.length = len := ⟨_, rfl⟩
  have HLEN := Lib.hid hlen
  rw [hlen] at hl hbox hp2 ⊢
  have HBX := Lib.hid hbox
  have HRW := Lib.hid hp2
  have hl63 : (len : Int) ≤ 9223372036854775807 := by omega
  have hnm63 : (nm.size : Int) ≤ 9223372036854775807 := by unfold maxLen at hnm; omega
  obtain ⟨width, hwd⟩ : ∃ width, k + (len : Int) = width := ⟨_, rfl⟩
  have hw1 : IntKind.i64.wrap (k + (len : Int)) = width := (IntWalk.i64_in _ (by omega)).trans hwd
  have HWI := Lib.hid hwd
  have HCB := Lib.hid (show checkB nm f k L dom = (wordB nm && (decide (nm.size ≤ 12) && ((f == 8 || f == 16) && (decide (1 ≤ k) && (decide (k ≤ 31) && (decide (len ≠ 0) && (decide (width ≤ 32) && (L.all (rowC f k) && (decide (1 ≤ dom) && decide (dom ≤ width)))))))))) by
    unfold checkB; rw [hlen, hwd])
  clear hp hp2 hl hbox hlen hwd hnm
  unfold codeV at *
  cases hwB : wordB nm with
  | false =>
    have HZ := Lib.hid (show checkB nm f k L dom = false by rw [HCB.out]; simp [hwB])
    go_enter Tryz.func42, Tryz.ntmps42
    go_wp2_with first
      | (go_at_call 64; refine (HWD.out _).mono ?_; rintro e w1 ⟨rfl, rfl⟩; try rw [hwB])
    go_ret
    exact ⟨⟨_, rfl, by rw [HZ.out]; rfl⟩, HAL.out _⟩
  | true =>
    by_cases h12 : nm.size ≤ 12
    case neg =>
      have d12 : decide (12 < (nm.size : Int)) = true := decide_eq_true (by omega)
      have HZ := Lib.hid (show checkB nm f k L dom = false by rw [HCB.out]; simp [hwB, h12])
      clear h12
      go_enter Tryz.func42, Tryz.ntmps42
      go_wp2_with first
        | (go_at_call 64; refine (HWD.out _).mono ?_; rintro e w1 ⟨rfl, rfl⟩; try rw [hwB])
      go_ret
      exact ⟨⟨_, rfl, by rw [HZ.out]; rfl⟩, HAL.out _⟩
    have d12 : decide (12 < (nm.size : Int)) = false := decide_eq_false (by omega)
    cases hfB : (f == 8 || f == 16) with
    | false =>
      have HZ := Lib.hid (show checkB nm f k L dom = false by rw [HCB.out]; simp [hwB, h12, hfB])
      have hf8 : (f != 8) = true := by simp at hfB ⊢; exact hfB.1
      have hf16 : (f != 16) = true := by simp at hfB ⊢; exact hfB.2
      clear h12
      go_enter Tryz.func42, Tryz.ntmps42
      go_wp2_with first
        | (go_at_call 64; refine (HWD.out _).mono ?_; rintro e w1 ⟨rfl, rfl⟩; try rw [hwB])
      go_ret
      exact ⟨⟨_, rfl, by rw [HZ.out]; rfl⟩, HAL.out _⟩
    | true =>
      have hfl : ((f != 8) = false) ∨ ((f != 8) = true ∧ (f != 16) = false) := by
        have hf9 := hfB
        simp at hf9 ⊢
        omega
      rcases hfl with hf8 | ⟨hf8, hf16⟩
      all_goals (
        by_cases hk1 : 1 ≤ k
        case neg =>
          have dk1 : decide (k < 1) = true := decide_eq_true (by omega)
          have HZ := Lib.hid (show checkB nm f k L dom = false by rw [HCB.out]; simp [hwB, h12, hfB, hk1])
          clear h12 hk1
          go_enter Tryz.func42, Tryz.ntmps42
          go_wp2_with first
            | (go_at_call 64; refine (HWD.out _).mono ?_; rintro e w1 ⟨rfl, rfl⟩; try rw [hwB])
          go_ret
          exact ⟨⟨_, rfl, by rw [HZ.out]; rfl⟩, HAL.out _⟩
        have dk1 : decide (k < 1) = false := decide_eq_false (by omega)
        by_cases hk31 : k ≤ 31
        case neg =>
          have dk31 : decide (31 < k) = true := decide_eq_true (by omega)
          have HZ := Lib.hid (show checkB nm f k L dom = false by rw [HCB.out]; simp [hwB, h12, hfB, hk1, hk31])
          clear h12 hk1 hk31
          go_enter Tryz.func42, Tryz.ntmps42
          go_wp2_with first
            | (go_at_call 64; refine (HWD.out _).mono ?_; rintro e w1 ⟨rfl, rfl⟩; try rw [hwB])
          go_ret
          exact ⟨⟨_, rfl, by rw [HZ.out]; rfl⟩, HAL.out _⟩
        have dk31 : decide (31 < k) = false := decide_eq_false (by omega)
        by_cases hl0 : len ≠ 0
        case neg =>
          have dl0 : ((len : Int) == 0) = true := by rw [beq_iff_eq]; omega
          have HZ := Lib.hid (show checkB nm f k L dom = false by rw [HCB.out]; simp [hwB, h12, hfB, hk1, hk31, hl0])
          clear h12 hk1 hk31 hl0
          go_enter Tryz.func42, Tryz.ntmps42
          go_wp2_with first
            | (go_at_call 64; refine (HWD.out _).mono ?_; rintro e w1 ⟨rfl, rfl⟩; try rw [hwB])
          go_ret
          exact ⟨⟨_, rfl, by rw [HZ.out]; rfl⟩, HAL.out _⟩
        have dl0 : ((len : Int) == 0) = false := by rw [beq_eq_false_iff_ne]; omega
        by_cases hw32 : width ≤ 32
        case neg =>
          have dw32 : decide (32 < width) = true := decide_eq_true (by omega)
          have HZ := Lib.hid (show checkB nm f k L dom = false by rw [HCB.out]; simp [hwB, h12, hfB, hk1, hk31, hl0, hw32])
          clear h12 hk1 hk31 hl0 hw32
          go_enter Tryz.func42, Tryz.ntmps42
          go_wp2_with first
            | (go_at_call 64; refine (HWD.out _).mono ?_; rintro e w1 ⟨rfl, rfl⟩; try rw [hwB])
          go_ret
          exact ⟨⟨_, rfl, by rw [HZ.out]; rfl⟩, HAL.out _⟩
        have dw32 : decide (32 < width) = false := decide_eq_false (by omega)
        have HB7 := Lib.hid (show checkB nm f k L dom = (L.all (rowC f k) && (decide (1 ≤ dom) && decide (dom ≤ width))) by rw [HCB.out]; simp [hwB, h12, hfB, hk1, hk31, hl0, hw32])
        have HFF := Lib.hid (show f = 8 ∨ f = 16 by simpa using hfB)
        have HK1 := Lib.hid hk1
        clear h12 hk1 hk31 hl0 hw32 HCB
        go_enter Tryz.func42, Tryz.ntmps42
        go_wp2_with first
          | (go_at_call 64; refine (HWD.out _).mono ?_; rintro e w1 ⟨rfl, rfl⟩; try rw [hwB])
        have HF := Lib.hid (And.intro (HBX.out 24) (HAL.out (.cells #[.string nm, .int .i64 f, .int .i64 k, .slice ao len cp, .int .i64 dom] 24)))
        clear HBX HAL HWD hwB
        obtain ⟨m, hm, hfm⟩ : ∃ m : Nat, isF m ∧ (m : Int) = f := by rcases HFF.out with h | h; exact ⟨8, .inl rfl, h.symm⟩; exact ⟨16, .inr rfl, h.symm⟩
        obtain ⟨K, hK⟩ : ∃ K : Nat, k = (K : Int) := ⟨k.toNat, by have := HK1.out; omega⟩
        have hK31 : K ≤ 31 := by have := of_decide_eq_false dk31; omega
        have HTP := Lib.hid (fun W => r7top_any m hm W)
        have HRI := Lib.hid (fun (r : List Int) => rowC_iff (m := m) HK1.out r)
        have HPW := Lib.hid (show (2 ^ m : Nat) ≤ 65536 ∧ 1 ≤ (2 ^ m : Nat) by rcases hm with rfl | rfl <;> decide)
        generalize hB : ((2 ^ m : Nat) : Int) - 1 = B at *
        have HBB := Lib.hid (show ((2 ^ m : Nat) : Int) = B + 1 ∧ B ≤ 65535 ∧ 0 ≤ B by have := HPW.out; omega)
        rw [hfm] at HTP HRI
        have HKK := Lib.hid hK
        have HRK := Lib.hid (fun i j r x hr hx => rowsI_keep (i := i) (j := j) (r := r) (x := x) HRW.out hr hx)
        clear hm hB hfm hK HFF HPW
        go_loopw [4] (fun i wr => CkSt w nm f k (.slice ao len cp) dom L i wr) (fun i _ => len - (intOf i).toNat)
        case atStart => exact ⟨⟨0, Nat.zero_le _, rfl, rfl, HF.out.1, HF.out.2⟩⟩
        case round =>
          clear HF
          obtain ⟨n, hn, rfl, ha, hbx, hbl⟩ := hrel.st
          clear hrel
          obtain ⟨c0, c1, c2, c3, c4⟩ := Box.code (nm := nm) (dom := dom) hbx
          have HF := Lib.hid (show V8 w w.heap.size nm f k (.slice ao len cp) dom wr from ⟨hbx, hbl⟩)
          by_cases hlt : n < len
          · have hltd : decide ((n : Int) < (len : Int)) = true := decide_eq_true (by omega)
            have hwk : IntKind.i64.wrap ((n : Int) + 1) = (n : Int) + 1 := IntWalk.i64_in _ (by omega)
            obtain ⟨r, hr⟩ : ∃ r, L[n]? = some r := ⟨_, List.getElem?_eq_getElem (by rw [HLEN.out]; exact hlt)⟩
            obtain ⟨b, off, ao2, cp2, rfl, e1, -⟩ := rowsI_hd (HRW.out.below hbl) hr
            have HNX := Lib.hid (show rowC f k r = true → (L.take (n + 1)).all (rowC f k) = true from fun h => by
              rw [List.take_add_one, hr, List.all_append, ha]; simp [h])
            have HNO := Lib.hid (show rowC f k r = false → checkB nm f k L dom = false from fun h => by
              rw [HB7.out, not_all (List.mem_of_getElem? hr) h]; rfl)
            have HR := Lib.hid hr
            have HRF := Lib.hid (show (¬ ((r.length : Int) = k ∧ (∀ x ∈ r, 0 ≤ x ∧ x < ((2 ^ m : Nat) : Int)) ∧ ∃ x ∈ r, x ≠ 0)) → rowC f k r = false from fun h => by
              cases hx : rowC f k r with
              | false => rfl
              | true => exact absurd ((HRI.out r).1 hx) h)
            clear ha hbx hbl hr
            by_cases hrk : (r.length : Int) = k
            case neg =>
              have drk : ((r.length : Int) != k) = true := by simpa using hrk
              have HZ := Lib.hid (HNO.out (HRF.out fun h => hrk h.1))
              have HBQ := Lib.hid (fun m => show Below w.heap.size w (wr.drewN m) from below_drewN HF.out.bl m)
              clear hrk
              go_upto_region 16 with (fail)
              go_quiet (fail)
              go_wp2
              go_ret
              exact ⟨⟨_, rfl, by rw [HZ.out]; rfl⟩, HBQ.out _⟩
            have drk : ((r.length : Int) != k) = false := by simpa using hrk
            have HLK := Lib.hid (show r.length = K by have := HKK.out; omega)
            have HBQ := Lib.hid (fun m => HF.out.below (below_drewN (Below.refl _ wr) m))
            have HKC := Lib.hid hrk
            clear hrk
            go_upto_region 16 with (fail)
            go_quiet (fail)
            rename_i nq
            go_wp2
            have HFQ := Lib.hid (HBQ.out nq)
            generalize wr.drewN nq = w2 at *
            clear c0 c1 c2 c3 c4 e1 HBQ
            go_loopw [5, 6] (fun sv jv wr => C7I w w.heap.size nm f k (.slice (some ⟨b, off, none⟩) len cp) dom B r sv jv wr) (fun _ jv _ => K - (intOf jv).toNat)
            case atStart => exact ⟨⟨0, Nat.zero_le _, rfl, by simp, rfl, HFQ.out⟩⟩
            case round =>
              clear HFQ
              obtain ⟨j, hj, rfl, hall, rfl, hV⟩ := hrel.st
              clear hrel
              have HW := Lib.hid (And.intro hall hV)
              have HSB := Lib.hid (sum_bound B (r.take j) hall)
              have HTL := Lib.hid (show (r.take j).length ≤ 31 by rw [List.length_take]; have := HLK.out; omega)
              obtain ⟨c0, c1, c2, c3, c4⟩ := Box.code (nm := nm) (dom := dom) hV.bx
              clear hall hV
              by_cases hjK : j < K
              · have hjd : decide ((j : Int) < k) = true := decide_eq_true (by have := HKK.out; omega)
                have hwj : IntKind.i64.wrap ((j : Int) + 1) = (j : Int) + 1 := IntWalk.i64_in _ (by omega)
                obtain ⟨x, hx⟩ : ∃ x, r[j]? = some x := ⟨_, List.getElem?_eq_getElem (by have := HLK.out; omega)⟩
                obtain ⟨b', off', b2, off2, cp3, e1, hcc⟩ := HRK.out n j r x HR.out hx
                cases e1
                obtain ⟨c5, c6⟩ := hcc _ HW.out.2.bl
                have HX := Lib.hid hx
                have hjr : j < r.length := by have := HLK.out; omega
                clear hcc hx
                by_cases hx0 : x < 0
                · have hx0d : decide (x < 0) = true := decide_eq_true hx0
                  have HZ := Lib.hid (HNO.out (HRF.out fun h => by have := (h.2.1 x (List.mem_of_getElem? HX.out)).1; omega))
                  clear hx0
                  go_wp2
                  go_ret
                  exact ⟨⟨_, rfl, by rw [HZ.out]; rfl⟩, HW.out.2.bl⟩
                · have hx0d : decide (x < 0) = false := decide_eq_false hx0
                  by_cases hxB : x ≤ B
                  · have hxd : decide (B < x) = false := decide_eq_false (by omega)
                    have hws : IntKind.i64.wrap ((r.take j).sum + x) = (r.take (j + 1)).sum := by
                      rw [take_sum HX.out]
                      refine IntWalk.i64_in _ ?_
                      have h1 := HSB.out
                      have h2 : B * ((r.take j).length : Int) ≤ 65535 * 31 := by
                        refine Int.mul_le_mul HBB.out.2.1 (by have := HTL.out; omega) (by omega) (by omega)
                      have h3 := HBB.out
                      omega
                    have HAL2 := Lib.hid (show ∀ y ∈ r.take (j + 1), 0 ≤ y ∧ y ≤ B from fun y hy => by
                      rw [List.take_add_one, HX.out, List.mem_append] at hy
                      rcases hy with hy | hy
                      · exact HW.out.1 y hy
                      · simp at hy; subst hy; omega)
                    generalize hs2 : (r.take (j + 1)).sum = s2 at *
                    have HSS := Lib.hid hs2
                    clear hs2
                    clear hx0 hxB
                    go_wp2_with (go_at_call 65; refine (HTP.out _).mono ?_; rintro e w3 ⟨rfl, rfl⟩)
                    go_roundw
                    case rel => exact ⟨⟨j + 1, by have := HLK.out; omega, rfl, HAL2.out, by rw [HSS.out], HW.out.2⟩⟩
                    case measure => simp only [intOf]; omega
                  · have hxd : decide (B < x) = true := decide_eq_true (by omega)
                    have HZ := Lib.hid (HNO.out (HRF.out fun h => by have := (h.2.1 x (List.mem_of_getElem? HX.out)).2; have := HBB.out.1; omega))
                    clear hx0 hxB
                    go_wp2_with (go_at_call 65; refine (HTP.out _).mono ?_; rintro e w3 ⟨rfl, rfl⟩)
                    go_ret
                    exact ⟨⟨_, rfl, by rw [HZ.out]; rfl⟩, HW.out.2.bl⟩
              · have hjd : decide ((j : Int) < k) = false := decide_eq_false (by have := HKK.out; omega)
                have hjd2 : ¬ (j : Int) < k := of_decide_eq_false hjd
                have hte : r.take j = r := List.take_of_length_le (by have := HLK.out; omega)
                rw [hte] at HW ⊢
                have HS0 := Lib.hid (sum_zero (r := r) fun x hx => (HW.out.1 x hx).1)
                have HRT := Lib.hid (show (∃ x ∈ r, x ≠ 0) → rowC f k r = true from fun h => (HRI.out r).2 ⟨HKC.out, fun x hx => ⟨(HW.out.1 x hx).1, by have := (HW.out.1 x hx).2; have := HBB.out.1; omega⟩, h⟩)
                clear hte hjK hj
                by_cases hs0 : r.sum = 0
                · have hsd : (r.sum == 0) = true := by simpa using hs0
                  have HZ := Lib.hid (HNO.out (HRF.out fun h => by
                    obtain ⟨x, hx, hne⟩ := h.2.2
                    exact hne (HS0.out.1 hs0 x hx)))
                  clear hs0
                  go_wp2
                  go_ret
                  exact ⟨⟨_, rfl, by rw [HZ.out]; rfl⟩, HW.out.2.bl⟩
                · have hsd : (r.sum == 0) = false := by simpa using hs0
                  have HZ := Lib.hid (HNX.out (HRT.out (Classical.byContradiction fun h => hs0 (HS0.out.2 fun x hx => Classical.byContradiction fun hne => h ⟨x, hx, hne⟩))))
                  clear hs0
                  go_wp2
                  go_roundw
                  case rel => exact ⟨⟨n + 1, by rw [HLEN.out]; omega, rfl, HZ.out, HW.out.2.bx, HW.out.2.bl⟩⟩
                  case measure => simp only [intOf]; omega
          · have hne : n = L.length := by rw [HLEN.out] at *; omega
            have hltd : decide ((n : Int) < (len : Int)) = false := decide_eq_false (by omega)
            have hltp : ¬ (n : Int) < (len : Int) := by omega
            have HB8 := Lib.hid (show checkB nm f k L dom = (decide (1 ≤ dom) && decide (dom ≤ width)) by
              rw [HB7.out]; rw [hne, List.take_length] at ha; rw [ha]; rfl)
            clear ha hbx hbl hne hn hlt
            by_cases hd1 : 1 ≤ dom
            case neg =>
              have dd1 : decide (dom < 1) = true := decide_eq_true (by omega)
              have HZ := Lib.hid (show checkB nm f k L dom = false by rw [HB8.out, decide_eq_false hd1]; rfl)
              clear hd1
              go_wp2
              go_ret
              exact ⟨⟨_, rfl, by rw [HZ.out]; rfl⟩, HF.out.bl⟩
            have dd1 : decide (dom < 1) = false := decide_eq_false (by omega)
            by_cases hd2 : dom ≤ width
            case neg =>
              have dd2 : decide (width < dom) = true := decide_eq_true (by omega)
              have HZ := Lib.hid (show checkB nm f k L dom = false by rw [HB8.out, decide_eq_false hd2]; simp)
              clear hd1 hd2
              go_wp2
              go_ret
              exact ⟨⟨_, rfl, by rw [HZ.out]; rfl⟩, HF.out.bl⟩
            have dd2 : decide (width < dom) = false := decide_eq_false (by omega)
            have HZ := Lib.hid (show checkB nm f k L dom = true by rw [HB8.out, decide_eq_true hd1, decide_eq_true hd2]; rfl)
            clear hd1 hd2
            go_wp2
            go_ret
            exact ⟨⟨_, rfl, by rw [HZ.out]; rfl⟩, HF.out.bl⟩)
end Go.Proofs.YtnilepaicnnbhaaGreatDoor
