/- codelang.Check. -/
import Derived.Test.YtnilepaicnnbhaaGreatDoorJx
namespace Go.GF
open Go Go.RowKit
/-- A row of a code is valid. -/
def rowC (f k : Int) (r : List Int) : Bool :=
  decide ((r.length : Int) = k) && (decide (0 ≤ mnK min r (r.length - 1)) && (decide (1 ≤ mnK max r (r.length - 1)) && decide (shrN (mnK max r (r.length - 1)).toNat f.toNat = 0)))
def checkB (nm : ByteArray) (f k : Int) (L : List (List Int)) (dom : Int) : Bool :=
  wordB nm && (decide (nm.size ≤ 12) && ((f == 8 || f == 16) && (decide (1 ≤ k) && (decide (k ≤ 31) && (decide (L.length ≠ 0) && (decide (k + (L.length : Int) ≤ 32) && (L.all (rowC f k) && (decide (1 ≤ dom) && decide (dom ≤ k + (L.length : Int))))))))))
theorem not_all {α : Type} {p : α → Bool} {l : List α} {x : α} (h : x ∈ l) (hp : p x = false) : l.all p = false := by
  rw [List.all_eq_false]; exact ⟨x, h, by simp [hp]⟩
end Go.GF
namespace Go.Proofs.YtnilepaicnnbhaaGreatDoor
open Go.RowKit Go.GF Go.Sl
attribute [local go_sem high] b_shr

theorem RowI.drewN {w : World} {v : Value} {L : List Value} (h : RowI w v L) (n : Nat) : RowI (w.drewN n) v L := h.below (below_drewN (Below.refl _ w) n)
structure CkSt (w : World) (nm : ByteArray) (f k : Int) (pv : Value) (dom : Int) (L : List (List Int)) (i : Value) (wr : World) : Prop where
  st : ∃ n : Nat, n ≤ L.length ∧ i = .int .i64 (n : Int) ∧ (L.take n).all (rowC f k) = true ∧ Box wr w.heap.size (codeV nm f k pv dom) ∧ Below w.heap.size w wr
set_option maxRecDepth 20000 in
set_option maxHeartbeats 4000000 in
theorem check_any (nm : ByteArray) (hnm : nm.size ≤ maxLen) (f k : Int) (pv : Value) (dom : Int) (L : List (List Int)) (hl : L.length ≤ 100000) (hk63 : -9000000000000000000 ≤ k ∧ k ≤ 9000000000000000000) (w : World) (hp : RowsI w pv L) :
    Calls Tryz.prog 16 #[.agg (codeV nm f k pv dom)] w fun e w' => (∃ z : Int, e = .returned (.int .i64 z) ∧ (z == 0) = checkB nm f k L dom) ∧ Below w.heap.size w w' := by
  have HWD := Lib.hid (fun W => word_any nm hnm W)
  have HIF := Lib.hid (fun W => isfield_any f W)
  have hbox : ∀ t, Box (w.alloc (.cells (codeV nm f k pv dom) t)) w.heap.size (codeV nm f k pv dom) := fun t => ⟨t, World.alloc_heap_new w _⟩
  have HAL := Lib.hid (fun o => al_below w o)
  have hp2 := hp
  obtain ⟨ao, cp, rfl⟩ := RowsI.shape hp
  obtain ⟨len, hlen⟩ : ∃ len, L.length = len := ⟨_, rfl⟩
  have HLEN := Lib.hid hlen
  rw [hlen] at hl hbox hp2 ⊢
  have HBX := Lib.hid hbox
  have HRW := Lib.hid hp2
  have hl63 : (len : Int) ≤ 9223372036854775807 := by omega
  have hnm63 : (nm.size : Int) ≤ 9223372036854775807 := by unfold maxLen at hnm; omega
  obtain ⟨width, hwd⟩ : ∃ width, k + (len : Int) = width := ⟨_, rfl⟩
  have hw1 : IntKind.i64.wrap (k + (len : Int)) = width := (IntWalk.i64_in _ (by omega)).trans hwd
  have HWI := Lib.hid hwd
  have HCB := Lib.hid (show checkB nm f k L dom = (wordB nm && (decide (nm.size ≤ 12) && ((f == 8 || f == 16) && (decide (1 ≤ k) && (decide (k ≤ 31) && (decide (len ≠ 0) && (decide (width ≤ 32) && (L.all (rowC f k) && (decide (1 ≤ dom) && decide (dom ≤ width)))))))))) by
    unfold checkB; rw [hlen, hwd])
  clear hp hp2 hl hbox hlen hwd hnm
  unfold codeV at *
  cases hwB : wordB nm with
  | false =>
    have HZ := Lib.hid (show checkB nm f k L dom = false by rw [HCB.out]; simp [hwB])
    go_enter Tryz.func16, Tryz.ntmps16
    go_wp2_with first
      | (go_at_call 34; refine (HWD.out _).mono ?_; rintro e w1 ⟨rfl, rfl⟩; try rw [hwB])
    go_ret
    exact ⟨⟨_, rfl, by rw [HZ.out]; rfl⟩, HAL.out _⟩
  | true =>
    by_cases h12 : nm.size ≤ 12
    case neg =>
      have d12 : decide (12 < (nm.size : Int)) = true := decide_eq_true (by omega)
      have HZ := Lib.hid (show checkB nm f k L dom = false by rw [HCB.out]; simp [hwB, h12])
      clear h12
      go_enter Tryz.func16, Tryz.ntmps16
      go_wp2_with first
        | (go_at_call 34; refine (HWD.out _).mono ?_; rintro e w1 ⟨rfl, rfl⟩; try rw [hwB])
      go_ret
      exact ⟨⟨_, rfl, by rw [HZ.out]; rfl⟩, HAL.out _⟩
    have d12 : decide (12 < (nm.size : Int)) = false := decide_eq_false (by omega)
    cases hfB : (f == 8 || f == 16) with
    | false =>
      have HZ := Lib.hid (show checkB nm f k L dom = false by rw [HCB.out]; simp [hwB, h12, hfB])
      clear h12
      go_enter Tryz.func16, Tryz.ntmps16
      go_wp2_with first
        | (go_at_call 34; refine (HWD.out _).mono ?_; rintro e w1 ⟨rfl, rfl⟩; try rw [hwB])
        | (go_at_call 35; refine (HIF.out _).mono ?_; rintro e w1 ⟨rfl, rfl⟩; try rw [hfB])
      go_ret
      exact ⟨⟨_, rfl, by rw [HZ.out]; rfl⟩, HAL.out _⟩
    | true =>
      by_cases hk1 : 1 ≤ k
      case neg =>
        have dk1 : decide (k < 1) = true := decide_eq_true (by omega)
        have HZ := Lib.hid (show checkB nm f k L dom = false by rw [HCB.out]; simp [hwB, h12, hfB, hk1])
        clear h12 hk1
        go_enter Tryz.func16, Tryz.ntmps16
        go_wp2_with first
          | (go_at_call 34; refine (HWD.out _).mono ?_; rintro e w1 ⟨rfl, rfl⟩; try rw [hwB])
          | (go_at_call 35; refine (HIF.out _).mono ?_; rintro e w1 ⟨rfl, rfl⟩; try rw [hfB])
        go_ret
        exact ⟨⟨_, rfl, by rw [HZ.out]; rfl⟩, HAL.out _⟩
      have dk1 : decide (k < 1) = false := decide_eq_false (by omega)
      by_cases hk31 : k ≤ 31
      case neg =>
        have dk31 : decide (31 < k) = true := decide_eq_true (by omega)
        have HZ := Lib.hid (show checkB nm f k L dom = false by rw [HCB.out]; simp [hwB, h12, hfB, hk1, hk31])
        clear h12 hk1 hk31
        go_enter Tryz.func16, Tryz.ntmps16
        go_wp2_with first
          | (go_at_call 34; refine (HWD.out _).mono ?_; rintro e w1 ⟨rfl, rfl⟩; try rw [hwB])
          | (go_at_call 35; refine (HIF.out _).mono ?_; rintro e w1 ⟨rfl, rfl⟩; try rw [hfB])
        go_ret
        exact ⟨⟨_, rfl, by rw [HZ.out]; rfl⟩, HAL.out _⟩
      have dk31 : decide (31 < k) = false := decide_eq_false (by omega)
      by_cases hl0 : len ≠ 0
      case neg =>
        have dl0 : ((len : Int) == 0) = true := by rw [beq_iff_eq]; omega
        have HZ := Lib.hid (show checkB nm f k L dom = false by rw [HCB.out]; simp [hwB, h12, hfB, hk1, hk31, hl0])
        clear h12 hk1 hk31 hl0
        go_enter Tryz.func16, Tryz.ntmps16
        go_wp2_with first
          | (go_at_call 34; refine (HWD.out _).mono ?_; rintro e w1 ⟨rfl, rfl⟩; try rw [hwB])
          | (go_at_call 35; refine (HIF.out _).mono ?_; rintro e w1 ⟨rfl, rfl⟩; try rw [hfB])
        go_ret
        exact ⟨⟨_, rfl, by rw [HZ.out]; rfl⟩, HAL.out _⟩
      have dl0 : ((len : Int) == 0) = false := by rw [beq_eq_false_iff_ne]; omega
      by_cases hw32 : width ≤ 32
      case neg =>
        have dw32 : decide (32 < width) = true := decide_eq_true (by omega)
        have HZ := Lib.hid (show checkB nm f k L dom = false by rw [HCB.out]; simp [hwB, h12, hfB, hk1, hk31, hl0, hw32])
        clear h12 hk1 hk31 hl0 hw32
        go_enter Tryz.func16, Tryz.ntmps16
        go_wp2_with first
          | (go_at_call 34; refine (HWD.out _).mono ?_; rintro e w1 ⟨rfl, rfl⟩; try rw [hwB])
          | (go_at_call 35; refine (HIF.out _).mono ?_; rintro e w1 ⟨rfl, rfl⟩; try rw [hfB])
        go_ret
        exact ⟨⟨_, rfl, by rw [HZ.out]; rfl⟩, HAL.out _⟩
      have dw32 : decide (32 < width) = false := decide_eq_false (by omega)
      have HB7 := Lib.hid (show checkB nm f k L dom = (L.all (rowC f k) && (decide (1 ≤ dom) && decide (dom ≤ width))) by rw [HCB.out]; simp [hwB, h12, hfB, hk1, hk31, hl0, hw32])
      have HFF := Lib.hid (show f = 8 ∨ f = 16 by simpa using hfB)
      have HK1 := Lib.hid hk1
      clear h12 hk1 hk31 hl0 hw32 HCB
      go_enter Tryz.func16, Tryz.ntmps16
      go_wp2_with first
        | (go_at_call 34; refine (HWD.out _).mono ?_; rintro e w1 ⟨rfl, rfl⟩; try rw [hwB])
        | (go_at_call 35; refine (HIF.out _).mono ?_; rintro e w1 ⟨rfl, rfl⟩; try rw [hfB])
      have HF := Lib.hid (And.intro (HBX.out 24) (HAL.out (.cells #[.string nm, .int .i64 f, .int .i64 k, .slice ao len cp, .int .i64 dom] 24)))
      clear HBX HAL HWD HIF hwB
      go_loopw [49] (fun i wr => CkSt w nm f k (.slice ao len cp) dom L i wr) (fun i _ => len - (intOf i).toNat)
      case atStart => exact ⟨⟨0, Nat.zero_le _, rfl, rfl, HF.out.1, HF.out.2⟩⟩
      case round =>
        clear HF
        obtain ⟨n, hn, rfl, ha, hbx, hbl⟩ := hrel.st
        clear hrel
        obtain ⟨c0, c1, c2, c3, c4⟩ := Box.code hbx
        have HF := Lib.hid (And.intro hbx hbl)
        by_cases hlt : n < len
        · have hltd : decide ((n : Int) < (len : Int)) = true := decide_eq_true (by omega)
          have hwk : IntKind.i64.wrap ((n : Int) + 1) = (n : Int) + 1 := IntWalk.i64_in _ (by omega)
          obtain ⟨rvs, ⟨_, _, hv1, -, -, hr1⟩, hrl, hrr⟩ := HRW.out
          simp only [Value.slice.injEq] at hv1
          obtain ⟨rfl, hlv, rfl⟩ := hv1
          have hlv' : n < rvs.length := by omega
          obtain ⟨b1, o1, rfl, hl1, hc1⟩ := hr1 (by omega)
          obtain ⟨x, hx⟩ : ∃ x, rvs[n]? = some x := ⟨_, List.getElem?_eq_getElem hlv'⟩
          have e1 := (hbl.cell (p := ⟨b1, o1 + n, none⟩) hl1).trans (hc1 n x hx)
          obtain ⟨r, hLr, hxr⟩ := hrr n x hx
          have hxw := hxr.below hbl
          have HMN := Lib.hid (fun m (h0 : 0 < r.length) => min_any x r h0 (wr.drewN m) (RowI.drewN hxw m))
          have HMX := Lib.hid (fun m (h0 : 0 < r.length) => max_any x r h0 (wr.drewN m) (RowI.drewN hxw m))
          have HBQ := Lib.hid (fun m => show Below w.heap.size w (wr.drewN m) from below_drewN hbl m)
          have HNX := Lib.hid (show rowC f k r = true → (L.take (n + 1)).all (rowC f k) = true from fun h => by
            rw [List.take_add_one, hLr, List.all_append, ha]; simp [h])
          have HNO := Lib.hid (show rowC f k r = false → checkB nm f k L dom = false from fun h => by
            rw [HB7.out, not_all (List.mem_of_getElem? hLr) h]; rfl)
          have HNL := Lib.hid hlt
          obtain ⟨ax, cx, rfl, -, -, -⟩ := hxr
          rw [intsV_len] at *
          clear ha hbx hbl hr1 hrl hrr hc1 hl1 hlv hlv' hx hLr hxw hn hlt
          by_cases hrk : (r.length : Int) = k
          case neg =>
            have drk : ((r.length : Int) != k) = true := by simpa using hrk
            have HR := Lib.hid (show rowC f k r = false by unfold rowC; rw [decide_eq_false hrk]; rfl)
            clear hrk
            go_upto_region 13 with (fail)
            go_quiet (fail)
            go_wp2
            go_ret
            exact ⟨⟨_, rfl, by rw [HNO.out HR.out]; rfl⟩, HBQ.out _⟩
          have drk : ((r.length : Int) != k) = false := by simpa using hrk
          have hr0 : 0 < r.length := by have := HK1.out; omega
          have HC1 := Lib.hid (decide_eq_true hrk)
          have HMN2 := Lib.hid (fun m => HMN.out m hr0)
          have HMX2 := Lib.hid (fun m => HMX.out m hr0)
          clear HMN HMX hrk hr0
          have HRC := Lib.hid (show rowC f k r = (decide ((r.length : Int) = k) && (decide (0 ≤ mnK min r (r.length - 1)) && (decide (1 ≤ mnK max r (r.length - 1)) && decide (shrN (mnK max r (r.length - 1)).toNat f.toNat = 0)))) from rfl)
          generalize mnK min r (r.length - 1) = mi at *
          generalize mnK max r (r.length - 1) = ma at *
          by_cases hmi : 0 ≤ mi
          case neg =>
            have dmi : decide (mi < 0) = true := decide_eq_true (by omega)
            have HR := Lib.hid (show rowC f k r = false by rw [HRC.out, decide_eq_false hmi]; simp)
            clear hmi
            go_upto_region 13 with (fail)
            go_quiet ((go_at_call 36; exact (HMN2.out _).mono fun e w' h => ⟨h.1, _, h.2⟩))
            go_wp2
            go_ret
            exact ⟨⟨_, rfl, by rw [HNO.out HR.out]; rfl⟩, HBQ.out _⟩
          have dmi : decide (mi < 0) = false := decide_eq_false (by omega)
          have HC2 := Lib.hid (decide_eq_true hmi)
          clear hmi
          by_cases hma : 1 ≤ ma
          case neg =>
            have dma : decide (ma < 1) = true := decide_eq_true (by omega)
            have HR := Lib.hid (show rowC f k r = false by rw [HRC.out, decide_eq_false hma]; simp)
            clear hma
            go_upto_region 13 with (fail)
            go_quiet (first
              | (go_at_call 36; exact (HMN2.out _).mono fun e w' h => ⟨h.1, _, h.2⟩)
              | (go_at_call 37; exact (HMX2.out _).mono fun e w' h => ⟨h.1, _, h.2⟩))
            go_wp2
            go_ret
            exact ⟨⟨_, rfl, by rw [HNO.out HR.out]; rfl⟩, HBQ.out _⟩
          have dma : decide (ma < 1) = false := decide_eq_false (by omega)
          have HC3 := Lib.hid (decide_eq_true hma)
          obtain ⟨mN, rfl⟩ := Int.eq_ofNat_of_zero_le (show 0 ≤ ma by omega)
          obtain ⟨fN, hf62, rfl⟩ : ∃ fN : Nat, fN ≤ 62 ∧ f = (fN : Int) := by rcases HFF.out with h | h; exact ⟨8, by omega, h⟩; exact ⟨16, by omega, h⟩
          rw [Int.toNat_natCast, Int.toNat_natCast] at HRC
          by_cases hsh : shrN mN fN = 0
          case neg =>
            have dsh : decide (0 < shrN mN fN) = true := decide_eq_true (by omega)
            have HR := Lib.hid (show rowC (fN : Int) k r = false by rw [HRC.out, decide_eq_false hsh]; simp)
            clear hsh hma
            go_upto_region 13 with (fail)
            go_quiet (first
              | (go_at_call 36; exact (HMN2.out _).mono fun e w' h => ⟨h.1, _, h.2⟩)
              | (go_at_call 37; exact (HMX2.out _).mono fun e w' h => ⟨h.1, _, h.2⟩))
            go_wp2
            go_ret
            exact ⟨⟨_, rfl, by rw [HNO.out HR.out]; rfl⟩, HBQ.out _⟩
          have dsh : decide (0 < shrN mN fN) = false := decide_eq_false (by omega)
          have HR := Lib.hid (show rowC (fN : Int) k r = true by rw [HRC.out, HC1.out, HC2.out, HC3.out, decide_eq_true hsh]; rfl)
          clear hsh hma
          go_upto_region 13 with (fail)
          go_quiet (first
            | (go_at_call 36; exact (HMN2.out _).mono fun e w' h => ⟨h.1, _, h.2⟩)
            | (go_at_call 37; exact (HMX2.out _).mono fun e w' h => ⟨h.1, _, h.2⟩))
          go_wp2
          go_roundw
          case rel => exact ⟨⟨n + 1, by rw [HLEN.out]; exact HNL.out, rfl, HNX.out HR.out, HF.out.1.below (below_drewN (Below.refl _ wr) _), HBQ.out _⟩⟩
          case measure => simp only [intOf]; have := HNL.out; omega
        · have hne : n = L.length := by rw [HLEN.out] at *; omega
          have hltd : decide ((n : Int) < (len : Int)) = false := decide_eq_false (by omega)
          have hltp : ¬ (n : Int) < (len : Int) := by omega
          have HB8 := Lib.hid (show checkB nm f k L dom = (decide (1 ≤ dom) && decide (dom ≤ width)) by
            rw [HB7.out]; rw [hne, List.take_length] at ha; rw [ha]; rfl)
          clear ha hbx hbl hne hn hlt
          by_cases hd1 : 1 ≤ dom
          case neg =>
            have dd1 : decide (dom < 1) = true := decide_eq_true (by omega)
            have HZ := Lib.hid (show checkB nm f k L dom = false by rw [HB8.out, decide_eq_false hd1]; rfl)
            clear hd1
            go_wp2
            go_ret
            exact ⟨⟨_, rfl, by rw [HZ.out]; rfl⟩, HF.out.2⟩
          have dd1 : decide (dom < 1) = false := decide_eq_false (by omega)
          by_cases hd2 : dom ≤ width
          case neg =>
            have dd2 : decide (width < dom) = true := decide_eq_true (by omega)
            have HZ := Lib.hid (show checkB nm f k L dom = false by rw [HB8.out, decide_eq_false hd2]; simp)
            clear hd1 hd2
            go_wp2
            go_ret
            exact ⟨⟨_, rfl, by rw [HZ.out]; rfl⟩, HF.out.2⟩
          have dd2 : decide (width < dom) = false := decide_eq_false (by omega)
          have HZ := Lib.hid (show checkB nm f k L dom = true by rw [HB8.out, decide_eq_true hd1, decide_eq_true hd2]; rfl)
          clear hd1 hd2
          go_wp2
          go_ret
          exact ⟨⟨_, rfl, by rw [HZ.out]; rfl⟩, HF.out.2⟩
end Go.Proofs.YtnilepaicnnbhaaGreatDoor
