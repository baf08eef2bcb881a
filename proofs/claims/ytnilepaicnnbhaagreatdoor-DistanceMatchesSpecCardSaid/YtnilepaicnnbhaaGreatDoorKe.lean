/- math/bits.Mul by one; slices.Repeat of a truth value. -/
import Derived.Test.YtnilepaicnnbhaaGreatDoorKc
import Derived.Test.YtnilepaicnnbhaaGreatDoorVy
import Derived.Laws.CopyOwn
namespace Go.GF
open Go Go.RowKit
theorem mask_n (n : Nat) (hn : n ≤ 1000) : bits .and .u64 (n : Int) 4294967295 = (n : Int) := by
  have h := bits_and_u64_nat n 4294967295 (by omega) (by omega)
  have e : n &&& 4294967295 = n % 4294967296 := Nat.and_two_pow_sub_one_eq_mod n 32
  rw [e, Nat.mod_eq_of_lt (by omega)] at h
  exact h
/-- The first m of n are true. -/
def trueL (n m : Nat) : List Value := List.replicate m (.bool true) ++ List.replicate (n - m) (.bool false)
theorem trueL_len {n m : Nat} (h : m ≤ n) : (trueL n m).length = n := by unfold trueL; simp; omega
theorem trueL_copy {n m q : Nat} (_ : m + q ≤ n) : (trueL n m).take m ++ List.replicate q (.bool true) ++ (trueL n m).drop (m + q) = trueL n (m + q) := by
  unfold trueL
  rw [List.take_append_of_le_length (by simp), List.take_of_length_le (by simp), List.drop_append, List.drop_of_length_le (by simp), List.nil_append, List.length_replicate, List.drop_replicate, List.replicate_append_replicate]
  congr 2
  omega
end Go.GF
namespace Go.Proofs.YtnilepaicnnbhaaGreatDoor
open Go.RowKit Go.GF Go.Sl
set_option maxRecDepth 20000 in
set_option maxHeartbeats 1000000 in
theorem mul64_one (n : Nat) (hn : n ≤ 1000) (w : World) : Calls Tryz.prog 57 #[.int .u64 1, .int .u64 (n : Int)] w fun e w' => e = .returned (.tuple #[.int .u64 0, .int .u64 (n : Int)]) ∧ w' = w := by
  have h1 := mask_n n hn
  have h2 : (n : Int) / 4294967296 = 0 := by omega
  have h3 : IntKind.u64.wrap (n : Int) = (n : Int) := by rw [IntKind.wrap_u64]; omega
  have h4 : IntKind.u64.wrap (1 * (n : Int)) = (n : Int) := by rw [IntKind.wrap_u64]; omega
  have h5 : bits .and .u64 1 4294967295 = 1 := by decide
  have h6 : bits .and .u64 0 4294967295 = 0 := by decide
  have h7 : IntKind.u64.wrap 0 = 0 := by decide
  clear hn
  go_enter Tryz.func57, Tryz.ntmps57
  go_wp2
  go_ret2
  first | done | exact ⟨rfl, rfl⟩
set_option maxRecDepth 20000 in
theorem mul_one_any (n : Nat) (hn : n ≤ 1000) (w : World) : Calls Tryz.prog 38 #[.int .u64 1, .int .u64 (n : Int)] w fun e w' => e = .returned (.tuple #[.int .u64 0, .int .u64 (n : Int)]) ∧ w' = w := by
  have HM := Lib.hid (fun W => mul64_one n hn W)
  clear hn
  go_enter Tryz.func38, Tryz.ntmps38
  go_wp2_with (go_at_call 57; refine (HM.out _).mono ?_; rintro e w1 ⟨rfl, hw⟩; rw [hw])
  go_ret2
  exact ⟨rfl, rfl⟩
theorem made_false (n : Nat) : madeCells #[Value.bool false] n = Array.replicate n (.bool false) := by
  unfold madeCells
  apply Array.ext
  · simp
  · intro i h1 h2
    simp [Nat.mod_one]
theorem run_mkB (n : Nat) (hn : n ≤ 1024) (w : World) : (Instr.makeSlice 25 (.int .i64 (n : Int)) (.int .i64 (n : Int))).run Tryz.prog w = .ok (.slice (some ⟨w.heap.size, 0, none⟩) n n) (w.alloc (.cells (Array.replicate n (.bool false)) TB)) := by
  obtain ⟨i0, hi, hz0, hz1, hz2⟩ := info_parts info_bool1
  have h := run_makeSlice (P := Tryz.prog) (w := w) 25 TB i0 _ Tryz.underlying25 hi hz0 .i64 .i64 n n (by omega) (by omega) (by rw [hz1]; omega) (by rw [hz2]; omega) (by omega)
  rw [h, hz1, Int.toNat_natCast, Nat.mul_one, show (Value.bool false).cells = #[Value.bool false] from rfl, made_false]
theorem goInt_nat (m : Nat) : goInt m = .int .i64 (m : Int) := rfl
theorem rp_copy (W : World) (n m q g : Nat) (a : Addr) (dLen dCap sLen sCap : Nat) (hg : W.heap[g]? = some (.cells (trueL n m).toArray TB (0, 0))) (hmn : m + q ≤ n) (hq : Nat.min sLen dLen = q) (hs : ∀ j, j < q → W.cell? (a.add j) = some (.bool true)) :
    ∃ W1, (∀ ty, (Builtin.copy_ #[25, 25] ty #[.slice (some ⟨g, m, none⟩) dLen dCap, .slice (some a) sLen sCap]).run Tryz.prog W = .ok (.int .i64 (q : Int)) W1) ∧ W1.heap[g]? = some (.cells (trueL n (m + q)).toArray TB (0, 0)) ∧ (∀ B, B ≤ g → Below B W W1) := by
  obtain ⟨i0, hi, hz0, hz1, hz2⟩ := info_parts info_bool1
  have hr := fun ty => run_copy_rowK (P := Tryz.prog) (w := W) 25 25 ty TB i0 Tryz.underlying25 hi g m dLen dCap a sLen sCap q _ (List.replicate q (Value.bool true)) hg hq (by rw [hz1, List.length_replicate, Nat.mul_one])
    (by
      intro j u hu
      have hj := (List.getElem?_eq_some_iff.1 hu).1
      rw [List.length_replicate] at hj
      rw [List.getElem?_replicate, if_pos hj] at hu
      cases hu
      exact hs j hj) (by simp [trueL_len (show m ≤ n by omega)]; omega) (by intro u hu; rw [(List.mem_replicate.1 hu).2]; rfl)
  have hsz : (trueL n m).toArray.toList.take m ++ List.replicate q (Value.bool true) ++ (trueL n m).toArray.toList.drop (m + (List.replicate q (Value.bool true)).length) = trueL n (m + q) := by
    rw [List.length_replicate]; exact trueL_copy hmn
  refine ⟨_, fun ty => hr ty, ?_, fun B hB => below_setRow (Below.refl B W) hB _⟩
  rw [hsz]
  exact setRow_heap W g _ _ TB (0, 0) hg
structure RpSt (w : World) (n : Nat) (v : Value) (wr : World) : Prop where
  st : ∃ m : Nat, 1 ≤ m ∧ m ≤ n ∧ v = .int .i64 (m : Int) ∧ wr.heap[w.heap.size]? = some (.cells (trueL n m).toArray TB (0, 0)) ∧ Below w.heap.size w wr
set_option maxRecDepth 20000 in
set_option maxHeartbeats 2000000 in
theorem repeat_any (n : Nat) (h1 : 1 ≤ n) (hn : n ≤ 1000) (q cap : Nat) (w : World) (hq : w.cell? ⟨q, 0, none⟩ = some (.bool true)) :
    Calls Tryz.prog 17 #[.slice (some ⟨q, 0, none⟩) 1 cap, .int .i64 (n : Int)] w fun e w' => ∃ v, e = .returned v ∧ RowI w' v (boolsV (List.replicate n true)) ∧ Below w.heap.size w w' := by
  have hd0 : decide ((n : Int) < 0) = false := decide_eq_false (by omega)
  have hwu : IntKind.u64.wrap (n : Int) = (n : Int) := by rw [IntKind.wrap_u64]; omega
  have hwi : IntKind.i64.wrap (n : Int) = (n : Int) := IntWalk.i64_in _ (by omega)
  have hdm : decide (9223372036854775807 < (n : Int)) = false := decide_eq_false (by omega)
  have HMK := Lib.hid (fun W => run_mkB n (by omega) W)
  have HML := Lib.hid (fun W => mul_one_any n hn W)
  have hqb := World.block_lt_of_cell? w _ hq
  have hnew := World.alloc_heap_new w (.cells (Array.replicate n (.bool false)) TB)
  obtain ⟨W1, hr, hh, hb⟩ := rp_copy (w.alloc (.cells (Array.replicate n (.bool false)) TB)) n 0 1 w.heap.size ⟨q, 0, none⟩ n n 1 cap (by rw [hnew]; unfold trueL; simp) (by omega) (Nat.min_eq_left h1) (by
    intro j hj
    obtain rfl : j = 0 := by omega
    rw [Addr.add_mid]
    exact ((al_below w _).cell (p := ⟨q, 0, none⟩) hqb).trans hq)
  have HCP := Lib.hid hr
  have HST := Lib.hid (show RpSt w n (.int .i64 ((1 : Nat) : Int)) W1 from ⟨⟨1, Nat.le_refl _, h1, rfl, hh, (al_below w _).trans (hb _ (Nat.le_refl _))⟩⟩)
  have HN := Lib.hid (And.intro h1 hn)
  clear h1 hn hq hnew hr hh hb
  go_enter Tryz.func17, Tryz.ntmps17
  go_wp2_with first
    | (go_at_call 38; refine (HML.out _).mono ?_; rintro e w1 ⟨rfl, hw⟩; rw [hw])
    | (at_make; refine wpList_run rfl (exec_makeJ rfl rfl rfl (HMK.out _)) ?_)
  rw [HCP.out]
  simp only [Int.natCast_one]
  go_wp2
  go_loopw [8] (fun v wr => RpSt w n v wr) (fun v _ => n - (intOf v).toNat)
  case atStart => exact HST.out
  case round =>
    clear HST HCP
    obtain ⟨m, h1, hm, rfl, hh, hb⟩ := hrel.st
    clear hrel
    have HX := Lib.hid (And.intro h1 (And.intro hh hb))
    clear h1 hh hb
    by_cases hlt : m < n
    · have hltd : decide ((m : Int) < (n : Int)) = true := decide_eq_true (by omega)
      obtain ⟨g, hg⟩ : ∃ g, w.heap.size = g := ⟨_, rfl⟩
      obtain ⟨q2, hq2⟩ : ∃ q2, Nat.min m (n - m) = q2 := ⟨_, rfl⟩
      have hq3 : q2 ≤ m ∧ m + q2 ≤ n ∧ 1 ≤ q2 := by
        have h5 := HX.out.1
        have h6 : q2 = min m (n - m) := hq2.symm
        omega
      have HQ3 := Lib.hid hq3
      have hmn : n ≠ m := by omega
      have hcp := rp_copy wr.drew n m q2 w.heap.size ⟨w.heap.size, 0, none⟩ (n - m) (n - m) m n HX.out.2.1 hq3.2.1 hq2 (by
        intro j hj
        rw [Addr.add_mid, Nat.zero_add]
        have hh := HX.out.2.1
        unfold World.cell?
        rw [show wr.drew.heap[w.heap.size]? = _ from hh]
        show (trueL n m).toArray[j]? = _
        rw [List.getElem?_toArray]
        unfold trueL
        rw [List.getElem?_append_left (by rw [List.length_replicate]; omega), List.getElem?_replicate, if_pos (by omega)])
      obtain ⟨W2, hr, hh2, hb2⟩ := hcp
      have HR := Lib.hid hr
      have HN2 := Lib.hid (show RpSt w n (.int .i64 ((m + q2 : Nat) : Int)) W2 from ⟨⟨m + q2, by omega, hq3.2.1, rfl, hh2, (HX.out.2.2.drew).trans (hb2 _ (Nat.le_refl _))⟩⟩)
      have hwm : IntKind.i64.wrap ((m : Int) + (q2 : Int)) = ((m + q2 : Nat) : Int) := by rw [IntWalk.i64_in _ (by have := HN.out; omega)]; rfl
      clear hr hh2 hb2 hq2 hq3 hg
      go_upto_region 9 with (fail)
      refine reg_begin (fun _ => True) (by kernel_rfl) ?_
      (apply reg_take 0 rfl rfl (by decide +kernel) rfl); (intro w' h2; go_simp; rfl); exact trivial; simp only [List.setIfInBounds_toArray, List.set_cons_succ, List.set_cons_zero]
      (apply reg_take 1 rfl rfl (by decide +kernel) rfl); (intro w' h2; go_simp; rfl); exact trivial; simp only [List.setIfInBounds_toArray, List.set_cons_succ, List.set_cons_zero]
      (apply reg_take 2 rfl rfl (by decide +kernel) rfl); (intro w' h2; go_simp; rfl); exact trivial; simp only [List.setIfInBounds_toArray, List.set_cons_succ, List.set_cons_zero]
      refine reg_take 3 (v := .slice (some ⟨w.heap.size, m, none⟩) (n - m) (n - m)) rfl rfl (by decide +kernel) rfl (fun w' h => exec_sl_run rfl rfl (by have h5 := run_sl_lo (P := Tryz.prog) (T := 25) (e := TB) (k := 1) Tryz.underlying25 (by kernel_rfl) w.heap.size 0 n n m hm w'; rw [if_neg hmn, Nat.zero_add, Nat.mul_one] at h5; exact h5)) trivial ?_; simp only [List.setIfInBounds_toArray, List.set_cons_succ, List.set_cons_zero]
      (apply reg_take 4 rfl rfl (by decide +kernel) rfl); (intro w' h2; go_simp; rfl); exact trivial; simp only [List.setIfInBounds_toArray, List.set_cons_succ, List.set_cons_zero]
      (apply reg_take 5 rfl rfl (by decide +kernel) rfl); (intro w' h2; go_simp; rfl); exact trivial; simp only [List.setIfInBounds_toArray, List.set_cons_succ, List.set_cons_zero]
      refine reg_take 6 (v := .slice (some ⟨w.heap.size, 0, none⟩) m n) rfl rfl (by decide +kernel) rfl (fun w' h => exec_sl_run rfl rfl (run_sl_hi (P := Tryz.prog) (T := 25) (e := TB) (k := 1) Tryz.underlying25 (by kernel_rfl) w.heap.size 0 n n m hm w')) trivial ?_; simp only [List.setIfInBounds_toArray, List.set_cons_succ, List.set_cons_zero]
      refine reg_run 7 (.int .i64 (q2 : Int)) (W2) rfl rfl (by decide +kernel) rfl (exec_copy_row _ _ _ _ rfl rfl rfl (HR.out _)) (trivial) ?_; simp only [List.setIfInBounds_toArray, List.set_cons_succ, List.set_cons_zero]
      (apply reg_take 8 rfl rfl (by decide +kernel) rfl); (intro w' h2; go_simp; rfl); exact trivial; simp only [List.setIfInBounds_toArray, List.set_cons_succ, List.set_cons_zero]
      refine reg_run_last 9 (.int .i64 ((m + q2 : Nat) : Int)) (W2) rfl rfl (by decide +kernel) rfl (by go_simp) ?_; simp only [List.setIfInBounds_toArray, List.set_cons_succ, List.set_cons_zero]
      go_wp2
      go_roundw
      case rel => exact HN2.out
      case measure => simp only [intOf]; have := HQ3.out; omega
    · obtain rfl : m = n := by omega
      have hltd : decide ((m : Int) < (m : Int)) = false := decide_eq_false (by omega)
      go_wp2
      go_ret
      refine ⟨_, rfl, ?_, HX.out.2.2⟩
      refine ⟨some ⟨w.heap.size, 0, none⟩, m, by rw [boolsV_len, List.length_replicate]; rfl, by rw [boolsV_len, List.length_replicate]; exact Nat.le_refl _, by unfold maxLen; have := HN.out; omega, fun _ => ⟨w.heap.size, 0, rfl, (Array.getElem?_eq_some_iff.1 HX.out.2.1).1, fun j u hu => ?_⟩⟩
      unfold World.cell?
      rw [HX.out.2.1]
      show (trueL m m).toArray[0 + j]? = _
      rw [Nat.zero_add, List.getElem?_toArray]
      unfold boolsV at hu
      rw [List.map_replicate] at hu
      unfold trueL
      rw [Nat.sub_self, List.replicate_zero, List.append_nil]
      exact hu
end Go.Proofs.YtnilepaicnnbhaaGreatDoor
