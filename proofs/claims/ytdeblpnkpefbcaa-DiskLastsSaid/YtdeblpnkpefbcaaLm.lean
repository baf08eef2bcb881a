/- solventlaw16.mixed. -/
import Derived.Test.YtdeblpnkpefbcaaLp
namespace Go.Proofs.Ytdeblpnkpefbcaa
open Go.RowKit Go.Sl Go.ChangeMaps

theorem exec_str_to {P : Program} {o : Oper} {a : Act} {w : World} {T : TypeId} {x y : Operand} {s : ByteArray} {k : Nat} (ho : o.op = .slice T x none (some y) none) (hx : a.eval x = .string s) (hy : a.eval y = .int .i64 (k : Int)) (hT : P.underlying T = some .string) (hk : k ≤ s.size) :
    (execOp a.eval o).run P w = .ok (.value (.string (s.extract 0 k))) w := by
  unfold execOp
  simp [ho, hx, hy, Instr.sliceAt, Instr.slice, run_underlying hT, Instr.sliceBounds, Instr.sliceBound, asIntOf, hk]
theorem exec_str_from {P : Program} {o : Oper} {a : Act} {w : World} {T : TypeId} {x y : Operand} {s : ByteArray} {k : Nat} (ho : o.op = .slice T x (some y) none none) (hx : a.eval x = .string s) (hy : a.eval y = .int .i64 (k : Int)) (hT : P.underlying T = some .string) (hk : k ≤ s.size) :
    (execOp a.eval o).run P w = .ok (.value (.string (s.extract k s.size))) w := by
  unfold execOp
  simp [ho, hx, hy, Instr.sliceAt, Instr.slice, run_underlying hT, Instr.sliceBounds, Instr.sliceBound, asIntOf, hk]
theorem run_add_str {P : Program} {t : TypeId} (w : World) {x y : ByteArray} (h : x.size + y.size ≤ 1000) : (binOp .add t (.string x) (.string y)).run P w = .ok (.string (x ++ y)) w := by
  have : ¬ (((x.size + y.size : Nat) : Int) > IntKind.i64.max) := by
    show ¬ (((x.size + y.size : Nat) : Int) > 9223372036854775807)
    omega
  simp only [binOp, Op.stringOp]
  rw [if_neg this]; rfl
theorem run_eql_str {P : Program} {t : TypeId} (w : World) {x y : ByteArray} (b : Bool) (hb : b = decide (x = y)) : (binOp .eql t (.string x) (.string y)).run P w = .ok (.bool b) w := by
  have e : (x.toList == y.toList) = decide (x = y) := by
    by_cases h : x = y
    · subst h; simp
    · rw [decide_eq_false h]; simp; exact fun h' => h (bytes_eq h')
  simp [binOp, Op.stringOp, e, hb]

theorem strV_torn {f o : List UInt8} (ho : o.length = 64) (c : Nat) : strV (f.take c ++ o.drop c) = (strV f).extract 0 c ++ (strV o).extract c 64 := by
  apply ByteArray.ext
  rw [ByteArray.data_append, ByteArray.data_extract, ByteArray.data_extract]
  apply Array.ext'
  simp only [strV, Array.toList_append, Array.toList_extract, List.extract_eq_take_drop]
  simp only [Nat.sub_zero, List.drop_zero]
  rw [List.take_of_length_le (l := o.drop c) (by simp; omega)]

structure MixSt (w : World) (c : Nat) (i : Value) (wr : World) : Prop where
  st : ∃ k : Nat, k ≤ c ∧ i = .int .i64 k ∧ Below w.heap.size w wr

set_option maxHeartbeats 1000000 in
theorem mixed_any (S F O : ByteArray) (c : Nat) (w : World) (hF : F.size = 64) (hO : O.size = 64) (hc : c ≤ 64) (hs : S = F.extract 0 c ++ O.extract c 64) :
    Calls Try.prog 23 #[.string S, .string F, .string O] w fun e w' => e = .returned (.bool true) ∧ Hid (Below w.heap.size w w') := by
  have HS := Lib.hid hs
  have HF := Lib.hid hF
  have HOO := Lib.hid hO
  clear hs hF hO
  go_enter Try.func23, Try.ntmps23
  go_wp2
  go_loopw [7] (fun i wr => MixSt w c i wr) (fun i _ => c - (intOf i).toNat)
  case atStart => exact ⟨⟨0, Nat.zero_le _, rfl, Below.refl _ _⟩⟩
  case round =>
    obtain ⟨k, hk, rfl, hbw⟩ := hrel.st
    clear hrel
    have HB := Lib.hid hbw
    have hkd : decide ((k : Int) ≤ 64) = true := decide_eq_true (by omega)
    have hki : (k : Int) ≤ 64 := by omega
    clear hbw
    by_cases he : S = F.extract 0 k ++ O.extract k O.size
    · have HE := Lib.hid he
      clear he
      go_upto_region 4 with (fail)
      have hS0 : True := trivial
      refine reg_begin (fun w' => True) (by kernel_rfl) ?_
      (apply reg_take 0 rfl rfl (by decide +kernel) rfl); (intro w' hw'; go_simp; rfl); exact hS0; simp only [List.setIfInBounds_toArray, List.set_cons_succ, List.set_cons_zero]
      (apply reg_take 1 rfl rfl (by decide +kernel) rfl); (intro w' hw'; go_simp; rfl); exact hS0; simp only [List.setIfInBounds_toArray, List.set_cons_succ, List.set_cons_zero]
      (apply reg_take 2 rfl rfl (by decide +kernel) rfl); (intro w' hw'; go_simp; rfl); exact hS0; simp only [List.setIfInBounds_toArray, List.set_cons_succ, List.set_cons_zero]
      refine reg_take 3 (v := .string (F.extract 0 k)) rfl rfl (by decide +kernel) rfl (fun _ _ => exec_str_to rfl rfl rfl Try.underlying9 (by rw [HF.out]; omega)) hS0 ?_; simp only [List.setIfInBounds_toArray, List.set_cons_succ, List.set_cons_zero]
      (apply reg_take 4 rfl rfl (by decide +kernel) rfl); (intro w' hw'; go_simp; rfl); exact hS0; simp only [List.setIfInBounds_toArray, List.set_cons_succ, List.set_cons_zero]
      (apply reg_take 5 rfl rfl (by decide +kernel) rfl); (intro w' hw'; go_simp; rfl); exact hS0; simp only [List.setIfInBounds_toArray, List.set_cons_succ, List.set_cons_zero]
      refine reg_take 6 (v := .string (O.extract k O.size)) rfl rfl (by decide +kernel) rfl (fun _ _ => exec_str_from rfl rfl rfl Try.underlying9 (by rw [HOO.out]; omega)) hS0 ?_; simp only [List.setIfInBounds_toArray, List.set_cons_succ, List.set_cons_zero]
      refine reg_take 7 (v := .string (F.extract 0 k ++ O.extract k O.size)) rfl rfl (by decide +kernel) rfl (fun w' _ => exec_binop rfl rfl rfl rfl (run_add_str w' (by rw [ByteArray.size_extract, ByteArray.size_extract, HF.out, HOO.out]; omega))) hS0 ?_; simp only [List.setIfInBounds_toArray, List.set_cons_succ, List.set_cons_zero]
      refine reg_take 8 (v := .bool true) rfl rfl (by decide +kernel) rfl (fun w' _ => exec_binop rfl rfl rfl rfl (run_eql_str w' true (by rw [decide_eq_true HE.out]))) hS0 ?_; simp only [List.setIfInBounds_toArray, List.set_cons_succ, List.set_cons_zero]
      refine reg_done (by decide +kernel) ?_
      go_wp2
      go_ret
      exact ⟨rfl, HB.out.drew⟩
    · have hkc : k < c := by
        rcases Nat.lt_or_ge k c with h | h
        · exact h
        · exfalso; apply he; obtain rfl : k = c := by omega
          rw [HS.out, HOO.out]
      have HE := Lib.hid he
      clear he
      go_upto_region 4 with (fail)
      have hS0 : True := trivial
      refine reg_begin (fun w' => True) (by kernel_rfl) ?_
      (apply reg_take 0 rfl rfl (by decide +kernel) rfl); (intro w' hw'; go_simp; rfl); exact hS0; simp only [List.setIfInBounds_toArray, List.set_cons_succ, List.set_cons_zero]
      (apply reg_take 1 rfl rfl (by decide +kernel) rfl); (intro w' hw'; go_simp; rfl); exact hS0; simp only [List.setIfInBounds_toArray, List.set_cons_succ, List.set_cons_zero]
      (apply reg_take 2 rfl rfl (by decide +kernel) rfl); (intro w' hw'; go_simp; rfl); exact hS0; simp only [List.setIfInBounds_toArray, List.set_cons_succ, List.set_cons_zero]
      refine reg_take 3 (v := .string (F.extract 0 k)) rfl rfl (by decide +kernel) rfl (fun _ _ => exec_str_to rfl rfl rfl Try.underlying9 (by rw [HF.out]; omega)) hS0 ?_; simp only [List.setIfInBounds_toArray, List.set_cons_succ, List.set_cons_zero]
      (apply reg_take 4 rfl rfl (by decide +kernel) rfl); (intro w' hw'; go_simp; rfl); exact hS0; simp only [List.setIfInBounds_toArray, List.set_cons_succ, List.set_cons_zero]
      (apply reg_take 5 rfl rfl (by decide +kernel) rfl); (intro w' hw'; go_simp; rfl); exact hS0; simp only [List.setIfInBounds_toArray, List.set_cons_succ, List.set_cons_zero]
      refine reg_take 6 (v := .string (O.extract k O.size)) rfl rfl (by decide +kernel) rfl (fun _ _ => exec_str_from rfl rfl rfl Try.underlying9 (by rw [HOO.out]; omega)) hS0 ?_; simp only [List.setIfInBounds_toArray, List.set_cons_succ, List.set_cons_zero]
      refine reg_take 7 (v := .string (F.extract 0 k ++ O.extract k O.size)) rfl rfl (by decide +kernel) rfl (fun w' _ => exec_binop rfl rfl rfl rfl (run_add_str w' (by rw [ByteArray.size_extract, ByteArray.size_extract, HF.out, HOO.out]; omega))) hS0 ?_; simp only [List.setIfInBounds_toArray, List.set_cons_succ, List.set_cons_zero]
      refine reg_take 8 (v := .bool false) rfl rfl (by decide +kernel) rfl (fun w' _ => exec_binop rfl rfl rfl rfl (run_eql_str w' false (by rw [decide_eq_false HE.out]))) hS0 ?_; simp only [List.setIfInBounds_toArray, List.set_cons_succ, List.set_cons_zero]
      refine reg_done (by decide +kernel) ?_
      go_wp2
      go_roundw
      case rel => exact ⟨⟨k + 1, hkc, rfl, HB.out.drew⟩⟩
      case measure => simp only [intOf]; omega

end Go.Proofs.Ytdeblpnkpefbcaa
