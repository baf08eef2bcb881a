/- sector.Label, Open. -/
import Derived.Test.YtbegomjbakidmaaGc
import Derived.Test.YtbegomjbakidmaaRs
namespace Go.Proofs.Ytbegomjbakidmaa
open Go.RowKit Go.Sl Go.ChangeMaps

theorem star_left_comm (A B C : HProp) : A * (B * C) = B * (A * C) := by ac_rfl
def zPl : Array Value := #[.int .i64 0, .int .i64 0, .int .i64 0]
def zGen : Array Value := #[.int .i64 0, .int .i64 0]
theorem zeroPl (w : World) : (zeroValue TPl).run Try.prog w = .ok (.agg zPl) w := by kernel_rfl
theorem zeroGen (w : World) : (zeroValue TGen).run Try.prog w = .ok (.agg zGen) w := by kernel_rfl
theorem infoPl {c : Array Value} (h : c.size = 3) : (Try.prog.info? TPl).map (·.size) = some c.size := by rw [h]; kernel_rfl
theorem infoGen {c : Array Value} (h : c.size = 2) : (Try.prog.info? TGen).map (·.size) = some c.size := by rw [h]; kernel_rfl
theorem zPl_info : (Try.prog.info? TPl).map (·.size) = some zPl.size := infoPl rfl
theorem zPl_one : ∀ v ∈ zPl.toList, v.oneCell' = true := by simp [zPl, Value.oneCell']
theorem zGen_info : (Try.prog.info? TGen).map (·.size) = some zGen.size := infoGen rfl
theorem zGen_one : ∀ v ∈ zGen.toList, v.oneCell' = true := by simp [zGen, Value.oneCell']
theorem bad_cells {w : World} {B : Nat} {X : HProp} (h : Sat w (pts B (.cells zPl TPl (0, 0)) * (pts (B + 1) (.cells zGen TGen (0, 0)) * X))) :
    (w.cell? ⟨B, 0, none⟩ = some (.int .i64 0) ∧ w.cell? ⟨B, 1, none⟩ = some (.int .i64 0) ∧ w.cell? ⟨B, 2, none⟩ = some (.int .i64 0) ∧ w.cell? ⟨B + 1, 0, none⟩ = some (.int .i64 0) ∧ w.cell? ⟨B + 1, 1, none⟩ = some (.int .i64 0)) ∧
    (w.frozen? ⟨B, 0, none⟩ = false ∧ w.frozen? ⟨B, 1, none⟩ = false ∧ w.frozen? ⟨B, 2, none⟩ = false ∧ w.frozen? ⟨B + 1, 0, none⟩ = false ∧ w.frozen? ⟨B + 1, 1, none⟩ = false) := by
  have h1 := cells_at h.block
  have h2 := cells_at h.right.block
  have f1 := thawed_at h.block
  have f2 := thawed_at h.right.block
  exact ⟨⟨h1 0, h1 1, h1 2, h2 0, h2 1⟩, f1 0, f1 1, f1 2, f2 0, f2 1⟩
theorem bad_store {w w0 : World} {B : Nat} {X : HProp} (hm : Same w0 w) (h : Sat w (pts B (.cells zPl TPl (0, 0)) * (pts (B + 1) (.cells zGen TGen (0, 0)) * X))) :
    Same w0 (((((w.setCell ⟨B, 0, none⟩ (.int .i64 0)).setCell ⟨B, 1, none⟩ (.int .i64 0)).setCell ⟨B, 2, none⟩ (.int .i64 0)).setCell ⟨B + 1, 0, none⟩ (.int .i64 0)).setCell ⟨B + 1, 1, none⟩ (.int .i64 0)) ∧
    Sat (((((w.setCell ⟨B, 0, none⟩ (.int .i64 0)).setCell ⟨B, 1, none⟩ (.int .i64 0)).setCell ⟨B, 2, none⟩ (.int .i64 0)).setCell ⟨B + 1, 0, none⟩ (.int .i64 0)).setCell ⟨B + 1, 1, none⟩ (.int .i64 0)) (pts B (.cells zPl TPl (0, 0)) * (pts (B + 1) (.cells zGen TGen (0, 0)) * X)) := by
  refine ⟨((((hm.setCell _ _).setCell _ _).setCell _ _).setCell _ _).setCell _ _, ?_⟩
  have h3 := ((h.setCell (i := 0) (.int .i64 0)).setCell (i := 1) (.int .i64 0)).setCell (i := 2) (.int .i64 0)
  have h5 := ((h3.perm (star_left_comm _ _ _)).setCell (i := 0) (.int .i64 0)).setCell (i := 1) (.int .i64 0)
  exact h5.perm (star_left_comm _ _ _)
theorem strB_sub (s : List UInt8) (i j : Nat) : (strB s).extract i j = strB (subL s i j) := by
  apply ByteArray.ext
  simp [strB, subL, ByteArray.data_extract, List.extract]
section
variable {o : Oper} {a : Act} {w : World}
theorem exec_str_index {T : TypeId} {x y : Operand} {s : List UInt8} {i : Nat} (ho : o.op = .index T x y) (hT : Try.prog.underlying T = some .string) (hx : a.eval x = .string (strB s)) (hy : a.eval y = .int .i64 (i : Int)) (h : i < s.length) :
    (execOp a.eval o).run Try.prog w = .ok (.value (.int .u8 ((s.getD i 0).toNat : Int))) w := by
  have hs := strB_size s
  have e : (Instr.index T (.string (strB s)) (.int .i64 (i : Int))).run Try.prog w = .ok (.int .u8 ((s.getD i 0).toNat : Int)) w := by
    rw [run_index_string _ _ _ _ _ hT]
    rw [dif_pos ⟨by omega, by omega⟩]
    have e2 : ∀ h' : (i : Int).toNat < (strB s).size, (strB s)[(i : Int).toNat]'h' = s.getD i 0 := fun h' => by
      rw [List.getD_eq_getElem?_getD, List.getElem?_eq_getElem h]
      rfl
    rw [e2]
  unfold execOp
  simp [ho, hx, hy, e]
theorem exec_str_slice {T : TypeId} {x y z : Operand} {s : List UInt8} {i j : Nat} (ho : o.op = .slice T x (some y) (some z) none) (hT : Try.prog.underlying T = some .string) (hx : a.eval x = .string (strB s)) (hy : a.eval y = .int .i64 (i : Int)) (hz : a.eval z = .int .i64 (j : Int)) (h : i ≤ j) (h2 : j ≤ s.length) :
    (execOp a.eval o).run Try.prog w = .ok (.value (.string (strB (subL s i j)))) w := by
  have hs := strB_size s
  have e : (Instr.sliceAt T (.string (strB s)) (some (.int .i64 (i : Int))) (some (.int .i64 (j : Int))) none).run Try.prog w = .ok (.string (strB (subL s i j))) w := by
    rw [run_sliceAt_string _ _ _ _ _ _ hT, run_slice_string_if _ _ _ _ _ _ _ hT, if_pos (by omega), if_pos (by omega), ← strB_sub]
    rfl
  unfold execOp
  simp [ho, hx, hy, hz, e]
theorem exec_str_from {T : TypeId} {x y : Operand} {s : List UInt8} {i : Nat} (ho : o.op = .slice T x (some y) none none) (hT : Try.prog.underlying T = some .string) (hx : a.eval x = .string (strB s)) (hy : a.eval y = .int .i64 (i : Int)) (h : i ≤ s.length) :
    (execOp a.eval o).run Try.prog w = .ok (.value (.string (strB (s.drop i)))) w := by
  have hs := strB_size s
  have e : (Instr.sliceAt T (.string (strB s)) (some (.int .i64 (i : Int))) none none).run Try.prog w = .ok (.string (strB (s.drop i))) w := by
    rw [run_sliceAt_string _ _ _ _ _ _ hT, run_slice_string_l _ _ _ hT _ _ (by omega) (by omega), strB_sub, hs]
    have e2 : subL s (i : Int).toNat s.length = s.drop i := by
      unfold subL
      rw [List.take_of_length_le (by rw [List.length_drop]; omega)]
      rfl
    rw [e2]
  unfold execOp
  simp [ho, hx, hy, e]
theorem exec_str_to {T : TypeId} {x z : Operand} {s : List UInt8} {j : Nat} (ho : o.op = .slice T x none (some z) none) (hT : Try.prog.underlying T = some .string) (hx : a.eval x = .string (strB s)) (hz : a.eval z = .int .i64 (j : Int)) (h2 : j ≤ s.length) :
    (execOp a.eval o).run Try.prog w = .ok (.value (.string (strB (s.take j)))) w := by
  have hs := strB_size s
  have e : (Instr.sliceAt T (.string (strB s)) none (some (.int .i64 (j : Int))) none).run Try.prog w = .ok (.string (strB (s.take j))) w := by
    rw [run_sliceAt_string _ _ _ _ _ _ hT, run_slice_string_h _ _ _ hT _ _ (by omega) (by omega), strB_sub]
    simp [subL]
  unfold execOp
  simp [ho, hx, hz, e]
theorem strB_inj {s t : List UInt8} : strB s = strB t ↔ s = t := by simp [strB]
theorem exec_str_neq {T t2 : TypeId} {x y : Operand} {s t : List UInt8} (ho : o.op = .binOp .neq T x y t2) (hx : a.eval x = .string (strB s)) (hy : a.eval y = .string (strB t)) (hg : eqGuard .neq T x y (.string (strB s)) (.string (strB t)) = pure ()) :
    (execOp a.eval o).run Try.prog w = .ok (.value (.bool (!decide (s = t)))) w := by
  refine exec_binop ho hx hy hg ?_
  rw [binOp_string_neq, Lib.toList_data, Lib.toList_data]
  show Result.ok (Value.bool (!(s.toArray.toList == t.toArray.toList))) w = _
  rw [show (s.toArray.toList == t.toArray.toList) = decide (s = t) by rw [Bool.eq_iff_iff]; simp]
end
/-- '[]byte(s)'. -/
theorem str_bytes (s : List UInt8) (W : World) : ∃ (c : Array Value) (fr : Nat × Nat) (cap : Nat), (convert 9 95 (.string (strB s))).run Try.prog W = .ok (.slice (some ⟨W.heap.size, 0, none⟩) s.length cap) (W.drew.alloc (.cells c TByte fr)) ∧ ∀ (j : Nat) (u : Value), (secL s)[j]? = some u → c[j]? = some u := by
  have h := run_bytes_of_string (P := Try.prog) W 9 95 5 (strB s) Try.underlying9 Try.underlying95 Try.underlying5
  rw [strB_size] at h
  refine ⟨_, _, _, h, ?_⟩
  intro j u hu
  have hj : j < s.length := by have := (List.getElem?_eq_some_iff.1 hu).1; simpa [secL] using this
  simp only [secL, List.getElem?_map] at hu
  have hu' : (s.map fun b => Value.int .u8 b.toNat)[j]? = some u := by simpa [byteV] using hu
  unfold bytesRow
  rw [Array.getElem?_append_left (by simpa [strB] using hj)]
  simpa [strB] using hu'
theorem lab_cells {w : World} {D C : Nat} {p q r g h : Int} {X : HProp} (hs : Sat w (pts D (.cells #[.int .i64 g, .int .i64 h] TGen (0, 0)) * (pts C (.cells #[.int .i64 p, .int .i64 q, .int .i64 r] TPl (0, 0)) * X))) :
    w.cell? ⟨C, 0, none⟩ = some (.int .i64 p) ∧ w.cell? ⟨C, 1, none⟩ = some (.int .i64 q) ∧ w.cell? ⟨C, 2, none⟩ = some (.int .i64 r) ∧ w.cell? ⟨D, 0, none⟩ = some (.int .i64 g) ∧ w.cell? ⟨D, 1, none⟩ = some (.int .i64 h) := by
  have h1 := cells_at hs.block
  have h2 := cells_at hs.right.block
  exact ⟨h2 0, h2 1, h2 2, h1 0, h1 1⟩
def labP (s : List UInt8) : PlaceM := if labelOK s then placeAt s else ⟨0, 0, 0⟩
def labG (s : List UInt8) : GenM := if labelOK s then genAt s 8 else g0
def labE (s : List UInt8) : Int := if labelOK s then 0 else 7

set_option maxHeartbeats 1000000 in
set_option maxRecDepth 20000 in
theorem label_any (s : List UInt8) (hs : s.length = 64) (F : HProp) (w : World) (hF : Sat w F) :
    Calls Try.prog 69 #[.string (strB s)] w fun e w' => e = .returned (.tuple #[.agg (plA (labP s)), .agg (genA (labG s)), .int .i64 (labE s)]) ∧ Hid (Same w w' ∧ Sat w' F) := by
  have hsz : (strB s).size = 64 := by rw [strB_size, hs]
  have H1 := Lib.hid (And.intro (((Same.refl w).alloc (.cells zPl TPl)).alloc (.cells zGen TGen)) (((hF.alloc (.cells zPl TPl)).alloc (.cells zGen TGen)).perm (show _ = pts w.heap.size (.cells zPl TPl (0, 0)) * (pts (w.alloc (.cells zPl TPl)).heap.size (.cells zGen TGen (0, 0)) * F) from by ac_rfl)))
  rw [World.size_alloc] at H1
  have HS := Lib.hid hs
  clear hF hs
  go_enter Try.func69, Try.ntmps69
  go_upto_region 3 with (first
    | ((with_reducible (refine wpList_alloc_zero ?_ TPl ?_ _ (zeroPl _) ?_)); rfl; rfl)
    | ((with_reducible (refine wpList_alloc_zero ?_ TGen ?_ _ (zeroGen _) ?_)); rfl; rfl))
  generalize (w.alloc (.cells zPl TPl)).alloc (.cells zGen TGen) = w1 at H1 ⊢
  generalize w.heap.size = B at H1 ⊢
  refine reg_begin (fun _ => True) (by kernel_rfl) ?_
  obtain ⟨c4, hc4⟩ : ∃ c, s.getD 4 0 = c := ⟨_, rfl⟩
  obtain ⟨c5, hc5⟩ : ∃ c, s.getD 5 0 = c := ⟨_, rfl⟩
  have HA := Lib.hid (show placeAt s = ⟨(c5.toNat : Int), (c4.toNat : Int), (getM (subL s 6 8) : Int)⟩ by rw [← hc4, ← hc5]; rfl)
  have HG := Lib.hid (show genAt s 8 = ⟨(getM (subL s 8 12) : Int), (getM (subL s 12 16) : Int)⟩ from rfl)
  have X4 := Lib.hid hc4
  have X5 := Lib.hid hc5
  have k4 : IntKind.i64.wrap (c4.toNat : Int) = (c4.toNat : Int) := IntWalk.i64_in _ (by have := c4.toNat_lt; omega)
  have k5 : IntKind.i64.wrap (c5.toNat : Int) = (c5.toNat : Int) := IntWalk.i64_in _ (by have := c5.toNat_lt; omega)
  clear hc4 hc5
  (apply reg_take 0 rfl rfl (by decide +kernel) rfl); (intro w' _; go_simp; rfl); exact trivial; simp only [List.setIfInBounds_toArray, List.set_cons_succ, List.set_cons_zero]
  refine reg_take 1 (v := .int .u8 (c4.toNat : Int)) rfl rfl (by decide +kernel) rfl (fun w' _ => by rw [← X4.out]; exact exec_str_index (i := 4) rfl Try.underlying9 rfl rfl (by rw [HS.out]; decide)) trivial ?_; simp only [List.setIfInBounds_toArray, List.set_cons_succ, List.set_cons_zero]
  (apply reg_take 2 rfl rfl (by decide +kernel) rfl); (intro w' _; go_simp; rfl); exact trivial; simp only [List.setIfInBounds_toArray, List.set_cons_succ, List.set_cons_zero]
  (apply reg_take 3 rfl rfl (by decide +kernel) rfl); (intro w' _; go_simp; rfl); exact trivial; simp only [List.setIfInBounds_toArray, List.set_cons_succ, List.set_cons_zero]
  refine reg_take 4 (v := .int .u8 (c5.toNat : Int)) rfl rfl (by decide +kernel) rfl (fun w' _ => by rw [← X5.out]; exact exec_str_index (i := 5) rfl Try.underlying9 rfl rfl (by rw [HS.out]; decide)) trivial ?_; simp only [List.setIfInBounds_toArray, List.set_cons_succ, List.set_cons_zero]
  (apply reg_take 5 rfl rfl (by decide +kernel) rfl); (intro w' _; go_simp; rfl); exact trivial; simp only [List.setIfInBounds_toArray, List.set_cons_succ, List.set_cons_zero]
  (apply reg_take 6 rfl rfl (by decide +kernel) rfl); (intro w' _; go_simp; rfl); exact trivial; simp only [List.setIfInBounds_toArray, List.set_cons_succ, List.set_cons_zero]
  refine reg_take 7 (v := .string (strB (subL s 6 8))) rfl rfl (by decide +kernel) rfl (fun w' _ => exec_str_slice (i := 6) (j := 8) rfl Try.underlying9 rfl rfl rfl (by decide) (by rw [HS.out]; decide)) trivial ?_; simp only [List.setIfInBounds_toArray, List.set_cons_succ, List.set_cons_zero]
  refine reg_takeq 8 (f := 79) (args := #[.string (strB (subL s 6 8))]) (v := .int .i64 (getM (subL s 6 8) : Int)) rfl rfl (by decide +kernel) rfl (fun w' => by kernel_rfl) (fun w' _ => get_any _ (by simp [subL]; omega) w') trivial ?_
  simp only [List.setIfInBounds_toArray, List.set_cons_succ, List.set_cons_zero]
  (apply reg_take 9 rfl rfl (by decide +kernel) rfl); (intro w' _; go_simp; rfl); exact trivial; simp only [List.setIfInBounds_toArray, List.set_cons_succ, List.set_cons_zero]
  refine reg_run 10 (.pointer (some ⟨w1.heap.size, 0, none⟩)) (w1.drew.alloc (.cells zPl TPl)) rfl rfl (by decide +kernel) rfl (exec_alloc_zero rfl _ (zeroPl _)) (trivial) ?_; simp only [List.setIfInBounds_toArray, List.set_cons_succ, List.set_cons_zero]
  have hn : ∀ A G : Int, True := fun _ _ => trivial
  refine reg_do_last 11 (w1.drew.alloc (.cells #[.int .i64 (c5.toNat : Int), .int .i64 (c4.toNat : Int), .int .i64 (getM (subL s 6 8) : Int)] TPl)) rfl rfl (by decide +kernel) rfl (exec_store_fresh rfl TPl _ _ rfl rfl (infoPl rfl) rfl (by simp [Value.oneCell'])) ?_
  replace H1 := Lib.hid (And.intro (H1.out.1.drew.alloc (.cells #[.int .i64 (c5.toNat : Int), .int .i64 (c4.toNat : Int), .int .i64 (getM (subL s 6 8) : Int)] TPl)) (H1.out.2.drew.alloc (.cells #[.int .i64 (c5.toNat : Int), .int .i64 (c4.toNat : Int), .int .i64 (getM (subL s 6 8) : Int)] TPl)))
  generalize w1.drew.alloc (.cells #[.int .i64 (c5.toNat : Int), .int .i64 (c4.toNat : Int), .int .i64 (getM (subL s 6 8) : Int)] TPl) = w2 at H1 ⊢
  rw [show w1.drew.heap.size = w1.heap.size from rfl] at H1
  generalize w1.heap.size = C at H1 ⊢
  go_upto_region 4 with (fail)
  clear k4 k5 hn
  refine reg_begin (fun _ => True) (by kernel_rfl) ?_
  (apply reg_take 0 rfl rfl (by decide +kernel) rfl); (intro w' _; go_simp; rfl); exact trivial; simp only [List.setIfInBounds_toArray, List.set_cons_succ, List.set_cons_zero]
  refine reg_take 1 (v := .string (strB (subL s 8 12))) rfl rfl (by decide +kernel) rfl (fun w' _ => exec_str_slice (i := 8) (j := 12) rfl Try.underlying9 rfl rfl rfl (by decide) (by rw [HS.out]; decide)) trivial ?_; simp only [List.setIfInBounds_toArray, List.set_cons_succ, List.set_cons_zero]
  refine reg_takeq 2 (f := 79) (args := #[.string (strB (subL s 8 12))]) (v := .int .i64 (getM (subL s 8 12) : Int)) rfl rfl (by decide +kernel) rfl (fun w' => by kernel_rfl) (fun w' _ => get_any _ (by simp [subL]; omega) w') trivial ?_
  simp only [List.setIfInBounds_toArray, List.set_cons_succ, List.set_cons_zero]
  (apply reg_take 3 rfl rfl (by decide +kernel) rfl); (intro w' _; go_simp; rfl); exact trivial; simp only [List.setIfInBounds_toArray, List.set_cons_succ, List.set_cons_zero]
  refine reg_take 4 (v := .string (strB (subL s 12 16))) rfl rfl (by decide +kernel) rfl (fun w' _ => exec_str_slice (i := 12) (j := 16) rfl Try.underlying9 rfl rfl rfl (by decide) (by rw [HS.out]; decide)) trivial ?_; simp only [List.setIfInBounds_toArray, List.set_cons_succ, List.set_cons_zero]
  refine reg_takeq 5 (f := 79) (args := #[.string (strB (subL s 12 16))]) (v := .int .i64 (getM (subL s 12 16) : Int)) rfl rfl (by decide +kernel) rfl (fun w' => by kernel_rfl) (fun w' _ => get_any _ (by simp [subL]; omega) w') trivial ?_
  simp only [List.setIfInBounds_toArray, List.set_cons_succ, List.set_cons_zero]
  (apply reg_take 6 rfl rfl (by decide +kernel) rfl); (intro w' _; go_simp; rfl); exact trivial; simp only [List.setIfInBounds_toArray, List.set_cons_succ, List.set_cons_zero]
  refine reg_run 7 (.pointer (some ⟨w2.heap.size, 0, none⟩)) (w2.drew.alloc (.cells zGen TGen)) rfl rfl (by decide +kernel) rfl (exec_alloc_zero rfl _ (zeroGen _)) (trivial) ?_; simp only [List.setIfInBounds_toArray, List.set_cons_succ, List.set_cons_zero]
  refine reg_do_last 8 (w2.drew.alloc (.cells #[.int .i64 (getM (subL s 8 12) : Int), .int .i64 (getM (subL s 12 16) : Int)] TGen)) rfl rfl (by decide +kernel) rfl (exec_store_fresh rfl TGen _ _ rfl rfl (infoGen rfl) rfl (by simp [Value.oneCell'])) ?_
  replace H1 := Lib.hid (And.intro (H1.out.1.drew.alloc (.cells #[.int .i64 (getM (subL s 8 12) : Int), .int .i64 (getM (subL s 12 16) : Int)] TGen)) (H1.out.2.drew.alloc (.cells #[.int .i64 (getM (subL s 8 12) : Int), .int .i64 (getM (subL s 12 16) : Int)] TGen)))
  generalize w2.drew.alloc (.cells #[.int .i64 (getM (subL s 8 12) : Int), .int .i64 (getM (subL s 12 16) : Int)] TGen) = w3 at H1 ⊢
  rw [show w2.drew.heap.size = w2.heap.size from rfl] at H1
  generalize w2.heap.size = D at H1 ⊢
  go_upto_region 5 with (fail)
  refine reg_begin (fun _ => True) (by kernel_rfl) ?_
  (apply reg_take 0 rfl rfl (by decide +kernel) rfl); (intro w' _; go_simp; rfl); exact trivial; simp only [List.setIfInBounds_toArray, List.set_cons_succ, List.set_cons_zero]
  refine reg_take 1 (v := .string (strB (subL s 8 16))) rfl rfl (by decide +kernel) rfl (fun w' _ => exec_str_slice (i := 8) (j := 16) rfl Try.underlying9 rfl rfl rfl (by decide) (by rw [HS.out]; decide)) trivial ?_; simp only [List.setIfInBounds_toArray, List.set_cons_succ, List.set_cons_zero]
  (apply reg_take 2 rfl rfl (by decide +kernel) rfl); (intro w' _; go_simp; rfl); exact trivial; simp only [List.setIfInBounds_toArray, List.set_cons_succ, List.set_cons_zero]
  refine reg_take 3 (v := .string (strB (s.drop 56))) rfl rfl (by decide +kernel) rfl (fun w' _ => exec_str_from (i := 56) rfl Try.underlying9 rfl rfl (by rw [HS.out]; decide)) trivial ?_; simp only [List.setIfInBounds_toArray, List.set_cons_succ, List.set_cons_zero]
  refine reg_take 4 (v := .bool (!decide (subL s 8 16 = s.drop 56))) rfl rfl (by decide +kernel) rfl (fun w' _ => exec_str_neq rfl rfl rfl rfl) trivial ?_; simp only [List.setIfInBounds_toArray, List.set_cons_succ, List.set_cons_zero]
  (apply reg_take 5 rfl rfl (by decide +kernel) rfl); (intro w' _; go_simp; rfl); exact trivial; simp only [List.setIfInBounds_toArray, List.set_cons_succ, List.set_cons_zero]
  refine reg_done (by decide +kernel) ?_
  replace H1 := Lib.hid (And.intro H1.out.1.drew H1.out.2.drew)
  go_upto_region 6 with (fail)
  generalize w3.drew = w4 at H1 ⊢
  obtain ⟨row, fr, cap, hrun, hrow⟩ := str_bytes (s.drop 4) w4.drew
  have hSr := H1.out.2.drew.drew.alloc (.cells row TByte fr)
  obtain ⟨g, hg⟩ : ∃ g, w4.drew.heap.size = g := ⟨_, rfl⟩
  rw [show w4.drew.drew.heap.size = g from hg] at hSr
  rw [hg] at hrun
  have hof : ∀ (W : World) (X : HProp), Sat W (pts g (.cells row TByte fr) * X) → Calls Try.prog 58 #[.slice (some ⟨g, 0, none⟩) (s.drop 4).length cap] W fun e w' => e = .returned (u32V (crcM (s.drop 4))) ∧ Hid (Same W w' ∧ Sat w' (pts g (.cells row TByte fr) * X)) := fun W X h =>
    of_any (.slice (some ⟨g, 0, none⟩) (s.drop 4).length cap) (s.drop 4) _ W h (fun W' h' => ⟨_, _, rfl, fun _ => ⟨g, 0, rfl, fun j x hx => by
      rw [Nat.zero_add, cells_at h'.block]
      exact hrow j _ (by rw [secL, List.getElem?_map, hx]; rfl)⟩⟩) (by rw [List.length_drop, HS.out]; decide)
  have hlab : labelOK s = (decide (getM (subL s 0 4) = (crcM (s.drop 4)).toNat) && placeOK (placeAt s) && genOK (genAt s 8) && decide (subL s 8 16 = s.drop 56)) := rfl
  rw [HA.out, HG.out] at hlab
  generalize decide (subL s 8 16 = s.drop 56) = b4 at hlab ⊢
  have hcl := (crcM (s.drop 4)).toNat_lt
  have hgl := getM_lt (subL s 0 4)
  unfold u32V at hof
  generalize (crcM (s.drop 4)).toNat = c at hof hlab hcl
  have HOF := Lib.hid hof
  have HRUN := Lib.hid hrun
  have HSR := Lib.hid hSr
  have kc : IntKind.i64.wrap (c : Int) = (c : Int) := IntWalk.i64_in _ (by omega)
  have HL4 := Lib.hid (show getM (subL s 0 4) = getM (s.take 4) by simp [subL])
  have hS0 := lab_cells H1.out.2.drew
  have hS5 := lab_cells HSR.out.right
  have hva := fun W => valid_any ⟨(c5.toNat : Int), (c4.toNat : Int), (getM (subL s 6 8) : Int)⟩ W
  have hvg := fun W => validGen_any ⟨(getM (subL s 8 12) : Int), (getM (subL s 12 16) : Int)⟩ W
  clear hSr hrun hof hrow hg hgl hcl hsz
  refine reg_begin (fun w' => w'.cell? ⟨C, 0, none⟩ = some (.int .i64 (c5.toNat : Int)) ∧ w'.cell? ⟨C, 1, none⟩ = some (.int .i64 (c4.toNat : Int)) ∧ w'.cell? ⟨C, 2, none⟩ = some (.int .i64 (getM (subL s 6 8) : Int)) ∧ w'.cell? ⟨D, 0, none⟩ = some (.int .i64 (getM (subL s 8 12) : Int)) ∧ w'.cell? ⟨D, 1, none⟩ = some (.int .i64 (getM (subL s 12 16) : Int))) (by kernel_rfl) ?_
  (apply reg_take 0 rfl rfl (by decide +kernel) rfl); (intro w' _; go_simp; rfl); exact hS0; simp only [List.setIfInBounds_toArray, List.set_cons_succ, List.set_cons_zero]
  refine reg_take 1 (v := .string (strB (s.take 4))) rfl rfl (by decide +kernel) rfl (fun w' _ => exec_str_to (j := 4) rfl Try.underlying9 rfl rfl (by rw [HS.out]; decide)) hS0 ?_; simp only [List.setIfInBounds_toArray, List.set_cons_succ, List.set_cons_zero]
  refine reg_takeq 2 (f := 79) (args := #[.string (strB (s.take 4))]) (v := .int .i64 (getM (s.take 4) : Int)) rfl rfl (by decide +kernel) rfl (fun w' => by kernel_rfl) (fun w' _ => get_any _ (by simp; omega) w') hS0 ?_
  simp only [List.setIfInBounds_toArray, List.set_cons_succ, List.set_cons_zero]
  (apply reg_take 3 rfl rfl (by decide +kernel) rfl); (intro w' _; go_simp; rfl); exact hS0; simp only [List.setIfInBounds_toArray, List.set_cons_succ, List.set_cons_zero]
  refine reg_take 4 (v := .string (strB (s.drop 4))) rfl rfl (by decide +kernel) rfl (fun w' _ => exec_str_from (i := 4) rfl Try.underlying9 rfl rfl (by rw [HS.out]; decide)) hS0 ?_; simp only [List.setIfInBounds_toArray, List.set_cons_succ, List.set_cons_zero]
  refine reg_run 5 (.slice (some ⟨g, 0, none⟩) (s.drop 4).length cap) (w4.drew.drew.alloc (.cells row TByte fr)) rfl rfl (by decide +kernel) rfl (exec_convert rfl rfl HRUN.out) (hS5) ?_; simp only [List.setIfInBounds_toArray, List.set_cons_succ, List.set_cons_zero]
  have H3 := Lib.hid (And.intro (H1.out.1.drew.drew.alloc (.cells row TByte fr)) HSR.out)
  clear HSR HRUN H1
  generalize w4.drew.drew.alloc (.cells row TByte fr) = w5 at H3 hS5 ⊢
  refine reg_call 6 rfl rfl (by decide +kernel) rfl (f := 58) (args := #[.slice (some ⟨g, 0, none⟩) (s.drop 4).length cap]) (R := fun v w' => v = .int .u32 (c : Int) ∧ Hid (Same w5 w' ∧ Sat w' _)) (by kernel_rfl) ((HOF.out w5 _ H3.out.2).mono fun e w' h => ⟨_, h.1, rfl, h.2⟩) ?_
  rintro _ w6 ⟨rfl, h6⟩
  have H1 := Lib.hid (And.intro (H3.out.1.trans h6.out.1) h6.out.2.right)
  clear H3 h6 hS0 hS5
  have hS0 := lab_cells H1.out.2
  refine ⟨hS0, ?_⟩
  simp only [List.setIfInBounds_toArray, List.set_cons_succ, List.set_cons_zero]
  (apply reg_take 7 rfl rfl (by decide +kernel) rfl); (intro w' _; go_simp; rfl); exact hS0; simp only [List.setIfInBounds_toArray, List.set_cons_succ, List.set_cons_zero]
  rw [HL4.out] at hlab
  have HLAB := Lib.hid hlab
  have hcells := Lib.hid (show ∀ W, Sat W _ → _ from fun W h => lab_cells (X := pts B (.cells zPl TPl (0, 0)) * (pts (B + 1) (.cells zGen TGen (0, 0)) * F)) (w := W) (D := D) (C := C) (p := (c5.toNat : Int)) (q := (c4.toNat : Int)) (r := (getM (subL s 6 8) : Int)) (g := (getM (subL s 8 12) : Int)) (h := (getM (subL s 12 16) : Int)) h)
  clear hlab
  cases hb1 : decide (getM (s.take 4) = c)
  · have hne : getM (s.take 4) ≠ c := by simpa using hb1
    refine reg_take 8 (v := .bool true) rfl rfl (by decide +kernel) rfl (fun w' _ => exec_binop rfl rfl rfl rfl (by simp [go_sem]; omega)) hS0 ?_; simp only [List.setIfInBounds_toArray, List.set_cons_succ, List.set_cons_zero]
    (apply reg_take 9 rfl rfl (by decide +kernel) rfl); (rintro w' ⟨h1, h2, h3, h4, h5⟩; go_simp; rfl); exact hS0; simp only [List.setIfInBounds_toArray, List.set_cons_succ, List.set_cons_zero]
    (apply reg_skip 10 rfl rfl (by decide +kernel) rfl); exact hS0; simp only [List.setIfInBounds_toArray, List.set_cons_succ, List.set_cons_zero]
    (apply reg_skip 11 rfl rfl (by decide +kernel) rfl); exact hS0; simp only [List.setIfInBounds_toArray, List.set_cons_succ, List.set_cons_zero]
    (apply reg_skip 12 rfl rfl (by decide +kernel) rfl); exact hS0; simp only [List.setIfInBounds_toArray, List.set_cons_succ, List.set_cons_zero]
    (apply reg_take 13 rfl rfl (by decide +kernel) rfl); (rintro w' ⟨h1, h2, h3, h4, h5⟩; go_simp; rfl); exact hS0; simp only [List.setIfInBounds_toArray, List.set_cons_succ, List.set_cons_zero]
    (apply reg_take 14 rfl rfl (by decide +kernel) rfl); (rintro w' ⟨h1, h2, h3, h4, h5⟩; go_simp; rfl); exact hS0; simp only [List.setIfInBounds_toArray, List.set_cons_succ, List.set_cons_zero]
    (apply reg_skip 15 rfl rfl (by decide +kernel) rfl); exact hS0; simp only [List.setIfInBounds_toArray, List.set_cons_succ, List.set_cons_zero]
    (apply reg_skip 16 rfl rfl (by decide +kernel) rfl); exact hS0; simp only [List.setIfInBounds_toArray, List.set_cons_succ, List.set_cons_zero]
    (apply reg_skip 17 rfl rfl (by decide +kernel) rfl); exact hS0; simp only [List.setIfInBounds_toArray, List.set_cons_succ, List.set_cons_zero]
    (apply reg_take 18 rfl rfl (by decide +kernel) rfl); (rintro w' ⟨h1, h2, h3, h4, h5⟩; go_simp; rfl); exact hS0; simp only [List.setIfInBounds_toArray, List.set_cons_succ, List.set_cons_zero]
    (apply reg_take 19 rfl rfl (by decide +kernel) rfl); (rintro w' ⟨h1, h2, h3, h4, h5⟩; go_simp; rfl); exact hS0; simp only [List.setIfInBounds_toArray, List.set_cons_succ, List.set_cons_zero]
    (apply reg_skip 20 rfl rfl (by decide +kernel) rfl); exact hS0; simp only [List.setIfInBounds_toArray, List.set_cons_succ, List.set_cons_zero]
    (apply reg_take 21 rfl rfl (by decide +kernel) rfl); (rintro w' ⟨h1, h2, h3, h4, h5⟩; go_simp; rfl); exact hS0; simp only [List.setIfInBounds_toArray, List.set_cons_succ, List.set_cons_zero]
    refine reg_done (by decide +kernel) ?_
    have HP := Lib.hid (show labP s = ⟨0, 0, 0⟩ ∧ labG s = g0 ∧ labE s = 7 from by have e := HLAB.out; simp only [hb1, Bool.false_and, Bool.true_and, Bool.and_false] at e; unfold labP labG labE; rw [e]; exact ⟨rfl, rfl, rfl⟩)
    replace H1 := Lib.hid (And.intro H1.out.1 (H1.out.2.perm (show _ = pts B (.cells zPl TPl (0, 0)) * (pts (B + 1) (.cells zGen TGen (0, 0)) * (pts D (.cells #[.int .i64 (getM (subL s 8 12) : Int), .int .i64 (getM (subL s 12 16) : Int)] TGen (0, 0)) * (pts C (.cells #[.int .i64 (c5.toNat : Int), .int .i64 (c4.toNat : Int), .int .i64 (getM (subL s 6 8) : Int)] TPl (0, 0)) * F))) from by ac_rfl)))
    clear hS0 kc hb1 hva hvg hne
    obtain ⟨⟨b0, b1, b2, b3, b4'⟩, f0, f1, f2, f3, f4⟩ := bad_cells H1.out.2
    go_wp2
    replace H1 := Lib.hid (bad_store H1.out.1 H1.out.2)
    refine bodyPost_ret (v := .tuple #[.agg zPl, .agg zGen, .int .i64 7]) (results3 Try.results69 (ResIs.row rfl H1.out.2.block Try.underlying46 rfl (infoPl rfl)) (ResIs.row rfl H1.out.2.right.block Try.underlying29 rfl (infoGen rfl)) (.tmp rfl)) rfl ?_
    exact ⟨by rw [HP.out.1, HP.out.2.1, HP.out.2.2]; rfl, H1.out.1, H1.out.2.right.right.right.right⟩
  cases hb2 : placeOK ⟨(c5.toNat : Int), (c4.toNat : Int), (getM (subL s 6 8) : Int)⟩
  · rw [hb2] at hva
    have hne : getM (s.take 4) = c := by simpa using hb1
    refine reg_take 8 (v := .bool false) rfl rfl (by decide +kernel) rfl (fun w' _ => exec_binop rfl rfl rfl rfl (by simp [go_sem, hne])) hS0 ?_; simp only [List.setIfInBounds_toArray, List.set_cons_succ, List.set_cons_zero]
    (apply reg_take 9 rfl rfl (by decide +kernel) rfl); (rintro w' ⟨h1, h2, h3, h4, h5⟩; go_simp; rfl); exact hS0; simp only [List.setIfInBounds_toArray, List.set_cons_succ, List.set_cons_zero]
    (apply reg_take 10 rfl rfl (by decide +kernel) rfl); (rintro w' ⟨h1, h2, h3, h4, h5⟩; go_simp; rfl); exact hS0; simp only [List.setIfInBounds_toArray, List.set_cons_succ, List.set_cons_zero]
    refine reg_call 11 rfl rfl (by decide +kernel) rfl (f := 54) (args := #[.agg (plA ⟨(c5.toNat : Int), (c4.toNat : Int), (getM (subL s 6 8) : Int)⟩)]) (R := fun v w' => v = .bool false ∧ Hid (Below w6.heap.size w6 w')) (by kernel_rfl) ((hva w6).mono fun e w' h => ⟨_, h.1, rfl, h.2⟩) ?_
    rintro _ w7 ⟨rfl, hb⟩
    replace H1 := Lib.hid (And.intro (H1.out.1.below hb.out) (H1.out.2.below hb.out))
    replace hS0 := hcells.out _ H1.out.2
    refine ⟨hS0, ?_⟩
    simp only [List.setIfInBounds_toArray, List.set_cons_succ, List.set_cons_zero]
    clear hb
    (apply reg_take 12 rfl rfl (by decide +kernel) rfl); (rintro w' ⟨h1, h2, h3, h4, h5⟩; go_simp; rfl); exact hS0; simp only [List.setIfInBounds_toArray, List.set_cons_succ, List.set_cons_zero]
    (apply reg_take 13 rfl rfl (by decide +kernel) rfl); (rintro w' ⟨h1, h2, h3, h4, h5⟩; go_simp; rfl); exact hS0; simp only [List.setIfInBounds_toArray, List.set_cons_succ, List.set_cons_zero]
    (apply reg_take 14 rfl rfl (by decide +kernel) rfl); (rintro w' ⟨h1, h2, h3, h4, h5⟩; go_simp; rfl); exact hS0; simp only [List.setIfInBounds_toArray, List.set_cons_succ, List.set_cons_zero]
    (apply reg_skip 15 rfl rfl (by decide +kernel) rfl); exact hS0; simp only [List.setIfInBounds_toArray, List.set_cons_succ, List.set_cons_zero]
    (apply reg_skip 16 rfl rfl (by decide +kernel) rfl); exact hS0; simp only [List.setIfInBounds_toArray, List.set_cons_succ, List.set_cons_zero]
    (apply reg_skip 17 rfl rfl (by decide +kernel) rfl); exact hS0; simp only [List.setIfInBounds_toArray, List.set_cons_succ, List.set_cons_zero]
    (apply reg_take 18 rfl rfl (by decide +kernel) rfl); (rintro w' ⟨h1, h2, h3, h4, h5⟩; go_simp; rfl); exact hS0; simp only [List.setIfInBounds_toArray, List.set_cons_succ, List.set_cons_zero]
    (apply reg_take 19 rfl rfl (by decide +kernel) rfl); (rintro w' ⟨h1, h2, h3, h4, h5⟩; go_simp; rfl); exact hS0; simp only [List.setIfInBounds_toArray, List.set_cons_succ, List.set_cons_zero]
    (apply reg_skip 20 rfl rfl (by decide +kernel) rfl); exact hS0; simp only [List.setIfInBounds_toArray, List.set_cons_succ, List.set_cons_zero]
    (apply reg_take 21 rfl rfl (by decide +kernel) rfl); (rintro w' ⟨h1, h2, h3, h4, h5⟩; go_simp; rfl); exact hS0; simp only [List.setIfInBounds_toArray, List.set_cons_succ, List.set_cons_zero]
    refine reg_done (by decide +kernel) ?_
    have HP := Lib.hid (show labP s = ⟨0, 0, 0⟩ ∧ labG s = g0 ∧ labE s = 7 from by have e := HLAB.out; simp only [hb1, hb2, Bool.false_and, Bool.true_and, Bool.and_false] at e; unfold labP labG labE; rw [e]; exact ⟨rfl, rfl, rfl⟩)
    replace H1 := Lib.hid (And.intro H1.out.1 (H1.out.2.perm (show _ = pts B (.cells zPl TPl (0, 0)) * (pts (B + 1) (.cells zGen TGen (0, 0)) * (pts D (.cells #[.int .i64 (getM (subL s 8 12) : Int), .int .i64 (getM (subL s 12 16) : Int)] TGen (0, 0)) * (pts C (.cells #[.int .i64 (c5.toNat : Int), .int .i64 (c4.toNat : Int), .int .i64 (getM (subL s 6 8) : Int)] TPl (0, 0)) * F))) from by ac_rfl)))
    clear hS0 kc hb1 hb2 hva hvg hne
    obtain ⟨⟨b0, b1, b2, b3, b4'⟩, f0, f1, f2, f3, f4⟩ := bad_cells H1.out.2
    go_wp2
    replace H1 := Lib.hid (bad_store H1.out.1 H1.out.2)
    refine bodyPost_ret (v := .tuple #[.agg zPl, .agg zGen, .int .i64 7]) (results3 Try.results69 (ResIs.row rfl H1.out.2.block Try.underlying46 rfl (infoPl rfl)) (ResIs.row rfl H1.out.2.right.block Try.underlying29 rfl (infoGen rfl)) (.tmp rfl)) rfl ?_
    exact ⟨by rw [HP.out.1, HP.out.2.1, HP.out.2.2]; rfl, H1.out.1, H1.out.2.right.right.right.right⟩
  rw [hb2] at hva
  cases hb3 : genOK ⟨(getM (subL s 8 12) : Int), (getM (subL s 12 16) : Int)⟩
  · rw [hb3] at hvg
    have hne : getM (s.take 4) = c := by simpa using hb1
    refine reg_take 8 (v := .bool false) rfl rfl (by decide +kernel) rfl (fun w' _ => exec_binop rfl rfl rfl rfl (by simp [go_sem, hne])) hS0 ?_; simp only [List.setIfInBounds_toArray, List.set_cons_succ, List.set_cons_zero]
    (apply reg_take 9 rfl rfl (by decide +kernel) rfl); (rintro w' ⟨h1, h2, h3, h4, h5⟩; go_simp; rfl); exact hS0; simp only [List.setIfInBounds_toArray, List.set_cons_succ, List.set_cons_zero]
    (apply reg_take 10 rfl rfl (by decide +kernel) rfl); (rintro w' ⟨h1, h2, h3, h4, h5⟩; go_simp; rfl); exact hS0; simp only [List.setIfInBounds_toArray, List.set_cons_succ, List.set_cons_zero]
    refine reg_call 11 rfl rfl (by decide +kernel) rfl (f := 54) (args := #[.agg (plA ⟨(c5.toNat : Int), (c4.toNat : Int), (getM (subL s 6 8) : Int)⟩)]) (R := fun v w' => v = .bool true ∧ Hid (Below w6.heap.size w6 w')) (by kernel_rfl) ((hva w6).mono fun e w' h => ⟨_, h.1, rfl, h.2⟩) ?_
    rintro _ w7 ⟨rfl, hb⟩
    replace H1 := Lib.hid (And.intro (H1.out.1.below hb.out) (H1.out.2.below hb.out))
    replace hS0 := hcells.out _ H1.out.2
    refine ⟨hS0, ?_⟩
    simp only [List.setIfInBounds_toArray, List.set_cons_succ, List.set_cons_zero]
    clear hb
    (apply reg_take 12 rfl rfl (by decide +kernel) rfl); (rintro w' ⟨h1, h2, h3, h4, h5⟩; go_simp; rfl); exact hS0; simp only [List.setIfInBounds_toArray, List.set_cons_succ, List.set_cons_zero]
    (apply reg_take 13 rfl rfl (by decide +kernel) rfl); (rintro w' ⟨h1, h2, h3, h4, h5⟩; go_simp; rfl); exact hS0; simp only [List.setIfInBounds_toArray, List.set_cons_succ, List.set_cons_zero]
    (apply reg_take 14 rfl rfl (by decide +kernel) rfl); (rintro w' ⟨h1, h2, h3, h4, h5⟩; go_simp; rfl); exact hS0; simp only [List.setIfInBounds_toArray, List.set_cons_succ, List.set_cons_zero]
    (apply reg_take 15 rfl rfl (by decide +kernel) rfl); (rintro w' ⟨h1, h2, h3, h4, h5⟩; go_simp; rfl); exact hS0; simp only [List.setIfInBounds_toArray, List.set_cons_succ, List.set_cons_zero]
    refine reg_call 16 rfl rfl (by decide +kernel) rfl (f := 55) (args := #[.agg (genA ⟨(getM (subL s 8 12) : Int), (getM (subL s 12 16) : Int)⟩)]) (R := fun v w' => v = .bool false ∧ Hid (Below w7.heap.size w7 w')) (by kernel_rfl) ((hvg w7).mono fun e w' h => ⟨_, h.1, rfl, h.2⟩) ?_
    rintro _ w8 ⟨rfl, hb⟩
    replace H1 := Lib.hid (And.intro (H1.out.1.below hb.out) (H1.out.2.below hb.out))
    replace hS0 := hcells.out _ H1.out.2
    refine ⟨hS0, ?_⟩
    simp only [List.setIfInBounds_toArray, List.set_cons_succ, List.set_cons_zero]
    clear hb
    (apply reg_take 17 rfl rfl (by decide +kernel) rfl); (rintro w' ⟨h1, h2, h3, h4, h5⟩; go_simp; rfl); exact hS0; simp only [List.setIfInBounds_toArray, List.set_cons_succ, List.set_cons_zero]
    (apply reg_take 18 rfl rfl (by decide +kernel) rfl); (rintro w' ⟨h1, h2, h3, h4, h5⟩; go_simp; rfl); exact hS0; simp only [List.setIfInBounds_toArray, List.set_cons_succ, List.set_cons_zero]
    (apply reg_take 19 rfl rfl (by decide +kernel) rfl); (rintro w' ⟨h1, h2, h3, h4, h5⟩; go_simp; rfl); exact hS0; simp only [List.setIfInBounds_toArray, List.set_cons_succ, List.set_cons_zero]
    (apply reg_skip 20 rfl rfl (by decide +kernel) rfl); exact hS0; simp only [List.setIfInBounds_toArray, List.set_cons_succ, List.set_cons_zero]
    (apply reg_take 21 rfl rfl (by decide +kernel) rfl); (rintro w' ⟨h1, h2, h3, h4, h5⟩; go_simp; rfl); exact hS0; simp only [List.setIfInBounds_toArray, List.set_cons_succ, List.set_cons_zero]
    refine reg_done (by decide +kernel) ?_
    have HP := Lib.hid (show labP s = ⟨0, 0, 0⟩ ∧ labG s = g0 ∧ labE s = 7 from by have e := HLAB.out; simp only [hb1, hb2, hb3, Bool.false_and, Bool.true_and, Bool.and_false] at e; unfold labP labG labE; rw [e]; exact ⟨rfl, rfl, rfl⟩)
    replace H1 := Lib.hid (And.intro H1.out.1 (H1.out.2.perm (show _ = pts B (.cells zPl TPl (0, 0)) * (pts (B + 1) (.cells zGen TGen (0, 0)) * (pts D (.cells #[.int .i64 (getM (subL s 8 12) : Int), .int .i64 (getM (subL s 12 16) : Int)] TGen (0, 0)) * (pts C (.cells #[.int .i64 (c5.toNat : Int), .int .i64 (c4.toNat : Int), .int .i64 (getM (subL s 6 8) : Int)] TPl (0, 0)) * F))) from by ac_rfl)))
    clear hS0 kc hb1 hb2 hb3 hva hvg hne
    obtain ⟨⟨b0, b1, b2, b3, b4'⟩, f0, f1, f2, f3, f4⟩ := bad_cells H1.out.2
    go_wp2
    replace H1 := Lib.hid (bad_store H1.out.1 H1.out.2)
    refine bodyPost_ret (v := .tuple #[.agg zPl, .agg zGen, .int .i64 7]) (results3 Try.results69 (ResIs.row rfl H1.out.2.block Try.underlying46 rfl (infoPl rfl)) (ResIs.row rfl H1.out.2.right.block Try.underlying29 rfl (infoGen rfl)) (.tmp rfl)) rfl ?_
    exact ⟨by rw [HP.out.1, HP.out.2.1, HP.out.2.2]; rfl, H1.out.1, H1.out.2.right.right.right.right⟩
  rw [hb3] at hvg
  cases b4
  · have hne : getM (s.take 4) = c := by simpa using hb1
    refine reg_take 8 (v := .bool false) rfl rfl (by decide +kernel) rfl (fun w' _ => exec_binop rfl rfl rfl rfl (by simp [go_sem, hne])) hS0 ?_; simp only [List.setIfInBounds_toArray, List.set_cons_succ, List.set_cons_zero]
    (apply reg_take 9 rfl rfl (by decide +kernel) rfl); (rintro w' ⟨h1, h2, h3, h4, h5⟩; go_simp; rfl); exact hS0; simp only [List.setIfInBounds_toArray, List.set_cons_succ, List.set_cons_zero]
    (apply reg_take 10 rfl rfl (by decide +kernel) rfl); (rintro w' ⟨h1, h2, h3, h4, h5⟩; go_simp; rfl); exact hS0; simp only [List.setIfInBounds_toArray, List.set_cons_succ, List.set_cons_zero]
    refine reg_call 11 rfl rfl (by decide +kernel) rfl (f := 54) (args := #[.agg (plA ⟨(c5.toNat : Int), (c4.toNat : Int), (getM (subL s 6 8) : Int)⟩)]) (R := fun v w' => v = .bool true ∧ Hid (Below w6.heap.size w6 w')) (by kernel_rfl) ((hva w6).mono fun e w' h => ⟨_, h.1, rfl, h.2⟩) ?_
    rintro _ w7 ⟨rfl, hb⟩
    replace H1 := Lib.hid (And.intro (H1.out.1.below hb.out) (H1.out.2.below hb.out))
    replace hS0 := hcells.out _ H1.out.2
    refine ⟨hS0, ?_⟩
    simp only [List.setIfInBounds_toArray, List.set_cons_succ, List.set_cons_zero]
    clear hb
    (apply reg_take 12 rfl rfl (by decide +kernel) rfl); (rintro w' ⟨h1, h2, h3, h4, h5⟩; go_simp; rfl); exact hS0; simp only [List.setIfInBounds_toArray, List.set_cons_succ, List.set_cons_zero]
    (apply reg_take 13 rfl rfl (by decide +kernel) rfl); (rintro w' ⟨h1, h2, h3, h4, h5⟩; go_simp; rfl); exact hS0; simp only [List.setIfInBounds_toArray, List.set_cons_succ, List.set_cons_zero]
    (apply reg_take 14 rfl rfl (by decide +kernel) rfl); (rintro w' ⟨h1, h2, h3, h4, h5⟩; go_simp; rfl); exact hS0; simp only [List.setIfInBounds_toArray, List.set_cons_succ, List.set_cons_zero]
    (apply reg_take 15 rfl rfl (by decide +kernel) rfl); (rintro w' ⟨h1, h2, h3, h4, h5⟩; go_simp; rfl); exact hS0; simp only [List.setIfInBounds_toArray, List.set_cons_succ, List.set_cons_zero]
    refine reg_call 16 rfl rfl (by decide +kernel) rfl (f := 55) (args := #[.agg (genA ⟨(getM (subL s 8 12) : Int), (getM (subL s 12 16) : Int)⟩)]) (R := fun v w' => v = .bool true ∧ Hid (Below w7.heap.size w7 w')) (by kernel_rfl) ((hvg w7).mono fun e w' h => ⟨_, h.1, rfl, h.2⟩) ?_
    rintro _ w8 ⟨rfl, hb⟩
    replace H1 := Lib.hid (And.intro (H1.out.1.below hb.out) (H1.out.2.below hb.out))
    replace hS0 := hcells.out _ H1.out.2
    refine ⟨hS0, ?_⟩
    simp only [List.setIfInBounds_toArray, List.set_cons_succ, List.set_cons_zero]
    clear hb
    (apply reg_take 17 rfl rfl (by decide +kernel) rfl); (rintro w' ⟨h1, h2, h3, h4, h5⟩; go_simp; rfl); exact hS0; simp only [List.setIfInBounds_toArray, List.set_cons_succ, List.set_cons_zero]
    (apply reg_take 18 rfl rfl (by decide +kernel) rfl); (rintro w' ⟨h1, h2, h3, h4, h5⟩; go_simp; rfl); exact hS0; simp only [List.setIfInBounds_toArray, List.set_cons_succ, List.set_cons_zero]
    (apply reg_take 19 rfl rfl (by decide +kernel) rfl); (rintro w' ⟨h1, h2, h3, h4, h5⟩; go_simp; rfl); exact hS0; simp only [List.setIfInBounds_toArray, List.set_cons_succ, List.set_cons_zero]
    (apply reg_take 20 rfl rfl (by decide +kernel) rfl); (rintro w' ⟨h1, h2, h3, h4, h5⟩; go_simp; rfl); exact hS0; simp only [List.setIfInBounds_toArray, List.set_cons_succ, List.set_cons_zero]
    (apply reg_take 21 rfl rfl (by decide +kernel) rfl); (rintro w' ⟨h1, h2, h3, h4, h5⟩; go_simp; rfl); exact hS0; simp only [List.setIfInBounds_toArray, List.set_cons_succ, List.set_cons_zero]
    refine reg_done (by decide +kernel) ?_
    have HP := Lib.hid (show labP s = ⟨0, 0, 0⟩ ∧ labG s = g0 ∧ labE s = 7 from by have e := HLAB.out; simp only [hb1, hb2, hb3, Bool.false_and, Bool.true_and, Bool.and_false] at e; unfold labP labG labE; rw [e]; exact ⟨rfl, rfl, rfl⟩)
    replace H1 := Lib.hid (And.intro H1.out.1 (H1.out.2.perm (show _ = pts B (.cells zPl TPl (0, 0)) * (pts (B + 1) (.cells zGen TGen (0, 0)) * (pts D (.cells #[.int .i64 (getM (subL s 8 12) : Int), .int .i64 (getM (subL s 12 16) : Int)] TGen (0, 0)) * (pts C (.cells #[.int .i64 (c5.toNat : Int), .int .i64 (c4.toNat : Int), .int .i64 (getM (subL s 6 8) : Int)] TPl (0, 0)) * F))) from by ac_rfl)))
    clear hS0 kc hb1 hb2 hb3 hva hvg hne
    obtain ⟨⟨b0, b1, b2, b3, b4'⟩, f0, f1, f2, f3, f4⟩ := bad_cells H1.out.2
    go_wp2
    replace H1 := Lib.hid (bad_store H1.out.1 H1.out.2)
    refine bodyPost_ret (v := .tuple #[.agg zPl, .agg zGen, .int .i64 7]) (results3 Try.results69 (ResIs.row rfl H1.out.2.block Try.underlying46 rfl (infoPl rfl)) (ResIs.row rfl H1.out.2.right.block Try.underlying29 rfl (infoGen rfl)) (.tmp rfl)) rfl ?_
    exact ⟨by rw [HP.out.1, HP.out.2.1, HP.out.2.2]; rfl, H1.out.1, H1.out.2.right.right.right.right⟩
  · have hne : getM (s.take 4) = c := by simpa using hb1
    refine reg_take 8 (v := .bool false) rfl rfl (by decide +kernel) rfl (fun w' _ => exec_binop rfl rfl rfl rfl (by simp [go_sem, hne])) hS0 ?_; simp only [List.setIfInBounds_toArray, List.set_cons_succ, List.set_cons_zero]
    (apply reg_take 9 rfl rfl (by decide +kernel) rfl); (rintro w' ⟨h1, h2, h3, h4, h5⟩; go_simp; rfl); exact hS0; simp only [List.setIfInBounds_toArray, List.set_cons_succ, List.set_cons_zero]
    (apply reg_take 10 rfl rfl (by decide +kernel) rfl); (rintro w' ⟨h1, h2, h3, h4, h5⟩; go_simp; rfl); exact hS0; simp only [List.setIfInBounds_toArray, List.set_cons_succ, List.set_cons_zero]
    refine reg_call 11 rfl rfl (by decide +kernel) rfl (f := 54) (args := #[.agg (plA ⟨(c5.toNat : Int), (c4.toNat : Int), (getM (subL s 6 8) : Int)⟩)]) (R := fun v w' => v = .bool true ∧ Hid (Below w6.heap.size w6 w')) (by kernel_rfl) ((hva w6).mono fun e w' h => ⟨_, h.1, rfl, h.2⟩) ?_
    rintro _ w7 ⟨rfl, hb⟩
    replace H1 := Lib.hid (And.intro (H1.out.1.below hb.out) (H1.out.2.below hb.out))
    replace hS0 := hcells.out _ H1.out.2
    refine ⟨hS0, ?_⟩
    simp only [List.setIfInBounds_toArray, List.set_cons_succ, List.set_cons_zero]
    clear hb
    (apply reg_take 12 rfl rfl (by decide +kernel) rfl); (rintro w' ⟨h1, h2, h3, h4, h5⟩; go_simp; rfl); exact hS0; simp only [List.setIfInBounds_toArray, List.set_cons_succ, List.set_cons_zero]
    (apply reg_take 13 rfl rfl (by decide +kernel) rfl); (rintro w' ⟨h1, h2, h3, h4, h5⟩; go_simp; rfl); exact hS0; simp only [List.setIfInBounds_toArray, List.set_cons_succ, List.set_cons_zero]
    (apply reg_take 14 rfl rfl (by decide +kernel) rfl); (rintro w' ⟨h1, h2, h3, h4, h5⟩; go_simp; rfl); exact hS0; simp only [List.setIfInBounds_toArray, List.set_cons_succ, List.set_cons_zero]
    (apply reg_take 15 rfl rfl (by decide +kernel) rfl); (rintro w' ⟨h1, h2, h3, h4, h5⟩; go_simp; rfl); exact hS0; simp only [List.setIfInBounds_toArray, List.set_cons_succ, List.set_cons_zero]
    refine reg_call 16 rfl rfl (by decide +kernel) rfl (f := 55) (args := #[.agg (genA ⟨(getM (subL s 8 12) : Int), (getM (subL s 12 16) : Int)⟩)]) (R := fun v w' => v = .bool true ∧ Hid (Below w7.heap.size w7 w')) (by kernel_rfl) ((hvg w7).mono fun e w' h => ⟨_, h.1, rfl, h.2⟩) ?_
    rintro _ w8 ⟨rfl, hb⟩
    replace H1 := Lib.hid (And.intro (H1.out.1.below hb.out) (H1.out.2.below hb.out))
    replace hS0 := hcells.out _ H1.out.2
    refine ⟨hS0, ?_⟩
    simp only [List.setIfInBounds_toArray, List.set_cons_succ, List.set_cons_zero]
    clear hb
    (apply reg_take 17 rfl rfl (by decide +kernel) rfl); (rintro w' ⟨h1, h2, h3, h4, h5⟩; go_simp; rfl); exact hS0; simp only [List.setIfInBounds_toArray, List.set_cons_succ, List.set_cons_zero]
    (apply reg_take 18 rfl rfl (by decide +kernel) rfl); (rintro w' ⟨h1, h2, h3, h4, h5⟩; go_simp; rfl); exact hS0; simp only [List.setIfInBounds_toArray, List.set_cons_succ, List.set_cons_zero]
    (apply reg_take 19 rfl rfl (by decide +kernel) rfl); (rintro w' ⟨h1, h2, h3, h4, h5⟩; go_simp; rfl); exact hS0; simp only [List.setIfInBounds_toArray, List.set_cons_succ, List.set_cons_zero]
    (apply reg_take 20 rfl rfl (by decide +kernel) rfl); (rintro w' ⟨h1, h2, h3, h4, h5⟩; go_simp; rfl); exact hS0; simp only [List.setIfInBounds_toArray, List.set_cons_succ, List.set_cons_zero]
    (apply reg_take 21 rfl rfl (by decide +kernel) rfl); (rintro w' ⟨h1, h2, h3, h4, h5⟩; go_simp; rfl); exact hS0; simp only [List.setIfInBounds_toArray, List.set_cons_succ, List.set_cons_zero]
    clear hne
    refine reg_done (by decide +kernel) ?_
    have HP := Lib.hid (show labP s = ⟨(c5.toNat : Int), (c4.toNat : Int), (getM (subL s 6 8) : Int)⟩ ∧ labG s = ⟨(getM (subL s 8 12) : Int), (getM (subL s 12 16) : Int)⟩ ∧ labE s = 0 from by have e := HLAB.out; simp only [hb1, hb2, hb3, Bool.true_and, Bool.and_true] at e; unfold labP labG labE; rw [e, HA.out, HG.out]; exact ⟨rfl, rfl, rfl⟩)
    clear kc hb1 hb2 hb3 hva hvg
    go_upto_region 8 with (fail)
    replace H1 := Lib.hid (And.intro H1.out.1.drew H1.out.2.drew)
    replace hS0 := hcells.out _ H1.out.2
    refine reg_begin (fun w' => w'.cell? ⟨C, 0, none⟩ = some (.int .i64 (c5.toNat : Int)) ∧ w'.cell? ⟨C, 1, none⟩ = some (.int .i64 (c4.toNat : Int)) ∧ w'.cell? ⟨C, 2, none⟩ = some (.int .i64 (getM (subL s 6 8) : Int)) ∧ w'.cell? ⟨D, 0, none⟩ = some (.int .i64 (getM (subL s 8 12) : Int)) ∧ w'.cell? ⟨D, 1, none⟩ = some (.int .i64 (getM (subL s 12 16) : Int))) (by kernel_rfl) ?_
    (apply reg_take 0 rfl rfl (by decide +kernel) rfl); (rintro w' ⟨h1, h2, h3, h4, h5⟩; go_simp; rfl); exact hS0; simp only [List.setIfInBounds_toArray, List.set_cons_succ, List.set_cons_zero]
    (apply reg_take 1 rfl rfl (by decide +kernel) rfl); (rintro w' ⟨h1, h2, h3, h4, h5⟩; go_simp; rfl); exact hS0; simp only [List.setIfInBounds_toArray, List.set_cons_succ, List.set_cons_zero]
    replace H1 := Lib.hid (And.intro H1.out.1 (H1.out.2.perm (show _ = pts B (.cells zPl TPl (0, 0)) * (pts (B + 1) (.cells zGen TGen (0, 0)) * (pts D (.cells #[.int .i64 (getM (subL s 8 12) : Int), .int .i64 (getM (subL s 12 16) : Int)] TGen (0, 0)) * (pts C (.cells #[.int .i64 (c5.toNat : Int), .int .i64 (c4.toNat : Int), .int .i64 (getM (subL s 6 8) : Int)] TPl (0, 0)) * F))) from by ac_rfl)))
    refine reg_store_blk 2 (T := TPl) (old := zPl) (new := #[.int .i64 (c5.toNat : Int), .int .i64 (c4.toNat : Int), .int .i64 (getM (subL s 6 8) : Int)]) rfl rfl (by decide +kernel) rfl rfl rfl rfl H1.out.2 (infoPl rfl) rfl (by simp [Value.oneCell']) ?_
    intro w9 h9
    replace H1 := Lib.hid (And.intro (H1.out.1.trans h9.out.1) (h9.out.2.perm (star_left_comm _ _ _)))
    replace hS0 := lab_cells (h9.out.2.right.right)
    refine ⟨hS0, ?_⟩
    clear h9
    refine reg_store_blk 3 (T := TGen) (old := zGen) (new := #[.int .i64 (getM (subL s 8 12) : Int), .int .i64 (getM (subL s 12 16) : Int)]) rfl rfl (by decide +kernel) rfl rfl rfl rfl H1.out.2 (infoGen rfl) rfl (by simp [Value.oneCell']) ?_
    intro w10 h10
    replace H1 := Lib.hid (And.intro (H1.out.1.trans h10.out.1) (h10.out.2.perm (star_left_comm _ _ _)))
    replace hS0 := lab_cells (h10.out.2.right.right)
    refine ⟨hS0, ?_⟩
    clear h10
    (apply reg_take 4 rfl rfl (by decide +kernel) rfl); (intro w' _; go_simp; rfl); exact hS0; simp only [List.setIfInBounds_toArray, List.set_cons_succ, List.set_cons_zero]
    refine reg_done (by decide +kernel) ?_
    clear hS0
    go_wp2
    refine bodyPost_ret (v := .tuple #[.agg (plA ⟨(c5.toNat : Int), (c4.toNat : Int), (getM (subL s 6 8) : Int)⟩), .agg (genA ⟨(getM (subL s 8 12) : Int), (getM (subL s 12 16) : Int)⟩), .int .i64 0]) (results3 Try.results69 (ResIs.row rfl H1.out.2.block Try.underlying46 rfl (infoPl rfl)) (ResIs.row rfl H1.out.2.right.block Try.underlying29 rfl (infoGen rfl)) (.tmp rfl)) rfl ?_
    exact ⟨by rw [HP.out.1, HP.out.2.1, HP.out.2.2], H1.out.1, H1.out.2.right.right.right.right⟩
end Go.Proofs.Ytbegomjbakidmaa
