import Derived.Test.YteikbikopgabjaaGreatDoorV46
/- Part 47 of a proof; the last part says what is proved. -/
namespace Go.Proofs.YteikbikopgabjaaGreatDoor
open Go.RowKit Go.Sha Go.Sl Go.GF Go.Vol Go.Loss
theorem kl_bool41 (D : Nat) (b : Bool) : Tryz.prog.keyLits (D + 1) 4 [.bool b] = some [.bool b] := by
  unfold Program.keyLits
  rw [Tryz.underlying4]
theorem kl_int41 (D : Nat) (x : Int) (h : -9223372036854775808 ≤ x ∧ x ≤ 9223372036854775807) : Tryz.prog.keyLits (D + 1) 3 [.int .i64 x] = some [.int .i64 x] := by
  have hw : (Lit.int .i64 x).wf = true := by simp [Lit.wf, IntKind.min, IntKind.max, IntKind.bits, IntKind.signed]; omega
  unfold Program.keyLits
  rw [Tryz.underlying3]
  simp [hw]
def okG (g : GoneM) : Prop := (-9223372036854775808 ≤ g.2.1 ∧ g.2.1 ≤ 9223372036854775807) ∧ (-9223372036854775808 ≤ g.2.2.1 ∧ g.2.2.1 ≤ 9223372036854775807)
theorem kl_gone {g : GoneM} (h : okG g) : ∃ ls, Tryz.prog.keyLits 4 TGn (gnE g) = some ls := by
  have k1 : Tryz.prog.cellsOf 4 = 1 := by kernel_rfl
  have k2 : Tryz.prog.cellsOf 3 = 1 := by kernel_rfl
  have k3 : Tryz.prog.cellsOf TD = 16 := by kernel_rfl
  have h1 := digM_size (unitL g.2.2.2)
  have e3 : ((gnE g).drop 3).take 16 = (arrK .u8 16 (Go.Sha.sumN ([3] ++ lenB (unitL g.2.2.2)))).toList := by
    unfold gnE
    rw [List.drop_append_of_le_length (by simp)]
    simp only [List.drop_succ_cons, List.drop_nil, List.nil_append]
    rw [List.take_of_length_le (by rw [Array.length_toList, h1]; exact Nat.le_refl _)]
    rfl
  have hd := kl_dig 1 (Go.Sha.sumN ([3] ++ lenB (unitL g.2.2.2))) (sumN_lt _)
  have e0 : ((gnE g).drop 0).take 1 = [.bool g.1] := rfl
  have e1 : ((gnE g).drop 1).take 1 = [.int .i64 g.2.1] := rfl
  have e2 : ((gnE g).drop 2).take 1 = [.int .i64 g.2.2.1] := rfl
  unfold Program.keyLits
  rw [Tryz.underlying79]
  dsimp only
  rw [if_pos ⟨by rw [gnE_len]; kernel_rfl, by decide +kernel⟩]
  simp only [List.mapM_cons, List.mapM_nil, k1, k2, k3, e0, e1, e2, e3, kl_bool41 2, kl_int41 2 _ h.1, kl_int41 2 _ h.2, hd]
  exact ⟨_, rfl⟩
theorem neq_gone {g : GoneM} (h : okG g) (w : World) : (binOp .neq TGn (.agg (gnA g)) (.agg (gnA g))).run Tryz.prog w = .ok (.bool false) w := by
  obtain ⟨ls, hl⟩ := kl_gone h
  have hk : Tryz.prog.keyTypeAt 3 TGn = true := by kernel_rfl
  have hf : (Value.agg (gnA g)).formed Tryz.prog TGn = true := by
    have h1 : Tryz.prog.cellsOf TGn = 19 := by kernel_rfl
    simp [Value.formed, Tryz.underlying79, h1, gnA_size]
  have hl2 : Tryz.prog.keyLits 4 TGn (Value.agg (gnA g)).cells.toList = some ls := by
    rw [show (Value.agg (gnA g)).cells = gnA g from rfl, gnA_list]; exact hl
  obtain ⟨r, h1, h2⟩ := run_equalIn_deep (P := Tryz.prog) 9997 3 TGn hk w 4 4 _ _ _ _ hf hf hl2 hl2
  have hr : r = true := h2.2 rfl
  rw [run_neq_struct, h1, hr]; rfl
theorem neq_arr (g : Nat → Nat) (hg : ∀ j, g j < 256) (w : World) : (binOp .neq TD (.agg (arrK .u8 16 g)) (.agg (arrK .u8 16 g))).run Tryz.prog w = .ok (.bool false) w := by
  have hk : Tryz.prog.keyTypeAt 2 TD = true := by kernel_rfl
  have hf : (Value.agg (arrK .u8 16 g)).formed Tryz.prog TD = true := by
    have h : Tryz.prog.underlying TD = some (.array 16 T8) := Tryz.underlying67
    have h1 : Tryz.prog.cellsOf TD = 16 := by kernel_rfl
    simp [Value.formed, h, h1, arrK_size]
  obtain ⟨r, h1, h2⟩ := run_equalIn_deep (P := Tryz.prog) 9998 2 TD hk w 2 2 (.agg (arrK .u8 16 g)) (.agg (arrK .u8 16 g)) _ _ hf hf (kl_dig 0 g hg) (kl_dig 0 g hg)
  have hr : r = true := h2.2 rfl
  rw [run_neq_struct, h1, hr]; rfl
theorem neq_digM (u : List UInt8) (w : World) : (binOp .neq TD (.agg (digM u)) (.agg (digM u))).run Tryz.prog w = .ok (.bool false) w := by
  rw [show (Value.agg (digM u)) = .agg (arrK .u8 16 (Go.Sha.sumN ([3] ++ lenB u))) from rfl]
  exact neq_arr _ (sumN_lt _) w
theorem exec_neA {a : Act} {o : Oper} {w : World} {x y : Operand} {t2 t : TypeId} {xs ys : Array Value} {r : Bool} (hm : Tryz.prog.eqGuardType Tryz.prog.depth t = false) (ho : o.op = .binOp .neq t x y t2) (hx : a.eval x = .agg xs) (hy : a.eval y = .agg ys)
    (h : (binOp .neq t (.agg xs) (.agg ys)).run Tryz.prog w = .ok (.bool r) w) : (execOp a.eval o).run Tryz.prog w = .ok (.value (.bool r)) w := by
  have hg := run_eqGuard_agg (P := Tryz.prog) (w := w) .neq t x y xs ys hm
  unfold execOp
  simp only [ho, Sem.run_bind, Sem.run_pure, hx, hy, hg, h, Result.andThen_ok]
theorem guardG : Tryz.prog.eqGuardType Tryz.prog.depth TGn = false := by kernel_rfl
theorem rows_at {α : Type} {w : World} {ao : Option Addr} {n cap k : Nat} {enc : α → List Value} (hk : ∀ x, (enc x).length = k) {l : List α} (h : RowsO w (.slice ao n cap) l.length (l.flatMap enc)) {i : Nat} {x : α} (hx : l[i]? = some x) : ∃ b off : Nat, ao = some ⟨b, off, none⟩ ∧ b < w.heap.size ∧ w.rangeAt b (off + i * k) (enc x) := by
  obtain ⟨ao', cap', e, _, h4⟩ := h
  obtain ⟨b, off, hb, hlt, hc⟩ := h4 (by have := (List.getElem?_eq_some_iff.1 hx).1; omega)
  simp only [Value.slice.injEq] at e
  refine ⟨b, off, e.1.trans hb, hlt, fun j v hv => ?_⟩
  have := hc _ _ (flat_at hk l i x hx j v hv)
  rwa [← Nat.add_assoc] at this
structure SaS (w : World) (n : Nat) (i : Value) (wr : World) : Prop where
  st : ∃ k : Nat, k ≤ n ∧ i = .int .i64 (k : Int) ∧ Below w.heap.size w wr
theorem load_sameG {w : World} {b o : Nat} {x : GoneM} (h : w.rangeAt b o (gnA x).toList) : (loadVar TGn ⟨b, o, none⟩).run Tryz.prog w = .ok (.agg (gnA x)) w := by
  have := run_loadVar_mid (P := Tryz.prog) w b o TGn (gnA x).toList _ h Tryz.underlying79 rfl (by rw [Array.length_toList, gnA_size]; kernel_rfl)
  rwa [Array.toArray_toList] at this
set_option maxRecDepth 20000 in
set_option maxHeartbeats 2000000 in
theorem sameG_any (va vb : Value) (L : List GoneM) (w : World) (ha : RowsO w va L.length (L.flatMap gnE)) (hb : RowsO w vb L.length (L.flatMap gnE)) (hok : ∀ g ∈ L, okG g) :
    Calls Tryz.prog 11 #[va, vb] w fun e w' => e = .returned (.bool true) ∧ Below w.heap.size w w' := by
  obtain ⟨tg, htg, htgs⟩ := Option.map_eq_some_iff.1 (show (Tryz.prog.info? TGn).map (·.size) = some 19 from by kernel_rfl)
  have HA := Lib.hid (fun W (h : Below w.heap.size w W) => ha.below h)
  have HB := Lib.hid (fun W (h : Below w.heap.size w W) => hb.below h)
  obtain ⟨ao, ac, rfl, hmx, -⟩ := id ha
  obtain ⟨bo, bc, rfl, -, -⟩ := id hb
  have hL : L.length ≤ 9223372036854775807 := hmx
  have hq : ((L.length : Int) != (L.length : Int)) = false := by simp
  clear ha hb hmx
  go_enter Tryz.func11, Tryz.ntmps11
  go_upto_region 4 with (fail)
  go_loopw [5] (fun i wr => SaS w L.length i wr) (fun i _ => L.length - (intOf i).toNat)
  case atStart => exact ⟨⟨0, Nat.zero_le _, rfl, Below.refl _ _⟩⟩
  case round =>
    obtain ⟨k, hk, rfl, hbw⟩ := hrel.st
    clear hrel
    have HBW := Lib.hid hbw
    clear hbw
    have hk63 : (k : Int) ≤ 9223372036854775807 := by omega
    by_cases hin : k < L.length
    · have hid : decide ((k : Int) < (L.length : Int)) = true := decide_eq_true (by omega)
      have hwk : IntKind.i64.wrap ((k : Int) + 1) = (k : Int) + 1 := IntWalk.i64_in _ (by omega)
      obtain ⟨x, hx⟩ : ∃ x, L[k]? = some x := ⟨_, List.getElem?_eq_getElem hin⟩
      obtain ⟨ba, oa, rfl, ha0, ra⟩ := rows_at gnE_len (HA.out wr HBW.out) hx
      obtain ⟨bb, ob, rfl, hb0, rb⟩ := rows_at gnE_len (HB.out wr HBW.out) hx
      have hokx := hok x (List.mem_of_getElem? hx)
      rw [← gnA_list] at ra rb
      have HC := Lib.hid (And.intro ra rb)
      have HD := Lib.hid HBW.out.drew
      clear ra rb hx
      go_upto_region 6 with (fail)
      have hS0 : Below wr.heap.size wr wr.drew := (Below.refl _ _).drew
      refine reg_begin (fun w' => Below wr.heap.size wr w') (by kernel_rfl) ?_
      (apply reg_take 0 rfl rfl (by decide +kernel) rfl); (rintro w' h1; go_simp; rfl); exact hS0; simp only [List.setIfInBounds_toArray, List.set_cons_succ, List.set_cons_zero]
      (apply reg_take 1 rfl rfl (by decide +kernel) rfl); (rintro w' h1; go_simp; rfl); exact hS0; simp only [List.setIfInBounds_toArray, List.set_cons_succ, List.set_cons_zero]
      refine reg_take 2 (v := .pointer (some ⟨ba, oa + k * 19, none⟩)) rfl rfl (by decide +kernel) rfl (fun _ _ => exec_index_slice rfl rfl rfl Tryz.underlying32 htg htgs hin) hS0 ?_; simp only [List.setIfInBounds_toArray, List.set_cons_succ, List.set_cons_zero]
      refine reg_take 3 (v := .agg (gnA x)) rfl rfl (by decide +kernel) rfl (fun w' h1 => exec_load_mid rfl rfl (load_sameG (fun j v hv => (h1.cell (p := ⟨ba, oa + k * 19 + j, none⟩) ha0).trans (HC.out.1 j v hv)))) hS0 ?_; simp only [List.setIfInBounds_toArray, List.set_cons_succ, List.set_cons_zero]
      (apply reg_take 4 rfl rfl (by decide +kernel) rfl); (rintro w' h1; go_simp; rfl); exact hS0; simp only [List.setIfInBounds_toArray, List.set_cons_succ, List.set_cons_zero]
      (apply reg_take 5 rfl rfl (by decide +kernel) rfl); (rintro w' h1; go_simp; rfl); exact hS0; simp only [List.setIfInBounds_toArray, List.set_cons_succ, List.set_cons_zero]
      refine reg_take 6 (v := .pointer (some ⟨bb, ob + k * 19, none⟩)) rfl rfl (by decide +kernel) rfl (fun _ _ => exec_index_slice rfl rfl rfl Tryz.underlying32 htg htgs hin) hS0 ?_; simp only [List.setIfInBounds_toArray, List.set_cons_succ, List.set_cons_zero]
      refine reg_take 7 (v := .agg (gnA x)) rfl rfl (by decide +kernel) rfl (fun w' h1 => exec_load_mid rfl rfl (load_sameG (fun j v hv => (h1.cell (p := ⟨bb, ob + k * 19 + j, none⟩) hb0).trans (HC.out.2 j v hv)))) hS0 ?_; simp only [List.setIfInBounds_toArray, List.set_cons_succ, List.set_cons_zero]
      refine reg_take 8 (v := .bool false) rfl rfl (by decide +kernel) rfl (fun w' _ => exec_neA guardG rfl rfl rfl (neq_gone hokx w')) hS0 ?_; simp only [List.setIfInBounds_toArray, List.set_cons_succ, List.set_cons_zero]
      refine reg_done (by decide +kernel) ?_
      go_wp2
      go_roundw
      case rel => exact ⟨⟨k + 1, hin, by push_cast; rfl, HD.out⟩⟩
      case measure => simp only [intOf]; omega
    · have hid : decide ((k : Int) < (L.length : Int)) = false := decide_eq_false (by omega)
      go_wp2
      go_ret
      exact ⟨rfl, HBW.out⟩
def digU (x : UInt8) : Array Value := digM (unitL x)
theorem digU_size (x : UInt8) : (digU x).size = 16 := digM_size _
theorem load_sameDs {w : World} {b o : Nat} {x : UInt8} (h : w.rangeAt b o (digU x).toList) : (loadVar TD ⟨b, o, none⟩).run Tryz.prog w = .ok (.agg (digU x)) w := by
  have := run_loadVar_mid (P := Tryz.prog) w b o TD (digU x).toList _ h Tryz.underlying67 rfl (by rw [Array.length_toList, digU_size]; kernel_rfl)
  rwa [Array.toArray_toList] at this
set_option maxRecDepth 20000 in
set_option maxHeartbeats 2000000 in
theorem sameDs_any (va vb : Value) (L : List UInt8) (w : World) (ha : RowsO w va L.length (L.flatMap dgE)) (hb : RowsO w vb L.length (L.flatMap dgE)) :
    Calls Tryz.prog 17 #[va, vb] w fun e w' => e = .returned (.bool true) ∧ Below w.heap.size w w' := by
  obtain ⟨tg, htg, htgs⟩ := Option.map_eq_some_iff.1 (show (Tryz.prog.info? TD).map (·.size) = some 16 from by kernel_rfl)
  have HA := Lib.hid (fun W (h : Below w.heap.size w W) => ha.below h)
  have HB := Lib.hid (fun W (h : Below w.heap.size w W) => hb.below h)
  obtain ⟨ao, ac, rfl, hmx, -⟩ := id ha
  obtain ⟨bo, bc, rfl, -, -⟩ := id hb
  have hL : L.length ≤ 9223372036854775807 := hmx
  have hq : ((L.length : Int) != (L.length : Int)) = false := by simp
  clear ha hb hmx
  go_enter Tryz.func17, Tryz.ntmps17
  go_upto_region 4 with (fail)
  go_loopw [5] (fun i wr => SaS w L.length i wr) (fun i _ => L.length - (intOf i).toNat)
  case atStart => exact ⟨⟨0, Nat.zero_le _, rfl, Below.refl _ _⟩⟩
  case round =>
    obtain ⟨k, hk, rfl, hbw⟩ := hrel.st
    clear hrel
    have HBW := Lib.hid hbw
    clear hbw
    have hk63 : (k : Int) ≤ 9223372036854775807 := by omega
    by_cases hin : k < L.length
    · have hid : decide ((k : Int) < (L.length : Int)) = true := decide_eq_true (by omega)
      have hwk : IntKind.i64.wrap ((k : Int) + 1) = (k : Int) + 1 := IntWalk.i64_in _ (by omega)
      obtain ⟨x, hx⟩ : ∃ x, L[k]? = some x := ⟨_, List.getElem?_eq_getElem hin⟩
      obtain ⟨ba, oa, rfl, ha0, ra⟩ := rows_at dgE_len (HA.out wr HBW.out) hx
      obtain ⟨bb, ob, rfl, hb0, rb⟩ := rows_at dgE_len (HB.out wr HBW.out) hx
      rw [show dgE x = (digU x).toList from rfl] at ra rb
      have HC := Lib.hid (And.intro ra rb)
      have HD := Lib.hid HBW.out.drew
      clear ra rb hx
      go_upto_region 6 with (fail)
      have hS0 : Below wr.heap.size wr wr.drew := (Below.refl _ _).drew
      refine reg_begin (fun w' => Below wr.heap.size wr w') (by kernel_rfl) ?_
      (apply reg_take 0 rfl rfl (by decide +kernel) rfl); (rintro w' h1; go_simp; rfl); exact hS0; simp only [List.setIfInBounds_toArray, List.set_cons_succ, List.set_cons_zero]
      (apply reg_take 1 rfl rfl (by decide +kernel) rfl); (rintro w' h1; go_simp; rfl); exact hS0; simp only [List.setIfInBounds_toArray, List.set_cons_succ, List.set_cons_zero]
      refine reg_take 2 (v := .pointer (some ⟨ba, oa + k * 16, none⟩)) rfl rfl (by decide +kernel) rfl (fun _ _ => exec_index_slice rfl rfl rfl Tryz.underlying40 htg htgs hin) hS0 ?_; simp only [List.setIfInBounds_toArray, List.set_cons_succ, List.set_cons_zero]
      refine reg_take 3 (v := .agg (digU x)) rfl rfl (by decide +kernel) rfl (fun w' h1 => exec_load_mid rfl rfl (load_sameDs (fun j v hv => (h1.cell (p := ⟨ba, oa + k * 16 + j, none⟩) ha0).trans (HC.out.1 j v hv)))) hS0 ?_; simp only [List.setIfInBounds_toArray, List.set_cons_succ, List.set_cons_zero]
      (apply reg_take 4 rfl rfl (by decide +kernel) rfl); (rintro w' h1; go_simp; rfl); exact hS0; simp only [List.setIfInBounds_toArray, List.set_cons_succ, List.set_cons_zero]
      (apply reg_take 5 rfl rfl (by decide +kernel) rfl); (rintro w' h1; go_simp; rfl); exact hS0; simp only [List.setIfInBounds_toArray, List.set_cons_succ, List.set_cons_zero]
      refine reg_take 6 (v := .pointer (some ⟨bb, ob + k * 16, none⟩)) rfl rfl (by decide +kernel) rfl (fun _ _ => exec_index_slice rfl rfl rfl Tryz.underlying40 htg htgs hin) hS0 ?_; simp only [List.setIfInBounds_toArray, List.set_cons_succ, List.set_cons_zero]
      refine reg_take 7 (v := .agg (digU x)) rfl rfl (by decide +kernel) rfl (fun w' h1 => exec_load_mid rfl rfl (load_sameDs (fun j v hv => (h1.cell (p := ⟨bb, ob + k * 16 + j, none⟩) hb0).trans (HC.out.2 j v hv)))) hS0 ?_; simp only [List.setIfInBounds_toArray, List.set_cons_succ, List.set_cons_zero]
      refine reg_take 8 (v := .bool false) rfl rfl (by decide +kernel) rfl (fun w' _ => exec_neA guardD rfl rfl rfl (neq_digM (unitL x) w')) hS0 ?_; simp only [List.setIfInBounds_toArray, List.set_cons_succ, List.set_cons_zero]
      refine reg_done (by decide +kernel) ?_
      go_wp2
      go_roundw
      case rel => exact ⟨⟨k + 1, hin, by push_cast; rfl, HD.out⟩⟩
      case measure => simp only [intOf]; omega
    · have hid : decide ((k : Int) < (L.length : Int)) = false := decide_eq_false (by omega)
      go_wp2
      go_ret
      exact ⟨rfl, HBW.out⟩
end Go.Proofs.YteikbikopgabjaaGreatDoor
