import Derived.Test.YtmcclbiaoeilkaaGreatP01
import Derived.Test.YtmcclbiaoeilkaaGreatP03
import Derived.Test.YtmcclbiaoeilkaaGreatP04
import Derived.Deep.Cut
import Derived.Deep.DeepCutAuto
/- Part 9 of a proof; the last part says what is proved. -/
section
namespace Go.Sl
open Go Go.RowKit
section
variable {P : Program} {ops : Array Oper} {rest : List Oper} {o : Oper} {a : Act} {w : World} {Q : Exit → Act → World → Prop}
theorem exec_alloc_zero {e : TypeId} (ho : o.op = .alloc e) (z : Array Value) (hz : (zeroValue e).run P w = .ok (.agg z) w) :
    (execOp a.eval o).run P w = .ok (.value (.pointer (some ⟨w.heap.size, 0, none⟩))) (w.alloc (.cells z e)) := by
  unfold execOp
  simp [ho, Instr.alloc, hz, newVar, newRow, Value.cells]
theorem exec_store_fresh {ty : TypeId} {x y : Operand} (ho : o.op = .store ty x y) (T : TypeId) (old new : Array Value)
    (hx : a.eval x = .pointer (some ⟨w.heap.size, 0, none⟩)) (hy : a.eval y = .agg new) (hi : (P.info? ty).map (·.size) = some new.size) (hs : new.size = old.size) (h1 : ∀ v ∈ new.toList, v.oneCell' = true) :
    (execOp a.eval o).run P (w.alloc (.cells old T)) = .ok .skip (w.alloc (.cells new T)) := by
  refine exec_store ho hx hy ?_
  have hb : (w.alloc (.cells old T)).heap[w.heap.size]? = some (.cells old T (0, 0)) := heap_alloc_new w _
  have h := run_storeAt_mid (P := P) (w.alloc (.cells old T)) w.heap.size 0 ty new ?_ hi (Array.all_eq_true_iff_forall_mem.2 (fun v hv => h1 v (by simpa using hv)))
  · rw [h]
    rw [setCells_alloc w T new.toList 0 old (by simp; omega)]
    have : (old.toList.take 0 ++ new.toList ++ old.toList.drop (0 + new.toList.length)).toArray = new := by
      simp only [List.take_zero, List.nil_append, Nat.zero_add, Array.length_toList, hs]
      rw [List.drop_of_length_le (by simp)]; simp
    rw [this]
  · intro j hj
    simp only [Nat.zero_add]
    refine ⟨?_, thawed_at hb j⟩
    rw [cells_at hb j]; simp; omega
theorem exec_append {x y : Operand} {t : TypeId} {v u v' : Value} {w' : World} (ho : o.op = .call { callee := .builtin .append, args := #[x, y], argTypes := #[t, t] }) (hx : a.eval x = v) (hy : a.eval y = u)
    (h : (Builtin.append_ #[t, t] o.type #[v, u]).run P w = .ok v' w') : (execOp a.eval o).run P w = .ok (.value v') w' := by
  unfold execOp
  simp only [ho, resolve, invoke, builtin, Sem.run_bind, Sem.run_pure, Result.andThen_ok, List.map_toArray, List.map_cons, List.map_nil, hx, hy, h]
end
def IntsC (w : World) (v : Value) (l : List Int) : Prop := ∃ ao cap, v = .slice ao l.length cap ∧ l.length ≤ cap ∧ (l ≠ [] → ∃ b off, ao = some ⟨b, off, none⟩ ∧ ∀ j x, l[j]? = some x → w.cell? ⟨b, off + j * 1, none⟩ = some (.int .i64 x))
theorem IntsC.at {w : World} {v : Value} {l : List Int} (h : IntsC w v l) : IntsAt w v l := by
  obtain ⟨ao, cap, rfl, _, h⟩ := h; exact ⟨ao, cap, rfl, h⟩
theorem IntsC.nil (w : World) : IntsC w (.slice none 0 0) [] := ⟨none, 0, rfl, Nat.le_refl _, fun h => absurd rfl h⟩
theorem IntsC.drop {w : World} {ao : Option Addr} {cap m : Nat} {l : List Int} (h : IntsC w (.slice ao l.length cap) l) (hm : m ≤ l.length) :
    IntsC w (.slice (if cap = m then ao else ao.map fun x => x.add m) (l.length - m) (cap - m)) (l.drop m) := by
  obtain ⟨ao', cap', he', hc, h3⟩ := h
  simp only [Value.slice.injEq, true_and] at he'
  obtain ⟨rfl, rfl⟩ := he'
  refine ⟨_, _, by rw [List.length_drop], by rw [List.length_drop]; omega, fun hne => ?_⟩
  have hlt : m < l.length := by
    rcases Nat.lt_or_ge m l.length with h | h
    · exact h
    · exact absurd (List.drop_eq_nil_of_le h) hne
  have hne2 : l ≠ [] := by rintro rfl; simp at hlt
  obtain ⟨b, off, rfl, hcell⟩ := h3 hne2
  refine ⟨b, off + m, ?_, fun j x hj => ?_⟩
  · rw [if_neg (by omega)]; simp [Addr.add_mid]
  · rw [List.getElem?_drop] at hj
    have := hcell (m + j) x hj
    rw [show off + m + j * 1 = off + (m + j) * 1 by omega]; exact this
section
variable {P : Program} {v : Value} {l : List Int} {w0 : World} {T e : TypeId}
theorem slice_hi (h : IntsC w0 v l) {m : Nat} (hm : m ≤ l.length) (hT : P.underlying T = some (.slice e)) (he : (P.info? e).map (·.size) = some 1) :
    ∃ v', (∀ w, (Instr.sliceAt T v none (some (.int .i64 (m : Int))) none).run P w = .ok v' w) ∧ ∀ w', IntsC w' v l → IntsC w' v' (l.take m) := by
  obtain ⟨ao, cap, rfl, hc, _⟩ := h
  obtain ⟨ti, hti, hts⟩ := Option.map_eq_some_iff.1 he
  have hmc : m ≤ cap := by omega
  refine ⟨.slice (if cap = 0 then ao else ao.map (·.add (0 * 1))) m cap, fun w => ?_, fun w' h' => ?_⟩
  · simp [Instr.sliceAt, Instr.slice, run_underlying hT, Instr.sliceBounds, Instr.sliceBound, asIntOf, sizeOf, typeInfo, hti, hmc]
  · obtain ⟨ao', cap', he', _, h3⟩ := h'
    simp only [Value.slice.injEq, true_and] at he'
    obtain ⟨rfl, rfl⟩ := he'
    refine ⟨_, _, by rw [List.length_take, Nat.min_eq_left hm], by rw [List.length_take]; omega, fun hne => ?_⟩
    have hne2 : l ≠ [] := by rintro rfl; simp at hne
    obtain ⟨b, off, rfl, hcell⟩ := h3 hne2
    refine ⟨b, off, ?_, fun j x hj => hcell j x ?_⟩
    · split
      · rfl
      · simp [Addr.add_mid]
    · rw [List.getElem?_take] at hj
      split at hj
      · exact hj
      · cases hj
variable {ops : Array Oper} {rest : List Oper} {o : Oper} {a : Act} {w : World} {Q : Exit → Act → World → Prop}
theorem exec_slice_run {x : Operand} {lo hi : Option Operand} {p v' : Value} (ho : o.op = .slice T x lo hi none) (hx : a.eval x = p) (h : (Instr.sliceAt T p (lo.map a.eval) (hi.map a.eval) none).run P w = .ok v' w) : (execOp a.eval o).run P w = .ok (.value v') w := by
  unfold execOp
  simp [ho, hx, h]
end
end Go.Sl
end
section
namespace Go.Proofs.YtmcclbiaoeilkaaGreat
open Go.RowKit Go.Sl Go.ChangeMaps
set_option linter.unusedSimpArgs false in
set_option maxHeartbeats 1000000 in
theorem write_any (p : Nat) (D : DiskM) (F : HProp) (i : Int) (s : List UInt8) (w : World) (hS : Sat w (diskAt TD TS p D * F)) :
    Calls Tryz.prog 93 #[.pointer (some ⟨p, 0, none⟩), .int .i64 i, .string ⟨s.toArray⟩] w fun e w' =>
      e = .returned (.int .i64 (D.write i s).2) ∧ Same w w' ∧ Sat w' (diskAt TD TS p (D.write i s).1 * F) := by
  obtain ⟨v, cb, ab, es, ck, l, es2, ck2, l2, ⟨hwf, hM, hK, hM2, hK2⟩, hs⟩ := diskAt_iff.1 hS
  obtain ⟨b, cap, rfl⟩ := durAt_slice hs.right
  obtain ⟨q0, q1, q2⟩ := disk_cells hs
  have hab : Sat w (pts ab (.map es2 ck2) * (pts p (.cells #[.slice b D.n cap, .map (some cb), .map (some ab)] TD (0, 0)) * (durAt TS D.n D.dur (.slice b D.n cap) * (pts cb (.map es ck) * F)))) := hs.perm (by ac_rfl)
  by_cases h : D.has i = true ∧ s.length = 64
  · have hwr : D.write i s = (D.put i.toNat s, 0) := if_pos h
    rw [hwr]
    clear hwr
    obtain ⟨h, hlen⟩ := h
    have h2 := DiskM.has_iff.1 h
    obtain ⟨k, rfl⟩ := Int.eq_ofNat_of_zero_le h2.1
    have hd : (decide (0 ≤ (k : Int)) && decide ((k : Int) < (D.n : Int))) = true := h
    have hl0 := run_lookup_ok (P := Tryz.prog) (w := w) (E := 3) (z := .int .i64 0) Tryz.underlying90 Tryz.underlying3 (by kernel_rfl) hab.block hM2 (k : Int)
    have hlk0 := hK2 (k : Int)
    rw [if_pos h2.1] at hlk0
    simp only [Int.toNat_natCast] at hlk0
    obtain ⟨es3, ck3, hdel, hM3⟩ := run_delete_kv (P := Tryz.prog) Tryz.underlying90 Tryz.underlying3 hab.block hM2 (k : Int)
    have hc1 := cell?_setMap hab.block es3 ck3
    have hf1 := frozen?_setMap hab.block es3 ck3
    have hsz : (⟨s.toArray⟩ : ByteArray).size = 64 := by show s.toArray.size = 64; simpa using hlen
    have hplt : p < (setBlock w ab (.map es3 ck3)).heap.size := by rw [size_setBlock]; exact hs.lt
    have HM := Lib.hid hM
    have hs1 := (hab.setBlock (o' := .map es3 ck3)).perm (show _ = pts cb (.map es ck) * (pts p (.cells #[.slice b D.n cap, .map (some cb), .map (some ab)] TD (0, 0)) * (durAt TS D.n D.dur (.slice b D.n cap) * (pts ab (.map es3 ck3) * F))) from by ac_rfl)
    have HS1 := Lib.hid hs1
    clear hs1
    have HP := Lib.hid (hwf.put (i := k) (s := s) (by omega) hlen)
    have HK := Lib.hid hK
    have hK2d : KvInt (del l2 (k : Int)) (fupd D.armed k none) := hK2.del hM2.nodup h2.1
    have HK2 := Lib.hid hK2d
    clear hK2d
    have HL := Lib.hid hlen
    have HM3 := Lib.hid hM3
    cases har : D.armed k with
    | none =>
      have HA := Lib.hid har
      rw [har] at hlk0
      rw [hlk0] at hl0
      simp only [Option.map_none, Option.getD_none, Option.isSome_none] at hl0
      clear hlk0 har hK hM hM2 hK2 hwf hs hab hS h hM3 hlen
      go_enter Tryz.func93, Tryz.ntmps93
      go_upto_region 7 with (first
        | (go_at_call 118; refine (has_any _ _ _ _ _ _ q0).mono ?_; rintro e w' ⟨rfl, rfl⟩)
        | (at_delete; apply wpList_delete_run (hrun := hdel); rfl; rfl; rfl; rfl))
      have hk1 : ((k : Int) != -1) = true := by rw [bne_iff_ne]; omega
      go_upto_region 8 with (fail)
      refine reg_begin (fun w' => w'.cell? ⟨p, 1, none⟩ = some (.map (some cb))) (by kernel_rfl) ?_
      (apply reg_take 0 rfl rfl (by decide +kernel) rfl); (intro w' hw'; go_simp; rfl); go_simp; simp only [List.setIfInBounds_toArray, List.set_cons_succ, List.set_cons_zero]
      (apply reg_take 1 rfl rfl (by decide +kernel) rfl); (intro w' hw'; go_simp; rfl); go_simp; simp only [List.setIfInBounds_toArray, List.set_cons_succ, List.set_cons_zero]
      (apply reg_take 2 rfl rfl (by decide +kernel) rfl); (intro w' hw'; go_simp; rfl); go_simp; simp only [List.setIfInBounds_toArray, List.set_cons_succ, List.set_cons_zero]
      (apply reg_take 3 rfl rfl (by decide +kernel) rfl); (intro w' hw'; go_simp; rfl); go_simp; simp only [List.setIfInBounds_toArray, List.set_cons_succ, List.set_cons_zero]
      (apply reg_take 4 rfl rfl (by decide +kernel) rfl); (intro w' hw'; go_simp; rfl); go_simp; simp only [List.setIfInBounds_toArray, List.set_cons_succ, List.set_cons_zero]
      (apply reg_take 5 rfl rfl (by decide +kernel) rfl); (intro w' hw'; go_simp; rfl); go_simp; simp only [List.setIfInBounds_toArray, List.set_cons_succ, List.set_cons_zero]
      obtain ⟨W, cap1, hcv, hra, hbl⟩ := conv_sec HL.out (setBlock w ab (.map es3 ck3)).drew
      have hq1 : W.cell? ⟨p, 1, none⟩ = some (.map (some cb)) := by rw [hbl.cell (p := ⟨p, 1, none⟩) (by simpa using hplt)]; exact (hc1 _).trans q1
      refine reg_run 6 (.slice (some ⟨(setBlock w ab (.map es3 ck3)).heap.size, 0, none⟩) 64 cap1) W rfl rfl (by decide +kernel) rfl (by go_simp) hq1 ?_
      simp only [List.setIfInBounds_toArray, List.set_cons_succ, List.set_cons_zero]
      refine reg_take 7 (v := .pointer (some ⟨(setBlock w ab (.map es3 ck3)).heap.size, 0, none⟩)) rfl rfl (by decide +kernel) rfl (fun _ _ => exec_arrayAt rfl rfl Tryz.underlying153 (Nat.le_refl 64)) hq1 ?_
      simp only [List.setIfInBounds_toArray, List.set_cons_succ, List.set_cons_zero]
      refine reg_run 8 (secV s) W rfl rfl (by decide +kernel) rfl (exec_load rfl rfl (run_loadAt_mid W _ 0 TS (secL s) _ hra Tryz.underlying153 rfl (by rw [infoTS HL.out, secA_size, secL_length]))) hq1 ?_
      simp only [List.setIfInBounds_toArray, List.set_cons_succ, List.set_cons_zero]
      have hSW := (HS1.out.drew.below hbl)
      obtain ⟨es4, ck4, hup, hM4⟩ := run_mapUpdate_kv (P := Tryz.prog) Tryz.underlying128 Tryz.underlying3 hSW.block HM.out (k : Int) (secV s)
      have hq2 : (setBlock W cb (.map es4 ck4)).cell? ⟨p, 1, none⟩ = some (.map (some cb)) := (cell?_setMap hSW.block es4 ck4 _).trans hq1
      refine reg_do 9 (setBlock W cb (.map es4 ck4)) rfl rfl (by decide +kernel) rfl (exec_mapUpdate rfl rfl rfl rfl hup) hq2 ?_
      refine reg_done (by decide +kernel) ?_
      clear hup
      go_wp2
      go_ret
      refine ⟨rfl, ?_, ?_⟩
      · exact ((((Same.refl w).setBlock _).drew).below hbl).setBlock _
      ·
        have e : D.put k s = { D with cache := fupd D.cache k (some s) } := by unfold DiskM.put; rw [HA.out]
        have hP := HP.out
        rw [e] at hP
        have hK2' := HK2.out
        rw [fupd_self HA.out] at hK2'
        rw [Int.toNat_natCast, e]
        exact diskAt_iff.2 ⟨.slice b D.n cap, cb, ab, es4, ck4, _, es3, ck3, _, ⟨hP, hM4, HK.out.upd h2.1 s, HM3.out, hK2'⟩, (hSW.setBlock (o' := .map es4 ck4)).perm (by ac_rfl)⟩
    | some j =>
      have ha := hwf.armed k j har
      by_cases hj : j = -1
      · subst hj
        have HA := Lib.hid har
        rw [har] at hlk0
        rw [hlk0] at hl0
        simp only [Option.map_some, Option.getD_some, Option.isSome_some] at hl0
        clear hlk0 har hK hM hM2 hK2 hwf hs hab hS h hM3 hlen ha
        go_enter Tryz.func93, Tryz.ntmps93
        go_wp2_with (first
          | (go_at_call 118; refine (has_any _ _ _ _ _ _ q0).mono ?_; rintro e w' ⟨rfl, rfl⟩)
          | (at_delete; apply wpList_delete_run (hrun := hdel); rfl; rfl; rfl; rfl))
        go_ret
        refine ⟨rfl, (Same.refl w).setBlock _, ?_⟩
        have e : D.put k s = { D with armed := fupd D.armed k none } := by unfold DiskM.put; rw [HA.out]; simp
        have hP := HP.out
        rw [e] at hP
        rw [Int.toNat_natCast, e]
        exact diskAt_iff.2 ⟨.slice b D.n cap, cb, ab, es, ck, _, es3, ck3, _, ⟨hP, HM.out, HK.out, HM3.out, HK2.out⟩, HS1.out.perm (by ac_rfl)⟩
      have h0j : 0 ≤ j := by omega
      obtain ⟨j, rfl⟩ := Int.eq_ofNat_of_zero_le h0j
      have hk1 : ((j : Int) != -1) = true := by rw [bne_iff_ne]; omega
      have HA := Lib.hid har
      rw [har] at hlk0
      rw [hlk0] at hl0
      simp only [Option.map_some, Option.getD_some, Option.isSome_some] at hl0
      clear hlk0 har hK hM hM2 hK2 hwf hs hab hS h hM3 hlen ha hj
      go_enter Tryz.func93, Tryz.ntmps93
      go_upto_region 7 with (first
        | (go_at_call 118; refine (has_any _ _ _ _ _ _ q0).mono ?_; rintro e w' ⟨rfl, rfl⟩)
        | (at_delete; apply wpList_delete_run (hrun := hdel); rfl; rfl; rfl; rfl))
      
      go_upto_region 8 with (fail)
      refine reg_begin (fun w' => w'.cell? ⟨p, 1, none⟩ = some (.map (some cb))) (by kernel_rfl) ?_
      (apply reg_take 0 rfl rfl (by decide +kernel) rfl); (intro w' hw'; go_simp; rfl); go_simp; simp only [List.setIfInBounds_toArray, List.set_cons_succ, List.set_cons_zero]
      (apply reg_take 1 rfl rfl (by decide +kernel) rfl); (intro w' hw'; go_simp; rfl); go_simp; simp only [List.setIfInBounds_toArray, List.set_cons_succ, List.set_cons_zero]
      (apply reg_take 2 rfl rfl (by decide +kernel) rfl); (intro w' hw'; go_simp; rfl); go_simp; simp only [List.setIfInBounds_toArray, List.set_cons_succ, List.set_cons_zero]
      (apply reg_take 3 rfl rfl (by decide +kernel) rfl); (intro w' hw'; go_simp; rfl); go_simp; simp only [List.setIfInBounds_toArray, List.set_cons_succ, List.set_cons_zero]
      (apply reg_take 4 rfl rfl (by decide +kernel) rfl); (intro w' hw'; go_simp; rfl); go_simp; simp only [List.setIfInBounds_toArray, List.set_cons_succ, List.set_cons_zero]
      (apply reg_take 5 rfl rfl (by decide +kernel) rfl); (intro w' hw'; go_simp; rfl); go_simp; simp only [List.setIfInBounds_toArray, List.set_cons_succ, List.set_cons_zero]
      obtain ⟨W, cap1, hcv, hra, hbl⟩ := conv_sec HL.out (setBlock w ab (.map es3 ck3)).drew
      have hq1 : W.cell? ⟨p, 1, none⟩ = some (.map (some cb)) := by rw [hbl.cell (p := ⟨p, 1, none⟩) (by simpa using hplt)]; exact (hc1 _).trans q1
      refine reg_run 6 (.slice (some ⟨(setBlock w ab (.map es3 ck3)).heap.size, 0, none⟩) 64 cap1) W rfl rfl (by decide +kernel) rfl (by go_simp) hq1 ?_
      simp only [List.setIfInBounds_toArray, List.set_cons_succ, List.set_cons_zero]
      refine reg_take 7 (v := .pointer (some ⟨(setBlock w ab (.map es3 ck3)).heap.size, 0, none⟩)) rfl rfl (by decide +kernel) rfl (fun _ _ => exec_arrayAt rfl rfl Tryz.underlying153 (Nat.le_refl 64)) hq1 ?_
      simp only [List.setIfInBounds_toArray, List.set_cons_succ, List.set_cons_zero]
      refine reg_run 8 (secV s) W rfl rfl (by decide +kernel) rfl (exec_load rfl rfl (run_loadAt_mid W _ 0 TS (secL s) _ hra Tryz.underlying153 rfl (by rw [infoTS HL.out, secA_size, secL_length]))) hq1 ?_
      simp only [List.setIfInBounds_toArray, List.set_cons_succ, List.set_cons_zero]
      have hSW := (HS1.out.drew.below hbl)
      obtain ⟨es4, ck4, hup, hM4⟩ := run_mapUpdate_kv (P := Tryz.prog) Tryz.underlying128 Tryz.underlying3 hSW.block HM.out (j : Int) (secV s)
      have hq2 : (setBlock W cb (.map es4 ck4)).cell? ⟨p, 1, none⟩ = some (.map (some cb)) := (cell?_setMap hSW.block es4 ck4 _).trans hq1
      refine reg_do 9 (setBlock W cb (.map es4 ck4)) rfl rfl (by decide +kernel) rfl (exec_mapUpdate rfl rfl rfl rfl hup) hq2 ?_
      refine reg_done (by decide +kernel) ?_
      clear hup
      go_wp2
      go_ret
      refine ⟨rfl, ?_, ?_⟩
      · exact ((((Same.refl w).setBlock _).drew).below hbl).setBlock _
      ·
        have e : D.put k s = { D with armed := fupd D.armed k none, cache := fupd D.cache j (some s) } := by
          unfold DiskM.put; rw [HA.out]; simp only [show ¬ ((j : Int) = -1) by omega, if_false, Int.toNat_natCast]
        have hP := HP.out
        rw [e] at hP
        rw [Int.toNat_natCast, e]
        exact diskAt_iff.2 ⟨.slice b D.n cap, cb, ab, es4, ck4, _, es3, ck3, _, ⟨hP, hM4, HK.out.upd (by omega) s, HM3.out, HK2.out⟩, (hSW.setBlock (o' := .map es4 ck4)).perm (by ac_rfl)⟩
  · have hwr : D.write i s = (D, 1) := if_neg h
    rw [hwr]
    have HS := Lib.hid hS
    by_cases hh : D.has i = true
    · have hd : (decide (0 ≤ i) && decide (i < (D.n : Int))) = true := hh
      have hsz : ((((⟨s.toArray⟩ : ByteArray).size : Nat) : Int) != 64) = true := by
        rw [bne_iff_ne]
        intro hc
        have : s.toArray.size = 64 := by have : (⟨s.toArray⟩ : ByteArray).size = 64 := by omega
                                         exact this
        exact h ⟨hh, by simpa using this⟩
      obtain ⟨m, hm⟩ : ∃ m, (⟨s.toArray⟩ : ByteArray).size = m := ⟨_, rfl⟩
      rw [hm] at hsz
      clear hwr h hS hs hab hM hK hM2 hK2 hwf hh
      go_enter Tryz.func93, Tryz.ntmps93
      go_wp2_with (go_at_call 118; refine (has_any _ _ _ _ _ _ q0).mono ?_; rintro e w' ⟨rfl, rfl⟩)
      go_ret
      exact ⟨rfl, Same.refl w, HS.out⟩
    · have hd : (decide (0 ≤ i) && decide (i < (D.n : Int))) = false := by simpa [DiskM.has] using hh
      clear hwr h hS hs hab hM hK hM2 hK2 hwf hh
      go_enter Tryz.func93, Tryz.ntmps93
      go_wp2_with (go_at_call 118; refine (has_any _ _ _ _ _ _ q0).mono ?_; rintro e w' ⟨rfl, rfl⟩)
      go_ret
      exact ⟨rfl, Same.refl w, HS.out⟩
end Go.Proofs.YtmcclbiaoeilkaaGreat
end
