/- slices.Clone and slices.Delete at volumes and snapshots; volume.with, volume.without. -/
import Derived.Test.YtednjhlkhecihaaGreatDoorVx
import Derived.Test.YtednjhlkhecihaaGreatDoorVy
import Derived.Lib.SliceRun
namespace Go.Proofs.YtednjhlkhecihaaGreatDoor
open Go.RowKit Go.Vol Go.Sl

theorem info_vol : (Tryz.prog.info? TVol).map (fun i => (i.zero, i.size, i.bytes)) = some (some (.agg #[.int .i64 0, .int .i64 0, .pointer none, .int .i64 0]), 4, 32) := by kernel_rfl
theorem info_snap : (Tryz.prog.info? TSnap).map (fun i => (i.zero, i.size, i.bytes)) = some (some (.agg #[.int .i64 0, .int .i64 0, .pointer none, .int .i64 0, .int .i64 0]), 5, 40) := by kernel_rfl
theorem zero_vol (w : World) : (zeroValue TVol).run Tryz.prog w = .ok (.agg #[.int .i64 0, .int .i64 0, .pointer none, .int .i64 0]) w := by kernel_rfl
theorem zero_snap (w : World) : (zeroValue TSnap).run Tryz.prog w = .ok (.agg #[.int .i64 0, .int .i64 0, .pointer none, .int .i64 0, .int .i64 0]) w := by kernel_rfl

set_option maxRecDepth 20000 in
set_option maxHeartbeats 1000000 in
theorem clonevol_any (v : Value) (n : Nat) (L : List Value) (F : HProp) (w : World) (hv : RowsAt w v n L) (hl : L.length = n * 4) (h1 : ∀ u ∈ L, u.oneCell' = true) (hn : n ≤ 1000) (hF : Sat w F) :
    Calls Tryz.prog 88 #[v] w fun e w' => ∃ v', e = .returned v' ∧ Hid (Same w w' ∧ Sat w' (ownAt TVol 4 v' n L * F)) := by
  obtain ⟨ao, cap, rfl, ⟨hcap, hnil⟩, hmax, hrow⟩ := hv
  obtain ⟨ti, hti, hz0, hts, hz2⟩ := info_parts info_vol
  cases ao with
  | none =>
    obtain rfl := hnil rfl
    obtain rfl : n = 0 := by omega
    obtain rfl : L = [] := List.eq_nil_of_length_eq_zero (by omega)
    have HF := Lib.hid hF
    have hq : ∀ w, (binOp .eql 49 (.slice none 0 0) (.slice none 0 0)).run Tryz.prog w = .ok (.bool true) w := fun w => Lib.run_eql_slice_nil w _ _ _ 0 0 0 0 Tryz.underlying49
    clear hF hrow hcap hl h1
    go_enter Tryz.func88, Tryz.ntmps88
    go_wp2
    go_ret
    exact ⟨_, rfl, Same.refl w, ownAt_nil.2 HF.out⟩
  | some ad =>
    have H1 := Lib.hid (And.intro ((Same.refl w).alloc (.cells #[] TVol)) (show Sat (w.alloc (.cells #[] TVol)) (ownAt TVol 4 (.slice (some ⟨w.heap.size, 0, none⟩) 0 0) 0 [] * F) from ownAt_iff.2 (.inr ⟨w.heap.size, 0, #[], ⟨rfl, Nat.le_refl _, Nat.zero_le _, by simp, by simp, by simp⟩, hF.alloc _⟩)))
    have HC := Lib.hid (show ∀ j u, L[j]? = some u → (w.alloc (.cells #[] TVol)).cell? (ad.add j) = some u from fun j u hu => by
      have h0 : 0 < n := by
        rcases Nat.eq_zero_or_pos n with h | h
        · rw [h, Nat.zero_mul] at hl
          rw [List.eq_nil_of_length_eq_zero hl] at hu; simp at hu
        · exact h
      obtain ⟨b, hb, hlt, hcell⟩ := hrow h0
      obtain rfl : ad = ⟨b, 0, none⟩ := by simpa using hb
      rw [Addr.add_mid, Nat.zero_add, World.cell?_alloc_lt _ _ _ hlt]
      exact hcell j u hu)
    have HL := Lib.hid (And.intro hl h1)
    have hq : ∀ w, (binOp .eql 49 (.slice (some ad) n cap) (.slice none 0 0)).run Tryz.prog w = .ok (.bool false) w := fun w => Lib.run_eql_slice_nil w _ _ _ n cap 0 0 Tryz.underlying49
    clear hF hrow hl h1 hcap hnil
    go_enter Tryz.func88, Tryz.ntmps88
    go_wp2_with (at_builtin; refine wpList_append_ownAt (F := F) rfl _ _ 49 TVol rfl ti _ Tryz.underlying49 hti hz0 hts hz2 rfl H1.out.2 L rfl rfl HL.out.1 HC.out HL.out.2 (by unfold maxLen; omega) (by omega) ?_; intro v' w' h2)
    go_ret
    rw [Nat.zero_add, List.nil_append] at h2
    exact ⟨_, rfl, H1.out.1.trans h2.out.1, h2.out.2⟩

set_option maxRecDepth 20000 in
set_option maxHeartbeats 2000000 in
theorem deletevol_any (v : Value) (n i : Nat) (L : List Value) (F : HProp) (w : World) (hi : i < n) (hn : n ≤ 1000) (hF : Sat w (ownAt TVol 4 v n L * F)) (h1 : ∀ u ∈ L, u.oneCell' = true) :
    Calls Tryz.prog 89 #[v, .int .i64 (i : Int), .int .i64 ((i : Int) + 1)] w fun e w' => ∃ v', e = .returned v' ∧ Hid (Same w w' ∧ Sat w' (ownAt TVol 4 v' (n - 1) (L.take (i * 4) ++ L.drop ((i + 1) * 4)) * F)) := by
  obtain ⟨ti, hti, hz0, hts, hz2⟩ := info_parts info_vol
  rcases ownAt_iff.1 hF with ⟨_, h0, _⟩ | ⟨g, cap, cur, ⟨rfl, hnc, hcm, hcs, htk, hlen⟩, hs⟩
  · omega
  clear hF
  unfold maxLen at hcm
  -- the elements that move
  obtain ⟨news, hnews⟩ : ∃ news, news = L.drop ((i + 1) * 4) := ⟨_, rfl⟩
  have hnl : news.length = (n - (i + 1)) * 4 := by rw [hnews, List.length_drop, hlen]; omega
  have hLat : ∀ j u, L[j]? = some u → w.cell? ⟨g, j, none⟩ = some u := fun j u hu => by
    rw [cells_at hs.block, ← Array.getElem?_toList]
    rw [← htk, List.getElem?_take] at hu
    split at hu
    · exact hu
    · cases hu
  obtain ⟨A, hA⟩ : ∃ A : Addr, A = (if cap = i + 1 then (⟨g, 0, none⟩ : Addr) else ⟨g, 0 + (i + 1) * 4, none⟩) := ⟨_, rfl⟩
  have hsrc : ∀ t u, news[t]? = some u → w.cell? (A.add t) = some u := by
    intro t u hu
    by_cases h : cap = i + 1
    · have h0 : news.length = 0 := by rw [hnl]; omega
      rw [List.length_eq_zero_iff.1 h0] at hu
      simp at hu
    · rw [hA, if_neg h, Addr.add_mid, Nat.zero_add]
      rw [hnews, List.getElem?_drop] at hu
      exact hLat _ u hu
  have hap := fun ty => run_append_room (P := Tryz.prog) (w := w.drew) 49 ty TVol ti Tryz.underlying49 hti g i cap cur hs.block A (n - (i + 1)) (cap - (i + 1)) news (by rw [hts]; exact hnl) hsrc (fun u hu => h1 u (by rw [hnews] at hu; exact List.mem_of_mem_drop hu)) (by omega) (by rw [hts, hnl, hcs]; omega)
  rw [hts, hnl, show i + (n - (i + 1)) = n - 1 by omega] at hap
  obtain ⟨c1, hc1⟩ : ∃ c1 : Array Value, c1 = (cur.toList.take (i * 4) ++ news ++ cur.toList.drop (i * 4 + (n - (i + 1)) * 4)).toArray := ⟨_, rfl⟩
  rw [← hc1] at hap
  have hc1s : c1.size = cap * 4 := by
    rw [hc1]
    simp only [List.size_toArray, List.length_append, List.length_take, List.length_drop, Array.length_toList, hnl, hcs]
    omega
  have hs1 : Sat (w.drew.setRow g c1) (pts g (.cells c1 TVol (0, 0)) * F) := hs.drew.setRow
  have hLi : (cur.toList.take (i * 4)) = L.take (i * 4) := by
    rw [← htk, List.take_take, Nat.min_eq_left (by omega)]
  have hc1t : c1.toList.take ((n - 1) * 4) = L.take (i * 4) ++ L.drop ((i + 1) * 4) := by
    rw [hc1]
    show List.take _ (cur.toList.take (i * 4) ++ news ++ _) = _
    rw [hLi, ← hnews]
    have : (L.take (i * 4) ++ news).length = (n - 1) * 4 := by rw [List.length_append, List.length_take, hnl, hlen]; omega
    rw [← this]
    exact List.take_left
  have hzl : (Builtin.zeroCells (Value.agg #[.int .i64 0, .int .i64 0, .pointer none, .int .i64 0]).cells 1).toList.length = 1 * (Value.agg #[.int .i64 0, .int .i64 0, .pointer none, .int .i64 0]).cells.size := by simp [Builtin.zeroCells]
  have hcl := fun ty c => run_clear_row (P := Tryz.prog) (w := w.drew.setRow g c1) 49 TVol ty (.agg #[.int .i64 0, .int .i64 0, .pointer none, .int .i64 0]) Tryz.underlying49 zero_vol g ((n - 1) * 4) 1 c c1 hs1.block (by omega) hzl (by rw [hc1s]; show _ + 1 * 4 ≤ _; omega) (by decide +kernel)
  obtain ⟨c2, hc2⟩ : ∃ c2 : Array Value, c2 = (c1.toList.take ((n - 1) * 4) ++ (Builtin.zeroCells (Value.agg #[.int .i64 0, .int .i64 0, .pointer none, .int .i64 0]).cells 1).toList ++ c1.toList.drop ((n - 1) * 4 + 1 * (Value.agg #[.int .i64 0, .int .i64 0, .pointer none, .int .i64 0]).cells.size)).toArray := ⟨_, rfl⟩
  rw [← hc2] at hcl
  have hs2 : Sat ((w.drew.setRow g c1).setRow g c2) (pts g (.cells c2 TVol (0, 0)) * F) := hs1.setRow
  have hout : Sat ((w.drew.setRow g c1).setRow g c2) (ownAt TVol 4 (.slice (some ⟨g, 0, none⟩) (n - 1) cap) (n - 1) (L.take (i * 4) ++ L.drop ((i + 1) * 4)) * F) := by
    refine ownAt_iff.2 (.inr ⟨g, cap, c2, ⟨rfl, by omega, by unfold maxLen; omega, ?_, ?_, ?_⟩, hs2⟩)
    · rw [hc2]
      simp only [List.size_toArray, List.length_append, List.length_take, List.length_drop, hzl, Array.length_toList, hc1s]
      show _ + 1 * 4 + (_ - (_ + 1 * 4)) = _
      omega
    · rw [hc2]
      show List.take _ (c1.toList.take ((n - 1) * 4) ++ _ ++ _) = _
      rw [hc1t, List.append_assoc]
      have : (L.take (i * 4) ++ L.drop ((i + 1) * 4)).length = (n - 1) * 4 := by rw [List.length_append, List.length_take, List.length_drop, hlen]; omega
      rw [← this]
      exact List.take_left
    · rw [List.length_append, List.length_take, List.length_drop, hlen]; omega
  have hsm : Same w ((w.drew.setRow g c1).setRow g c2) := (((Same.refl w).drew).setRow g c1).setRow g c2
  have HOUT := Lib.hid (And.intro hsm hout)
  have HAP := Lib.hid hap
  have HCL := Lib.hid hcl
  have HA := Lib.hid hA
  clear hap hcl hA hsm hout hs1 hs2 hc1 hc2 hc1t hLi hc1s hzl hsrc hnews hnl hLat htk hcs hs h1 hlen
  have hin : i + 1 ≤ n := hi
  have hic : ¬ (cap = i) := by omega
  have hii : ((i : Int) == (i : Int) + 1) = false := beq_eq_false_iff_ne.2 (by omega)
  have hee : (Tryz.prog.info? TVol).map (·.size) = some 4 := by rw [hti, Option.map_some, hts]
  have s1 := fun w' => run_sl_hi (P := Tryz.prog) (T := 49) (e := TVol) Tryz.underlying49 hee g 0 n cap i (by omega) w'
  have s2 := fun w' => run_sl_lo (P := Tryz.prog) (T := 49) (e := TVol) Tryz.underlying49 hee g 0 n cap (i + 1) (by omega) w'
  have s3 := fun w' => run_sl_both (P := Tryz.prog) (T := 49) (e := TVol) Tryz.underlying49 hee g 0 (n - 1) cap (n - 1) n (by omega) (by omega) w'
  simp only [← HA.out, show ((i + 1 : Nat) : Int) = (i : Int) + 1 by omega] at s2
  rw [if_neg (show ¬ cap = n - 1 by omega), show n - (n - 1) = 1 by omega, Nat.zero_add] at s3
  have S1 := Lib.hid s1
  have S2 := Lib.hid s2
  have S3 := Lib.hid s3
  clear s1 s2 s3 HA
  have hn1 : ((n - 1 : Nat) : Int) ≤ (n : Int) := by omega
  go_enter Tryz.func89, Tryz.ntmps89
  go_upto_region 5 with (fail)
  clear hii
  refine reg_begin (fun _ => True) (by kernel_rfl) ?_
  (apply reg_take 0 rfl rfl (by decide +kernel) rfl); (intro w' _; go_simp; rfl); exact trivial; simp only [List.setIfInBounds_toArray, List.set_cons_succ, List.set_cons_zero]
  (apply reg_take 1 rfl rfl (by decide +kernel) rfl); (intro w' _; go_simp; rfl); exact trivial; simp only [List.setIfInBounds_toArray, List.set_cons_succ, List.set_cons_zero]
  refine reg_take 2 (v := .slice (some ⟨g, 0, none⟩) i cap) rfl rfl (by decide +kernel) rfl (fun w' _ => exec_sl_run rfl rfl (S1.out w')) trivial ?_; simp only [List.setIfInBounds_toArray, List.set_cons_succ, List.set_cons_zero]
  (apply reg_take 3 rfl rfl (by decide +kernel) rfl); (intro w' _; go_simp; rfl); exact trivial; simp only [List.setIfInBounds_toArray, List.set_cons_succ, List.set_cons_zero]
  (apply reg_take 4 rfl rfl (by decide +kernel) rfl); (intro w' _; go_simp; rfl); exact trivial; simp only [List.setIfInBounds_toArray, List.set_cons_succ, List.set_cons_zero]
  refine reg_take 5 (v := .slice (some A) (n - (i + 1)) (cap - (i + 1))) rfl rfl (by decide +kernel) rfl (fun w' _ => exec_sl_run rfl rfl (S2.out w')) trivial ?_; simp only [List.setIfInBounds_toArray, List.set_cons_succ, List.set_cons_zero]
  refine reg_run 6 (.slice (some ⟨g, 0, none⟩) (n - 1) cap) (w.drew.setRow g c1) rfl rfl (by decide +kernel) rfl (exec_append_row _ _ _ _ rfl rfl rfl (HAP.out _)) (trivial) ?_; simp only [List.setIfInBounds_toArray, List.set_cons_succ, List.set_cons_zero]
  (apply reg_take 7 rfl rfl (by decide +kernel) rfl); (intro w' _; go_simp; rfl); exact trivial; simp only [List.setIfInBounds_toArray, List.set_cons_zero]
  refine reg_done (by decide +kernel) ?_
  have hcl0 := HCL.out 0 (cap - (n - 1))
  go_wp2_with (refine wpList_run rfl (exec_sl_run rfl rfl (S3.out _)) ?_)
  go_ret
  exact ⟨_, rfl, HOUT.out⟩

set_option maxRecDepth 20000 in
set_option maxHeartbeats 1000000 in
theorem clonesnap_any (v : Value) (n : Nat) (L : List Value) (F : HProp) (w : World) (hv : RowsAt w v n L) (hl : L.length = n * 5) (h1 : ∀ u ∈ L, u.oneCell' = true) (hn : n ≤ 1000) (hF : Sat w F) :
    Calls Tryz.prog 68 #[v] w fun e w' => ∃ v', e = .returned v' ∧ Hid (Same w w' ∧ Sat w' (ownAt TSnap 5 v' n L * F)) := by
  obtain ⟨ao, cap, rfl, ⟨hcap, hnil⟩, hmax, hrow⟩ := hv
  obtain ⟨ti, hti, hz0, hts, hz2⟩ := info_parts info_snap
  cases ao with
  | none =>
    obtain rfl := hnil rfl
    obtain rfl : n = 0 := by omega
    obtain rfl : L = [] := List.eq_nil_of_length_eq_zero (by omega)
    have HF := Lib.hid hF
    have hq : ∀ w, (binOp .eql 50 (.slice none 0 0) (.slice none 0 0)).run Tryz.prog w = .ok (.bool true) w := fun w => Lib.run_eql_slice_nil w _ _ _ 0 0 0 0 Tryz.underlying50
    clear hF hrow hcap hl h1
    go_enter Tryz.func68, Tryz.ntmps68
    go_wp2
    go_ret
    exact ⟨_, rfl, Same.refl w, ownAt_nil.2 HF.out⟩
  | some ad =>
    have H1 := Lib.hid (And.intro ((Same.refl w).alloc (.cells #[] TSnap)) (show Sat (w.alloc (.cells #[] TSnap)) (ownAt TSnap 5 (.slice (some ⟨w.heap.size, 0, none⟩) 0 0) 0 [] * F) from ownAt_iff.2 (.inr ⟨w.heap.size, 0, #[], ⟨rfl, Nat.le_refl _, Nat.zero_le _, by simp, by simp, by simp⟩, hF.alloc _⟩)))
    have HC := Lib.hid (show ∀ j u, L[j]? = some u → (w.alloc (.cells #[] TSnap)).cell? (ad.add j) = some u from fun j u hu => by
      have h0 : 0 < n := by
        rcases Nat.eq_zero_or_pos n with h | h
        · rw [h, Nat.zero_mul] at hl
          rw [List.eq_nil_of_length_eq_zero hl] at hu; simp at hu
        · exact h
      obtain ⟨b, hb, hlt, hcell⟩ := hrow h0
      obtain rfl : ad = ⟨b, 0, none⟩ := by simpa using hb
      rw [Addr.add_mid, Nat.zero_add, World.cell?_alloc_lt _ _ _ hlt]
      exact hcell j u hu)
    have HL := Lib.hid (And.intro hl h1)
    have hq : ∀ w, (binOp .eql 50 (.slice (some ad) n cap) (.slice none 0 0)).run Tryz.prog w = .ok (.bool false) w := fun w => Lib.run_eql_slice_nil w _ _ _ n cap 0 0 Tryz.underlying50
    clear hF hrow hl h1 hcap hnil
    go_enter Tryz.func68, Tryz.ntmps68
    go_wp2_with (at_builtin; refine wpList_append_ownAt (F := F) rfl _ _ 50 TSnap rfl ti _ Tryz.underlying50 hti hz0 hts hz2 rfl H1.out.2 L rfl rfl HL.out.1 HC.out HL.out.2 (by unfold maxLen; omega) (by omega) ?_; intro v' w' h2)
    go_ret
    rw [Nat.zero_add, List.nil_append] at h2
    exact ⟨_, rfl, H1.out.1.trans h2.out.1, h2.out.2⟩

set_option maxRecDepth 20000 in
set_option maxHeartbeats 2000000 in
theorem deletesnap_any (v : Value) (n i : Nat) (L : List Value) (F : HProp) (w : World) (hi : i < n) (hn : n ≤ 1000) (hF : Sat w (ownAt TSnap 5 v n L * F)) (h1 : ∀ u ∈ L, u.oneCell' = true) :
    Calls Tryz.prog 96 #[v, .int .i64 (i : Int), .int .i64 ((i : Int) + 1)] w fun e w' => ∃ v', e = .returned v' ∧ Hid (Same w w' ∧ Sat w' (ownAt TSnap 5 v' (n - 1) (L.take (i * 5) ++ L.drop ((i + 1) * 5)) * F)) := by
  obtain ⟨ti, hti, hz0, hts, hz2⟩ := info_parts info_snap
  rcases ownAt_iff.1 hF with ⟨_, h0, _⟩ | ⟨g, cap, cur, ⟨rfl, hnc, hcm, hcs, htk, hlen⟩, hs⟩
  · omega
  clear hF
  unfold maxLen at hcm
  -- the elements that move
  obtain ⟨news, hnews⟩ : ∃ news, news = L.drop ((i + 1) * 5) := ⟨_, rfl⟩
  have hnl : news.length = (n - (i + 1)) * 5 := by rw [hnews, List.length_drop, hlen]; omega
  have hLat : ∀ j u, L[j]? = some u → w.cell? ⟨g, j, none⟩ = some u := fun j u hu => by
    rw [cells_at hs.block, ← Array.getElem?_toList]
    rw [← htk, List.getElem?_take] at hu
    split at hu
    · exact hu
    · cases hu
  obtain ⟨A, hA⟩ : ∃ A : Addr, A = (if cap = i + 1 then (⟨g, 0, none⟩ : Addr) else ⟨g, 0 + (i + 1) * 5, none⟩) := ⟨_, rfl⟩
  have hsrc : ∀ t u, news[t]? = some u → w.cell? (A.add t) = some u := by
    intro t u hu
    by_cases h : cap = i + 1
    · have h0 : news.length = 0 := by rw [hnl]; omega
      rw [List.length_eq_zero_iff.1 h0] at hu
      simp at hu
    · rw [hA, if_neg h, Addr.add_mid, Nat.zero_add]
      rw [hnews, List.getElem?_drop] at hu
      exact hLat _ u hu
  have hap := fun ty => run_append_room (P := Tryz.prog) (w := w.drew) 50 ty TSnap ti Tryz.underlying50 hti g i cap cur hs.block A (n - (i + 1)) (cap - (i + 1)) news (by rw [hts]; exact hnl) hsrc (fun u hu => h1 u (by rw [hnews] at hu; exact List.mem_of_mem_drop hu)) (by omega) (by rw [hts, hnl, hcs]; omega)
  rw [hts, hnl, show i + (n - (i + 1)) = n - 1 by omega] at hap
  obtain ⟨c1, hc1⟩ : ∃ c1 : Array Value, c1 = (cur.toList.take (i * 5) ++ news ++ cur.toList.drop (i * 5 + (n - (i + 1)) * 5)).toArray := ⟨_, rfl⟩
  rw [← hc1] at hap
  have hc1s : c1.size = cap * 5 := by
    rw [hc1]
    simp only [List.size_toArray, List.length_append, List.length_take, List.length_drop, Array.length_toList, hnl, hcs]
    omega
  have hs1 : Sat (w.drew.setRow g c1) (pts g (.cells c1 TSnap (0, 0)) * F) := hs.drew.setRow
  have hLi : (cur.toList.take (i * 5)) = L.take (i * 5) := by
    rw [← htk, List.take_take, Nat.min_eq_left (by omega)]
  have hc1t : c1.toList.take ((n - 1) * 5) = L.take (i * 5) ++ L.drop ((i + 1) * 5) := by
    rw [hc1]
    show List.take _ (cur.toList.take (i * 5) ++ news ++ _) = _
    rw [hLi, ← hnews]
    have : (L.take (i * 5) ++ news).length = (n - 1) * 5 := by rw [List.length_append, List.length_take, hnl, hlen]; omega
    rw [← this]
    exact List.take_left
  have hzl : (Builtin.zeroCells (Value.agg #[.int .i64 0, .int .i64 0, .pointer none, .int .i64 0, .int .i64 0]).cells 1).toList.length = 1 * (Value.agg #[.int .i64 0, .int .i64 0, .pointer none, .int .i64 0, .int .i64 0]).cells.size := by simp [Builtin.zeroCells]
  have hcl := fun ty c => run_clear_row (P := Tryz.prog) (w := w.drew.setRow g c1) 50 TSnap ty (.agg #[.int .i64 0, .int .i64 0, .pointer none, .int .i64 0, .int .i64 0]) Tryz.underlying50 zero_snap g ((n - 1) * 5) 1 c c1 hs1.block (by omega) hzl (by rw [hc1s]; show _ + 1 * 5 ≤ _; omega) (by decide +kernel)
  obtain ⟨c2, hc2⟩ : ∃ c2 : Array Value, c2 = (c1.toList.take ((n - 1) * 5) ++ (Builtin.zeroCells (Value.agg #[.int .i64 0, .int .i64 0, .pointer none, .int .i64 0, .int .i64 0]).cells 1).toList ++ c1.toList.drop ((n - 1) * 5 + 1 * (Value.agg #[.int .i64 0, .int .i64 0, .pointer none, .int .i64 0, .int .i64 0]).cells.size)).toArray := ⟨_, rfl⟩
  rw [← hc2] at hcl
  have hs2 : Sat ((w.drew.setRow g c1).setRow g c2) (pts g (.cells c2 TSnap (0, 0)) * F) := hs1.setRow
  have hout : Sat ((w.drew.setRow g c1).setRow g c2) (ownAt TSnap 5 (.slice (some ⟨g, 0, none⟩) (n - 1) cap) (n - 1) (L.take (i * 5) ++ L.drop ((i + 1) * 5)) * F) := by
    refine ownAt_iff.2 (.inr ⟨g, cap, c2, ⟨rfl, by omega, by unfold maxLen; omega, ?_, ?_, ?_⟩, hs2⟩)
    · rw [hc2]
      simp only [List.size_toArray, List.length_append, List.length_take, List.length_drop, hzl, Array.length_toList, hc1s]
      show _ + 1 * 5 + (_ - (_ + 1 * 5)) = _
      omega
    · rw [hc2]
      show List.take _ (c1.toList.take ((n - 1) * 5) ++ _ ++ _) = _
      rw [hc1t, List.append_assoc]
      have : (L.take (i * 5) ++ L.drop ((i + 1) * 5)).length = (n - 1) * 5 := by rw [List.length_append, List.length_take, List.length_drop, hlen]; omega
      rw [← this]
      exact List.take_left
    · rw [List.length_append, List.length_take, List.length_drop, hlen]; omega
  have hsm : Same w ((w.drew.setRow g c1).setRow g c2) := (((Same.refl w).drew).setRow g c1).setRow g c2
  have HOUT := Lib.hid (And.intro hsm hout)
  have HAP := Lib.hid hap
  have HCL := Lib.hid hcl
  have HA := Lib.hid hA
  clear hap hcl hA hsm hout hs1 hs2 hc1 hc2 hc1t hLi hc1s hzl hsrc hnews hnl hLat htk hcs hs h1 hlen
  have hin : i + 1 ≤ n := hi
  have hic : ¬ (cap = i) := by omega
  have hii : ((i : Int) == (i : Int) + 1) = false := beq_eq_false_iff_ne.2 (by omega)
  have hee : (Tryz.prog.info? TSnap).map (·.size) = some 5 := by rw [hti, Option.map_some, hts]
  have s1 := fun w' => run_sl_hi (P := Tryz.prog) (T := 50) (e := TSnap) Tryz.underlying50 hee g 0 n cap i (by omega) w'
  have s2 := fun w' => run_sl_lo (P := Tryz.prog) (T := 50) (e := TSnap) Tryz.underlying50 hee g 0 n cap (i + 1) (by omega) w'
  have s3 := fun w' => run_sl_both (P := Tryz.prog) (T := 50) (e := TSnap) Tryz.underlying50 hee g 0 (n - 1) cap (n - 1) n (by omega) (by omega) w'
  simp only [← HA.out, show ((i + 1 : Nat) : Int) = (i : Int) + 1 by omega] at s2
  rw [if_neg (show ¬ cap = n - 1 by omega), show n - (n - 1) = 1 by omega, Nat.zero_add] at s3
  have S1 := Lib.hid s1
  have S2 := Lib.hid s2
  have S3 := Lib.hid s3
  clear s1 s2 s3 HA
  have hn1 : ((n - 1 : Nat) : Int) ≤ (n : Int) := by omega
  go_enter Tryz.func96, Tryz.ntmps96
  go_upto_region 5 with (fail)
  clear hii
  refine reg_begin (fun _ => True) (by kernel_rfl) ?_
  (apply reg_take 0 rfl rfl (by decide +kernel) rfl); (intro w' _; go_simp; rfl); exact trivial; simp only [List.setIfInBounds_toArray, List.set_cons_succ, List.set_cons_zero]
  (apply reg_take 1 rfl rfl (by decide +kernel) rfl); (intro w' _; go_simp; rfl); exact trivial; simp only [List.setIfInBounds_toArray, List.set_cons_succ, List.set_cons_zero]
  refine reg_take 2 (v := .slice (some ⟨g, 0, none⟩) i cap) rfl rfl (by decide +kernel) rfl (fun w' _ => exec_sl_run rfl rfl (S1.out w')) trivial ?_; simp only [List.setIfInBounds_toArray, List.set_cons_succ, List.set_cons_zero]
  (apply reg_take 3 rfl rfl (by decide +kernel) rfl); (intro w' _; go_simp; rfl); exact trivial; simp only [List.setIfInBounds_toArray, List.set_cons_succ, List.set_cons_zero]
  (apply reg_take 4 rfl rfl (by decide +kernel) rfl); (intro w' _; go_simp; rfl); exact trivial; simp only [List.setIfInBounds_toArray, List.set_cons_succ, List.set_cons_zero]
  refine reg_take 5 (v := .slice (some A) (n - (i + 1)) (cap - (i + 1))) rfl rfl (by decide +kernel) rfl (fun w' _ => exec_sl_run rfl rfl (S2.out w')) trivial ?_; simp only [List.setIfInBounds_toArray, List.set_cons_succ, List.set_cons_zero]
  refine reg_run 6 (.slice (some ⟨g, 0, none⟩) (n - 1) cap) (w.drew.setRow g c1) rfl rfl (by decide +kernel) rfl (exec_append_row _ _ _ _ rfl rfl rfl (HAP.out _)) (trivial) ?_; simp only [List.setIfInBounds_toArray, List.set_cons_succ, List.set_cons_zero]
  (apply reg_take 7 rfl rfl (by decide +kernel) rfl); (intro w' _; go_simp; rfl); exact trivial; simp only [List.setIfInBounds_toArray, List.set_cons_zero]
  refine reg_done (by decide +kernel) ?_
  have hcl0 := HCL.out 0 (cap - (n - 1))
  go_wp2_with (refine wpList_run rfl (exec_sl_run rfl rfl (S3.out _)) ?_)
  go_ret
  exact ⟨_, rfl, HOUT.out⟩

end Go.Proofs.YtednjhlkhecihaaGreatDoor
