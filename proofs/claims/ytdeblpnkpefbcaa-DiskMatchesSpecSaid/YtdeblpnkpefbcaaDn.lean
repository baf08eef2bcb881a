/- The walks over disk.New and disk.Misdirect. -/
import Derived.Test.YtdeblpnkpefbcaaDk
import Derived.Test.YtdeblpnkpefbcaaRh
namespace Go.Proofs.Ytdeblpnkpefbcaa
open Go.RowKit Go.Sl Go.ChangeMaps

theorem info_TS : (Try.prog.info? TS).map (fun i => (i.zero, i.size, i.bytes)) = some (some (secV zsec), 64, 64) := by kernel_rfl

theorem madeC (n : Nat) : DurC n (fun _ => zsec) (madeCells (secA zsec) (n * 64)) := by
  intro i hi j u hu
  have hj : j < 64 := by have := (List.getElem?_eq_some_iff.1 hu).1; simpa [secL, zsec] using this
  have hsz : secL zsec = List.replicate 64 (byteV 0) := by rw [secL, zsec, List.map_replicate]
  have hz : ∀ x, x < 64 → (secA zsec)[x]! = byteV 0 := by
    intro x hx
    have : (secA zsec)[x]? = some (byteV 0) := by rw [secA, hsz]; rw [List.getElem?_toArray, List.getElem?_replicate, if_pos hx]
    rw [getElem!_def, this]
  have hu' : u = byteV 0 := by
    change (secL zsec)[j]? = some u at hu
    rw [hsz, List.getElem?_replicate, if_pos hj] at hu
    exact (Option.some.inj hu).symm
  subst hu'
  have hs : (secA zsec).size = 64 := by rw [secA_size]; exact zsec_length
  simp only [madeCells, hs]
  rw [Array.getElem?_map, Array.getElem?_range, if_pos (by omega)]
  rw [Option.map_some, hz _ (Nat.mod_lt _ (by omega))]

theorem new_close (m : Nat) (hm : m ≤ 65536) (F : HProp) (w w' : World) (hF : Sat w F) (hown : w'.ownsRow w.heap.size TS 64 (.slice (some ⟨w.heap.size, 0, none⟩) m m) m (madeCells (secA zsec) (m * 64)).toList) (hg : w.grownBy w' none)
    (D : DiskM) (hD : D = { n := m, dur := fun _ => zsec, cache := fun _ => none, armed := fun _ => none }) :
    Same w (((w'.alloc (.map #[] 0)).alloc (.map #[] 0)).alloc (.cells #[.slice (some ⟨w.heap.size, 0, none⟩) m m, .map (some w'.heap.size), .map (some (w'.heap.size + 1))] TD)) ∧
    Sat (((w'.alloc (.map #[] 0)).alloc (.map #[] 0)).alloc (.cells #[.slice (some ⟨w.heap.size, 0, none⟩) m m, .map (some w'.heap.size), .map (some (w'.heap.size + 1))] TD)) (diskAt TD TS (w'.heap.size + 2) D * F) := by
  subst hD
  have hwf : ({ n := m, dur := fun _ => zsec, cache := fun _ => none, armed := fun _ => none } : DiskM).WF :=
    ⟨fun i h => zsec_length, fun i s h => by simp at h, fun i j h => by simp at h, hm⟩
  have hs0 : Same w w' := ⟨hg.os, hg.tape, hg.output, hg.size⟩
  refine ⟨((hs0.alloc _).alloc _).alloc _, ?_⟩
  obtain ⟨hl, hcase⟩ := hown
  rcases hcase with ⟨h, _⟩ | ⟨g, cap, cur, hv, hbase, hgb, h1, h2, h3, h4⟩
  · cases h
  · simp only [Value.slice.injEq, Option.some.injEq, Addr.mk.injEq, and_true, true_and] at hv
    obtain ⟨rfl, rfl⟩ := hv
    have hcur : cur = madeCells (secA zsec) (m * 64) := by
      apply Array.ext'
      rw [← h4, List.take_of_length_le (by simp [h3])]
    subst hcur
    have hS : Sat w' (pts w.heap.size (.cells (madeCells (secA zsec) (m * 64)) TS (0, 0)) * F) := hF.grow (fun k hk => hg.block k hk (by simp)) hgb
    have hdur : Sat w' (durAt TS m (fun _ => zsec) (.slice (some ⟨w.heap.size, 0, none⟩) m m) * F) := by
      by_cases hm0 : m = 0
      · subst hm0; exact durAt_zero.2 ⟨⟨_, _, rfl⟩, hS.right⟩
      · exact (durAt_iff (by omega)).2 ⟨_, _, _, ⟨rfl, Nat.le_refl _, h3, madeC m⟩, hS⟩
    have h5 := ((hdur.alloc (.map #[] 0)).alloc (.map #[] 0)).alloc (.cells #[.slice (some ⟨w.heap.size, 0, none⟩) m m, .map (some w'.heap.size), .map (some (w'.heap.size + 1))] TD)
    simp only [World.size_alloc] at h5
    exact diskAt_iff.2 ⟨.slice (some ⟨w.heap.size, 0, none⟩) m m, w'.heap.size, w'.heap.size + 1, #[], 0, [], #[], 0, [], ⟨hwf, MapL.empty 0, KvSec.nil, MapL.empty 0, KvInt.nil⟩, h5.perm (by ac_rfl)⟩

set_option maxHeartbeats 400000 in
theorem new_any (n : Int) (F : HProp) (w : World) (hF : Sat w F) :
    Calls Try.prog 12 #[.int .i64 n] w fun e w' => ∃ p, e = .returned (.pointer (some ⟨p, 0, none⟩)) ∧ Same w w' ∧ Sat w' (diskAt TD TS p (DiskM.new n) * F) := by
  obtain ⟨i0, hi, hz0, hz1, hz2⟩ := info_parts info_TS
  have hm1 : True := trivial
  have hmm := @run_makeMap Try.prog
  by_cases h0 : n < 0
  · have hD : DiskM.new n = { n := 0, dur := fun _ => zsec, cache := fun _ => none, armed := fun _ => none } := by
      unfold DiskM.new; rw [show (min (max n 0) 65536).toNat = 0 by omega]
    have HD := Lib.hid hD
    clear hD
    go_enter Try.func12, Try.ntmps12
    go_wp2_with (at_make; refine wpList_make_full _ rfl _ _ 61 rfl w.heap.size TS i0 (secV zsec) 64 Try.underlying61 hi hz0 hz1 .i64 .i64 _ _ 0 rfl rfl ?_ ?_ ?_ ?_ ?_ ?_)
    all_goals first | rfl | exact hm1 | omega | (rw [hz2]; omega) | (unfold maxLen; omega) | exact Nat.zero_le _ | exact Nat.le_refl _ | skip
    · intro w' hown hg
      have H := new_close 0 (by omega) F w w' hF hown hg _ HD.out
      have H := Lib.hid H
      clear hown hg hF hmm
      have hmm := @run_makeMap Try.prog
      go_wp2
      go_ret
      exact ⟨_, rfl, H.out⟩
  · by_cases h1 : n ≤ 65536
    · obtain ⟨k, rfl⟩ := Int.eq_ofNat_of_zero_le (show 0 ≤ n by omega)
      have hD : DiskM.new (k : Int) = { n := k, dur := fun _ => zsec, cache := fun _ => none, armed := fun _ => none } := by
        unfold DiskM.new; rw [show (min (max (k : Int) 0) 65536).toNat = k by omega]
      have HD := Lib.hid hD
      clear hD
      go_enter Try.func12, Try.ntmps12
      go_wp2_with (at_make; refine wpList_make_full _ rfl _ _ 61 rfl w.heap.size TS i0 (secV zsec) 64 Try.underlying61 hi hz0 hz1 .i64 .i64 _ _ k rfl rfl ?_ ?_ ?_ ?_ ?_ ?_)
      all_goals first | rfl | exact hm1 | omega | (rw [hz2]; omega) | (unfold maxLen; omega) | exact Nat.zero_le _ | exact Nat.le_refl _ | skip
      · intro w' hown hg
        have H := new_close k (by omega) F w w' hF hown hg _ HD.out
        have H := Lib.hid H
        clear hown hg hF hmm
        have hmm := @run_makeMap Try.prog
        go_wp2
        go_ret
        exact ⟨_, rfl, H.out⟩
    · obtain ⟨m, hm1, hm2⟩ : ∃ m : Nat, (65536 : Int) = (m : Int) ∧ m ≤ 65536 := ⟨65536, by omega, by omega⟩
      have hD : DiskM.new n = { n := m, dur := fun _ => zsec, cache := fun _ => none, armed := fun _ => none } := by
        unfold DiskM.new; rw [show (min (max n 0) 65536).toNat = m by omega]
      have HD := Lib.hid hD
      clear hD
      go_enter Try.func12, Try.ntmps12
      go_wp2_with (at_make; refine wpList_make_full _ rfl _ _ 61 rfl w.heap.size TS i0 (secV zsec) 64 Try.underlying61 hi hz0 hz1 .i64 .i64 _ _ m rfl rfl ?_ ?_ ?_ ?_ ?_ ?_)
      all_goals first | rfl | exact hm1 | omega | (rw [hz2]; omega) | (unfold maxLen; omega) | exact Nat.zero_le _ | exact Nat.le_refl _ | skip
      · intro w' hown hg
        have H := new_close m (by omega) F w w' hF hown hg _ HD.out
        have H := Lib.hid H
        clear hown hg hF hmm
        have hmm := @run_makeMap Try.prog
        go_wp2
        go_ret
        exact ⟨_, rfl, H.out⟩

end Go.Proofs.Ytdeblpnkpefbcaa
