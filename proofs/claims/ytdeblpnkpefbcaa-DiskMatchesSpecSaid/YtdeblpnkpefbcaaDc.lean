/- The walk over disk.Clone. -/
import Derived.Test.YtdeblpnkpefbcaaDn
import Derived.Test.YtdeblpnkpefbcaaRh
import Derived.Deep.Cut
import Derived.Shelf.SlMaps.Clone
namespace Go.Proofs.Ytdeblpnkpefbcaa
open Go.RowKit Go.Sl Go.ChangeMaps

set_option maxRecDepth 20000 in
set_option maxHeartbeats 400000 in
theorem mclone_sec (r ck : Nat) (es : Array MapEntry) (w : World) (hb : w.heap[r]? = some (.map es ck)) :
    Calls Try.prog 51 #[.map (some r)] w fun e w' => e = .returned (.map (some w.heap.size)) ∧ w' = w.alloc (.map es ck) := by
  have hq := fun w => run_eql_map_nil_sl (P := Try.prog) w 62 _ _ (some r) Try.underlying62
  go_enter Try.func51, Try.ntmps51
  go_wp2
  rw [run_callFunc_extern Try.func64 (by kernel_rfl) (by kernel_rfl) (by kernel_rfl) (e := Extern.MapsClone.clone) (by kernel_rfl), run_maps_clone_sl w 62 hb]
  simp only [Result.andThen]
  rw [Oper.upon_value]
  go_wp2
  rw [run_typeAssert_map_sl _ 62 20 _ _ _ Try.underlying62]
  simp only [Result.andThen]
  rw [Oper.upon_value]
  go_wp2
  go_ret
  exact ⟨rfl, rfl⟩

set_option maxRecDepth 20000 in
set_option maxHeartbeats 400000 in
theorem mclone_int (r ck : Nat) (es : Array MapEntry) (w : World) (hb : w.heap[r]? = some (.map es ck)) :
    Calls Try.prog 52 #[.map (some r)] w fun e w' => e = .returned (.map (some w.heap.size)) ∧ w' = w.alloc (.map es ck) := by
  have hq := fun w => run_eql_map_nil_sl (P := Try.prog) w 63 _ _ (some r) Try.underlying63
  go_enter Try.func52, Try.ntmps52
  go_wp2
  rw [run_callFunc_extern Try.func64 (by kernel_rfl) (by kernel_rfl) (by kernel_rfl) (e := Extern.MapsClone.clone) (by kernel_rfl), run_maps_clone_sl w 63 hb]
  simp only [Result.andThen]
  rw [Oper.upon_value]
  go_wp2
  rw [run_typeAssert_map_sl _ 63 20 _ _ _ Try.underlying63]
  simp only [Result.andThen]
  rw [Oper.upon_value]
  go_wp2
  go_ret
  exact ⟨rfl, rfl⟩

/-- slices.Clone of the sectors: a new row with the same sectors. -/
theorem sclone_close (n : Nat) (dur : Nat → List UInt8) (dc : Array Value) (xs : List Value) (w w' : World) (v : Value) (hD : DurC n dur dc) (hxs : xs = dc.toList.take (n * 64)) (hl : ∀ i, i < n → (dur i).length = 64)
    (hown : w'.ownsRow w.heap.size TS 64 v n xs) (hk : ∀ k, k < w.heap.size → w'.heap[k]? = w.heap[k]?) (F : HProp) (hF : Sat w F) : Sat w' (durAt TS n dur v * F) := by
  obtain ⟨hlen, hc⟩ := hown
  by_cases hn : n = 0
  · subst hn
    refine durAt_zero.2 ⟨?_, hF.keep hk⟩
    rcases hc with ⟨rfl, _⟩ | ⟨g, cap, cur, rfl, _⟩
    · exact ⟨_, _, rfl⟩
    · exact ⟨_, _, rfl⟩
  · rcases hc with ⟨_, h0⟩ | ⟨g, cap, cur, rfl, hg, hgb, h1, h2, h3, h4⟩
    · exact absurd h0 hn
    · refine (durAt_iff (by omega)).2 ⟨g, cap, cur, ⟨rfl, h1, h3, ?_⟩, hF.growAt hk hg hgb⟩
      intro i hi j u hu
      have hj : j < 64 := by have := (List.getElem?_eq_some_iff.1 hu).1; rw [secL_length, hl i hi] at this; exact this
      have h5 := hD i hi j u hu
      have h6 : (cur.toList.take (n * 64))[i * 64 + j]? = some u := by
        rw [h4, hxs, List.getElem?_take, if_pos (by omega), Array.getElem?_toList]; exact h5
      rw [List.getElem?_take, if_pos (by omega), Array.getElem?_toList] at h6
      exact h6

set_option maxRecDepth 20000 in
set_option maxHeartbeats 400000 in
theorem sclone_any (n cap b : Nat) (dur : Nat → List UInt8) (dc : Array Value) (w : World) (hb : w.heap[b]? = some (.cells dc TS (0, 0))) (hcap : n ≤ cap) (hdc : dc.size = cap * 64) (hD : DurC n dur dc) (hl : ∀ i, i < n → (dur i).length = 64) (hn : 0 < n) (hmax : n ≤ 65536)
    (h1 : ∀ v ∈ dc.toList.take (n * 64), v.oneCell' = true) :
    Calls Try.prog 50 #[.slice (some ⟨b, 0, none⟩) n cap] w fun e w' => ∃ v, e = .returned v ∧ Below w.heap.size w w' ∧ ∀ F, Sat w F → Sat w' (durAt TS n dur v * F) := by
  obtain ⟨ti, hti, hz0, hts, hz2⟩ := info_parts info_TS
  have hlen : (dc.toList.take (n * 64)).length = n * 64 := by rw [List.length_take, Array.length_toList, hdc]; omega
  have hblt : b < w.heap.size := (Array.getElem?_eq_some_iff.1 hb).1
  have hcells : ∀ (ob : Obj) j u, (dc.toList.take (n * 64))[j]? = some u → (w.alloc ob).cell? ((⟨b, 0, none⟩ : Addr).add j) = some u := by
    intro ob j u hu
    rw [Addr.add_mid, World.cell?_alloc_lt _ _ _ hblt, cells_at hb, Nat.zero_add]
    rw [List.getElem?_take] at hu
    split at hu
    · rw [Array.getElem?_toList] at hu; exact hu
    · cases hu
  have hown0 : (w.alloc (.cells #[] TS)).ownsRow w.heap.size TS 64 (.slice (some ⟨w.heap.size, 0, none⟩) 0 0) 0 [] :=
    ⟨rfl, .inr ⟨w.heap.size, 0, #[], rfl, Nat.le_refl _, heap_alloc_new w _, Nat.le_refl _, Nat.zero_le _, rfl, rfl⟩⟩
  have hnn : 0 + n ≤ maxLen := by unfold maxLen; omega
  have hnb : (0 + n) * 64 ≤ 140737488355328 := by omega
  have hq : ∀ w, (binOp .eql 61 (.slice (some ⟨b, 0, none⟩) n cap) (.slice none 0 0)).run Try.prog w = .ok (.bool false) w := fun w => Lib.run_eql_slice_nil w _ _ _ n cap 0 0 Try.underlying61
  have HD := Lib.hid hD
  have HL := Lib.hid hl
  clear hD hl hdc
  go_enter Try.func50, Try.ntmps50
  go_wp2_with (at_builtin; refine wpList_append_own _ rfl _ _ 61 rfl w.heap.size TS ti (secV zsec) 64 64 Try.underlying61 hti hz0 hts hz2 (by kernel_rfl) (by decide) _ _ _ rfl hown0 ⟨b, 0, none⟩ n cap _ rfl hlen (hcells _) h1 hnn hnb (by simp) ?_)
  intro v w1 hown1 hg _
  go_wp2
  go_ret
  have hk : ∀ k, k < w.heap.size → w1.heap[k]? = w.heap[k]? := fun k hk => (hg.block k (by simp; omega) (by simp [Value.ownBlock]; omega)).trans (Below.heap_alloc w _ k hk)
  refine ⟨v, rfl, ⟨hg.os, hg.tape, hg.output, by have := hg.size; simp at this; omega, hk⟩, fun F hF => ?_⟩
  exact sclone_close n dur dc _ w w1 v HD.out rfl HL.out hown1 hk F hF

set_option maxRecDepth 20000 in
set_option maxHeartbeats 400000 in
theorem sclone_zero (bo : Option Addr) (cap : Nat) (dur : Nat → List UInt8) (w : World) :
    Calls Try.prog 50 #[.slice bo 0 cap] w fun e w' => ∃ v, e = .returned v ∧ Below w.heap.size w w' ∧ ∀ F, Sat w F → Sat w' (durAt TS 0 dur v * F) := by
  cases bo with
  | none =>
    have hq : ∀ w, (binOp .eql 61 (.slice none 0 cap) (.slice none 0 0)).run Try.prog w = .ok (.bool true) w := fun w => Lib.run_eql_slice_nil w _ _ _ 0 cap 0 0 Try.underlying61
    go_enter Try.func50, Try.ntmps50
    go_wp2
    go_ret
    exact ⟨_, rfl, Below.refl _ _, fun F hF => durAt_zero.2 ⟨⟨_, _, rfl⟩, hF⟩⟩
  | some ad =>
    obtain ⟨ti, hti, hz0, hts, hz2⟩ := info_parts info_TS
    have hown0 : (w.alloc (.cells #[] TS)).ownsRow w.heap.size TS 64 (.slice (some ⟨w.heap.size, 0, none⟩) 0 0) 0 [] :=
      ⟨rfl, .inr ⟨w.heap.size, 0, #[], rfl, Nat.le_refl _, heap_alloc_new w _, Nat.le_refl _, Nat.zero_le _, rfl, rfl⟩⟩
    have hnn : 0 + 0 ≤ maxLen := by unfold maxLen; omega
    have hnb : (0 + 0) * 64 ≤ 140737488355328 := by omega
    have hq : ∀ w, (binOp .eql 61 (.slice (some ad) 0 cap) (.slice none 0 0)).run Try.prog w = .ok (.bool false) w := fun w => Lib.run_eql_slice_nil w _ _ _ 0 cap 0 0 Try.underlying61
    go_enter Try.func50, Try.ntmps50
    go_wp2_with (at_builtin; refine wpList_append_own _ rfl _ _ 61 rfl w.heap.size TS ti (secV zsec) 64 64 Try.underlying61 hti hz0 hts hz2 (by kernel_rfl) (by decide) _ _ _ rfl hown0 ad 0 cap [] rfl rfl (by simp) (by simp) hnn hnb (by simp) ?_)
    intro v w1 hown1 hg _
    go_wp2
    go_ret
    have hk : ∀ k, k < w.heap.size → w1.heap[k]? = w.heap[k]? := fun k hk => (hg.block k (by simp; omega) (by simp [Value.ownBlock]; omega)).trans (Below.heap_alloc w _ k hk)
    refine ⟨v, rfl, ⟨hg.os, hg.tape, hg.output, by have := hg.size; simp at this; omega, hk⟩, fun F hF => ?_⟩
    exact sclone_close 0 dur #[] _ w w1 v (by intro i hi; omega) rfl (by intro i hi; omega) hown1 hk F hF

set_option linter.unusedSimpArgs false in
set_option maxHeartbeats 1000000 in
theorem clone_any (p : Nat) (D : DiskM) (F : HProp) (w : World) (hS : Sat w (diskAt TD TS p D * F)) :
    Calls Try.prog 31 #[.pointer (some ⟨p, 0, none⟩)] w fun e w' => ∃ q, e = .returned (.pointer (some ⟨q, 0, none⟩)) ∧ Same w w' ∧ Sat w' (diskAt TD TS q D * (diskAt TD TS p D * F)) := by
  obtain ⟨v, cb, ab, es, ck, l, es2, ck2, l2, ⟨hwf, hM, hK, hM2, hK2⟩, hs⟩ := diskAt_iff.1 hS
  obtain ⟨bo, cap, rfl⟩ := durAt_slice hs.right
  obtain ⟨q0, q1, q2⟩ := disk_cells hs
  have hsb := hs.right.right
  have hcb : w.heap[cb]? = some (.map es ck) := hsb.block
  have hab : w.heap[ab]? = some (.map es2 ck2) := hsb.right.block
  have hplt := hs.lt
  have hcblt := (Array.getElem?_eq_some_iff.1 hcb).1
  have hablt := (Array.getElem?_eq_some_iff.1 hab).1
  have c50 : Calls Try.prog 50 #[.slice bo D.n cap] w.drew fun e w' => ∃ v, e = .returned v ∧ Below w.drew.heap.size w.drew w' ∧ ∀ F, Sat w.drew F → Sat w' (durAt TS D.n D.dur v * F) := by
    by_cases hn : D.n = 0
    · rw [hn]; exact sclone_zero bo cap D.dur w.drew
    · have hsd := hs.perm (show _ = durAt TS D.n D.dur (.slice bo D.n cap) * (pts p (.cells #[.slice bo D.n cap, .map (some cb), .map (some ab)] TD (0, 0)) * (pts cb (.map es ck) * (pts ab (.map es2 ck2) * F))) from by ac_rfl)
      obtain ⟨b, cap, dc, ⟨hv, hcap, hdc, hD⟩, hsb⟩ := (durAt_iff (by omega)).1 hsd
      rw [hv]
      have hb := hsb.block
      have h1 : ∀ u ∈ dc.toList.take (D.n * 64), u.oneCell' = true := by
        intro u hu
        obtain ⟨j, hj, rfl⟩ := List.getElem_of_mem hu
        rw [List.length_take] at hj
        have h3 := hD (j / 64) (by omega) (j % 64) _ (secL_at (hwf.dur (j / 64) (by omega)) (Nat.mod_lt _ (by omega)))
        rw [show j / 64 * 64 + j % 64 = j by omega] at h3
        rw [List.getElem_take]
        have h4 : dc[j]? = some dc.toList[j] := by rw [← Array.getElem?_toList, List.getElem?_eq_getElem]
        rw [h4] at h3
        rw [Option.some.inj h3]; rfl
      exact sclone_any D.n cap b D.dur dc w.drew hb hcap hdc hD hwf.dur (by omega) hwf.small h1
  have HS := Lib.hid hS
  have HI := Lib.hid (show D.WF ∧ MapL es ck l ∧ KvSec l D.cache ∧ MapL es2 ck2 l2 ∧ KvInt l2 D.armed from ⟨hwf, hM, hK, hM2, hK2⟩)
  clear hM hK hM2 hK2 hwf hsb hs hS
  go_enter Try.func31, Try.ntmps31
  go_upto_region 1 with (fail)
  have hS0 : w.drew.cell? ⟨p, 0, none⟩ = some (.slice bo D.n cap) ∧ w.drew.cell? ⟨p, 1, none⟩ = some (.map (some cb)) ∧ w.drew.cell? ⟨p, 2, none⟩ = some (.map (some ab)) := ⟨q0, q1, q2⟩
  refine reg_begin (fun w' => w'.cell? ⟨p, 0, none⟩ = some (.slice bo D.n cap) ∧ w'.cell? ⟨p, 1, none⟩ = some (.map (some cb)) ∧ w'.cell? ⟨p, 2, none⟩ = some (.map (some ab))) (by kernel_rfl) ?_
  (apply reg_take 0 rfl rfl (by decide +kernel) rfl); (rintro w' ⟨h1, h2, h3⟩; go_simp; rfl); exact hS0; simp only [List.setIfInBounds_toArray, List.set_cons_succ, List.set_cons_zero]
  (apply reg_take 1 rfl rfl (by decide +kernel) rfl); (rintro w' ⟨h1, h2, h3⟩; go_simp; rfl); exact hS0; simp only [List.setIfInBounds_toArray, List.set_cons_succ, List.set_cons_zero]
  (apply reg_take 2 rfl rfl (by decide +kernel) rfl); (rintro w' ⟨h1, h2, h3⟩; go_simp; rfl); exact hS0; simp only [List.setIfInBounds_toArray, List.set_cons_succ, List.set_cons_zero]
  (apply reg_take 3 rfl rfl (by decide +kernel) rfl); (rintro w' ⟨h1, h2, h3⟩; go_simp; rfl); exact hS0; simp only [List.setIfInBounds_toArray, List.set_cons_succ, List.set_cons_zero]
  (apply reg_take 5 rfl rfl (by decide +kernel) rfl); (rintro w' ⟨h1, h2, h3⟩; go_simp; rfl); exact hS0; simp only [List.setIfInBounds_toArray, List.set_cons_succ, List.set_cons_zero]
  (apply reg_take 6 rfl rfl (by decide +kernel) rfl); (rintro w' ⟨h1, h2, h3⟩; go_simp; rfl); exact hS0; simp only [List.setIfInBounds_toArray, List.set_cons_succ, List.set_cons_zero]
  (apply reg_take 7 rfl rfl (by decide +kernel) rfl); (rintro w' ⟨h1, h2, h3⟩; go_simp; rfl); exact hS0; simp only [List.setIfInBounds_toArray, List.set_cons_succ, List.set_cons_zero]
  (apply reg_take 8 rfl rfl (by decide +kernel) rfl); (rintro w' ⟨h1, h2, h3⟩; go_simp; rfl); exact hS0; simp only [List.setIfInBounds_toArray, List.set_cons_succ, List.set_cons_zero]
  (apply reg_take 10 rfl rfl (by decide +kernel) rfl); (rintro w' ⟨h1, h2, h3⟩; go_simp; rfl); exact hS0; simp only [List.setIfInBounds_toArray, List.set_cons_succ, List.set_cons_zero]
  (apply reg_take 11 rfl rfl (by decide +kernel) rfl); (rintro w' ⟨h1, h2, h3⟩; go_simp; rfl); exact hS0; simp only [List.setIfInBounds_toArray, List.set_cons_succ, List.set_cons_zero]
  (apply reg_take 12 rfl rfl (by decide +kernel) rfl); (rintro w' ⟨h1, h2, h3⟩; go_simp; rfl); exact hS0; simp only [List.setIfInBounds_toArray, List.set_cons_succ, List.set_cons_zero]
  (apply reg_take 13 rfl rfl (by decide +kernel) rfl); (rintro w' ⟨h1, h2, h3⟩; go_simp; rfl); exact hS0; simp only [List.setIfInBounds_toArray, List.set_cons_succ, List.set_cons_zero]
  refine reg_call 4 rfl rfl (by decide +kernel) rfl (f := 50) (args := #[.slice bo D.n cap]) (by kernel_rfl) c50 ?_
  rintro dv W1 ⟨hb1, hd1⟩
  clear c50
  have hS1 : W1.cell? ⟨p, 0, none⟩ = some (.slice bo D.n cap) ∧ W1.cell? ⟨p, 1, none⟩ = some (.map (some cb)) ∧ W1.cell? ⟨p, 2, none⟩ = some (.map (some ab)) :=
    ⟨(hb1.cell (p := ⟨p, 0, none⟩) hplt).trans q0, (hb1.cell (p := ⟨p, 1, none⟩) hplt).trans q1, (hb1.cell (p := ⟨p, 2, none⟩) hplt).trans q2⟩
  refine ⟨hS1, ?_⟩
  simp only [List.setIfInBounds_toArray, List.set_cons_succ, List.set_cons_zero]
  have hcb1 : W1.heap[cb]? = some (.map es ck) := (hb1.block cb hcblt).trans hcb
  have hab1 : W1.heap[ab]? = some (.map es2 ck2) := (hb1.block ab hablt).trans hab
  have hsz1 := hb1.size
  refine reg_call 9 rfl rfl (by decide +kernel) rfl (f := 51) (args := #[.map (some cb)]) (R := fun v w' => v = .map (some W1.heap.size) ∧ w' = W1.alloc (.map es ck)) (by kernel_rfl) ((mclone_sec cb ck es W1 hcb1).mono fun e w' h => ⟨_, h.1, rfl, h.2⟩) ?_
  rintro _ _ ⟨rfl, rfl⟩
  have hp1 : p < W1.heap.size := Nat.lt_of_lt_of_le hplt hsz1
  have hS2 : (W1.alloc (.map es ck)).cell? ⟨p, 0, none⟩ = some (.slice bo D.n cap) ∧ (W1.alloc (.map es ck)).cell? ⟨p, 1, none⟩ = some (.map (some cb)) ∧ (W1.alloc (.map es ck)).cell? ⟨p, 2, none⟩ = some (.map (some ab)) :=
    ⟨(World.cell?_alloc_lt _ _ _ hp1).trans hS1.1, (World.cell?_alloc_lt _ _ _ hp1).trans hS1.2.1, (World.cell?_alloc_lt _ _ _ hp1).trans hS1.2.2⟩
  refine ⟨hS2, ?_⟩
  simp only [List.setIfInBounds_toArray, List.set_cons_succ, List.set_cons_zero]
  have hab2 : (W1.alloc (.map es ck)).heap[ab]? = some (.map es2 ck2) := (Below.heap_alloc W1 _ ab (Nat.lt_of_lt_of_le hablt hsz1)).trans hab1
  refine reg_call 14 rfl rfl (by decide +kernel) rfl (f := 52) (args := #[.map (some ab)]) (R := fun v w' => v = .map (some (W1.heap.size + 1)) ∧ w' = (W1.alloc (.map es ck)).alloc (.map es2 ck2)) (by kernel_rfl) ((mclone_int ab ck2 es2 _ hab2).mono fun e w' h => ⟨_, h.1, by simp, h.2⟩) ?_
  rintro _ _ ⟨rfl, rfl⟩
  have hp2 : p < (W1.alloc (.map es ck)).heap.size := by simp; omega
  have hS3 : ((W1.alloc (.map es ck)).alloc (.map es2 ck2)).cell? ⟨p, 0, none⟩ = some (.slice bo D.n cap) ∧ ((W1.alloc (.map es ck)).alloc (.map es2 ck2)).cell? ⟨p, 1, none⟩ = some (.map (some cb)) ∧ ((W1.alloc (.map es ck)).alloc (.map es2 ck2)).cell? ⟨p, 2, none⟩ = some (.map (some ab)) :=
    ⟨(World.cell?_alloc_lt _ _ _ hp2).trans hS2.1, (World.cell?_alloc_lt _ _ _ hp2).trans hS2.2.1, (World.cell?_alloc_lt _ _ _ hp2).trans hS2.2.2⟩
  refine ⟨hS3, ?_⟩
  simp only [List.setIfInBounds_toArray, List.set_cons_succ, List.set_cons_zero]
  obtain ⟨ao, cc, hdv⟩ : ∃ ao cc, dv = .slice ao D.n cc := by
    have := hd1 _ HS.out
    exact durAt_slice this
  subst hdv
  (apply reg_take 15 rfl rfl (by decide +kernel) rfl); (rintro w' ⟨h1, h2, h3⟩; go_simp; rfl); exact hS3; simp only [List.setIfInBounds_toArray, List.set_cons_succ, List.set_cons_zero]
  have hs4 := (((hd1 _ HS.out).alloc (.map es ck)).alloc (.map es2 ck2)).alloc (.cells #[.slice ao D.n cc, .map (some W1.heap.size), .map (some (W1.heap.size + 1))] TD)
  have hp3 : p < ((W1.alloc (.map es ck)).alloc (.map es2 ck2)).heap.size := by simp; omega
  have hS4 : (((W1.alloc (.map es ck)).alloc (.map es2 ck2)).alloc (.cells #[.slice ao D.n cc, .map (some W1.heap.size), .map (some (W1.heap.size + 1))] TD)).cell? ⟨p, 0, none⟩ = some (.slice bo D.n cap) ∧ (((W1.alloc (.map es ck)).alloc (.map es2 ck2)).alloc (.cells #[.slice ao D.n cc, .map (some W1.heap.size), .map (some (W1.heap.size + 1))] TD)).cell? ⟨p, 1, none⟩ = some (.map (some cb)) ∧ (((W1.alloc (.map es ck)).alloc (.map es2 ck2)).alloc (.cells #[.slice ao D.n cc, .map (some W1.heap.size), .map (some (W1.heap.size + 1))] TD)).cell? ⟨p, 2, none⟩ = some (.map (some ab)) :=
    ⟨(World.cell?_alloc_lt _ _ _ hp3).trans hS3.1, (World.cell?_alloc_lt _ _ _ hp3).trans hS3.2.1, (World.cell?_alloc_lt _ _ _ hp3).trans hS3.2.2⟩
  refine reg_run 16 (.pointer (some ⟨W1.heap.size + 2, 0, none⟩)) (((W1.alloc (.map es ck)).alloc (.map es2 ck2)).alloc (.cells #[.slice ao D.n cc, .map (some W1.heap.size), .map (some (W1.heap.size + 1))] TD)) rfl rfl (by decide +kernel) rfl (by go_simp) (hS4) ?_; simp only [List.setIfInBounds_toArray, List.set_cons_succ, List.set_cons_zero]
  (apply reg_take 17 rfl rfl (by decide +kernel) rfl); (rintro w' ⟨h1, h2, h3⟩; go_simp; rfl); exact hS4; simp only [List.setIfInBounds_toArray, List.set_cons_succ, List.set_cons_zero]
  refine reg_done (by decide +kernel) ?_
  have HF := Lib.hid hs4
  have HB := Lib.hid hb1
  clear hs4 hS0 hS1 hS2 hS3 hS4 hd1 hb1 q0 q1 q2
  go_wp2
  go_ret
  refine ⟨W1.heap.size + 2, rfl, (((((Same.refl w).drew).below HB.out).alloc _).alloc _).alloc _, ?_⟩
  have hf := HF.out
  simp only [World.size_alloc] at hf
  obtain ⟨hwf, hM, hK, hM2, hK2⟩ := HI.out
  exact diskAt_iff.2 ⟨.slice ao D.n cc, W1.heap.size, W1.heap.size + 1, es, ck, l, es2, ck2, l2, ⟨hwf, hM, hK, hM2, hK2⟩, hf.perm (by ac_rfl)⟩

end Go.Proofs.Ytdeblpnkpefbcaa
