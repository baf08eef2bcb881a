/- slices.Insert of one element, at volumes and snapshots. -/
import Derived.Test.YtednjhlkhecihaaGreatDoorVf
import Derived.Lib.AppendZerosOnto
import Derived.Lib.Overlaps
import Derived.Laws.Externs
namespace Go.Proofs.YtednjhlkhecihaaGreatDoor
open Go.RowKit Go.Vol Go.Sl

theorem run_add_i64 (t : TypeId) (a b : Int) (h : -9223372036854775808 ≤ a + b ∧ a + b ≤ 9223372036854775807) (w : World) : (binOp .add t (.int .i64 a) (.int .i64 b)).run Tryz.prog w = .ok (.int .i64 (a + b)) w := by
  have e : (binOp .add t (.int .i64 a) (.int .i64 b)).run Tryz.prog w = .ok (.int .i64 (IntKind.i64.wrap (a + b))) w := rfl
  rw [e, IntWalk.i64_in _ (by omega)]
theorem ins_shift {L xs cur : List Value} {k i n : Nat} (hxl : xs.length = k) (hL : L.length = n * k) (hi : i < n) (ht : cur.take (n * k) = L) (hc : (n + 1) * k ≤ cur.length) :
    let c1 := cur.take ((i + 1) * k) ++ L.drop (i * k) ++ cur.drop ((i + 1) * k + (n - i) * k)
    (c1.take (i * k) ++ xs ++ c1.drop (i * k + k)).take ((n + 1) * k) = L.take (i * k) ++ xs ++ L.drop (i * k) := by
  intro c1
  have e1 : (i + 1) * k = i * k + k := by rw [Nat.add_mul, Nat.one_mul]
  have e2 : (n + 1) * k = n * k + k := by rw [Nat.add_mul, Nat.one_mul]
  have hik : i * k + k ≤ n * k := by rw [← e1]; exact Nat.mul_le_mul_right _ hi
  have en : (n - i) * k = n * k - i * k := by rw [Nat.sub_mul]
  have t1 : c1.take (i * k) = L.take (i * k) := by
    show (cur.take ((i + 1) * k) ++ L.drop (i * k) ++ _).take (i * k) = _
    rw [List.append_assoc, List.take_append_of_le_length (by rw [List.length_take]; omega), List.take_take, Nat.min_eq_left (by omega), ← ht, List.take_take, Nat.min_eq_left (by omega)]
  have t2 : c1.drop (i * k + k) = L.drop (i * k) ++ cur.drop ((i + 1) * k + (n - i) * k) := by
    show (cur.take ((i + 1) * k) ++ L.drop (i * k) ++ _).drop (i * k + k) = _
    have hl : (cur.take ((i + 1) * k)).length = i * k + k := by rw [List.length_take]; omega
    rw [List.append_assoc, ← hl, List.drop_left]
  rw [t1, t2, ← List.append_assoc]
  have hl : (L.take (i * k) ++ xs ++ L.drop (i * k)).length = (n + 1) * k := by rw [List.length_append, List.length_append, List.length_take, List.length_drop, hL, hxl]; omega
  rw [← hl]
  exact List.take_left
theorem ins_grow {L xs z : List Value} {k i n : Nat} (hxl : xs.length = k) (hL : L.length = n * k) (hi : i < n) :
    let c0 := L.take (i * k) ++ z
    let c1 := c0.take (i * k) ++ xs ++ c0.drop (i * k + k)
    (c1.take ((i + 1) * k) ++ L.drop (i * k) ++ c1.drop ((i + 1) * k + (n - i) * k)).take ((n + 1) * k) = L.take (i * k) ++ xs ++ L.drop (i * k) := by
  intro c0 c1
  have e1 : (i + 1) * k = i * k + k := by rw [Nat.add_mul, Nat.one_mul]
  have e2 : (n + 1) * k = n * k + k := by rw [Nat.add_mul, Nat.one_mul]
  have hik : i * k + k ≤ n * k := by rw [← e1]; exact Nat.mul_le_mul_right _ hi
  have hlt : (L.take (i * k)).length = i * k := by rw [List.length_take]; omega
  have t0 : c0.take (i * k) = L.take (i * k) := by
    show (L.take (i * k) ++ z).take (i * k) = _
    rw [List.take_append_of_le_length (by omega), List.take_take, Nat.min_self]
  have t1 : c1.take ((i + 1) * k) = L.take (i * k) ++ xs := by
    show (c0.take (i * k) ++ xs ++ _).take ((i + 1) * k) = _
    rw [t0]
    have hl : (L.take (i * k) ++ xs).length = (i + 1) * k := by rw [List.length_append, hlt, hxl]; omega
    rw [← hl]; exact List.take_left
  rw [t1]
  have hl : (L.take (i * k) ++ xs ++ L.drop (i * k)).length = (n + 1) * k := by rw [List.length_append, List.length_append, hlt, List.length_drop, hL, hxl]; omega
  rw [← hl]
  exact List.take_left

set_option maxRecDepth 20000 in
set_option maxHeartbeats 2000000 in
theorem insendvol_any (s : Value) (n : Nat) (L xs : List Value) (vb : Nat) (F : HProp) (w : World) (hn : n ≤ 1000) (hF : Sat w (ownAt TVol 4 s n L * (pts vb (.cells xs.toArray TVol (0, 0)) * F))) (hxl : xs.length = 4) (h1x : ∀ u ∈ xs, u.oneCell' = true) :
    Calls Tryz.prog 87 #[s, .int .i64 (n : Int), .slice (some ⟨vb, 0, none⟩) 1 1] w fun e w' => ∃ s', e = .returned s' ∧ Hid (Same w w' ∧ Sat w' (ownAt TVol 4 s' (n + 1) (L ++ xs) * (pts vb (.cells xs.toArray TVol (0, 0)) * F))) := by
  obtain ⟨ti, hti, hz0, hts, hz2⟩ := info_parts info_vol
  have hee : (Tryz.prog.info? TVol).map (·.size) = some 4 := by rw [hti, Option.map_some, hts]
  have HX := Lib.hid (show ∀ j u, xs[j]? = some u → w.cell? ((⟨vb, 0, none⟩ : Addr).add j) = some u from fun j u hu => by
    rw [Addr.add_mid, Nat.zero_add, cells_at hF.right.block, List.getElem?_toArray]; exact hu)
  have H1 := Lib.hid hF
  have HL := Lib.hid (And.intro hxl h1x)
  have hnn : ((n : Int) == (n : Int)) = true := by simp
  rcases ownAt_iff.1 hF with ⟨rfl, rfl, rfl, _⟩ | ⟨g, cap, cur, ⟨rfl, hnc, hcm, hcs, htk, hlen⟩, hs⟩
  · clear hF hee hxl h1x
    go_enter Tryz.func87, Tryz.ntmps87
    go_wp2_with (at_builtin; refine wpList_append_ownAt (F := (pts vb (.cells xs.toArray TVol (0, 0)) * F)) rfl _ _ 49 TVol rfl ti _ Tryz.underlying49 hti hz0 hts hz2 rfl H1.out xs rfl rfl (by rw [HL.out.1]) HX.out HL.out.2 (by unfold maxLen; omega) (by omega) ?_; intro v' w' h2)
    go_ret
    exact ⟨_, rfl, h2.out⟩
  · have S1 := Lib.hid (fun w' => run_sl_lo (P := Tryz.prog) (T := 49) (e := TVol) Tryz.underlying49 hee g 0 n cap n (Nat.le_refl _) w')
    clear hF hee hxl h1x hs hlen htk hcs hcm
    go_enter Tryz.func87, Tryz.ntmps87
    go_wp2_with (first
      | ((with_reducible (refine wpList_sl ?_ 49 (.tmp 10) (some (.tmp 11)) none ?_ ?_ ?_ ?_ (S1.out _) ?_)); rfl; rfl; rfl; rfl; rfl)
      | (at_builtin; refine wpList_append_ownAt (F := (pts vb (.cells xs.toArray TVol (0, 0)) * F)) rfl _ _ 49 TVol rfl ti _ Tryz.underlying49 hti hz0 hts hz2 rfl H1.out xs rfl rfl (by rw [HL.out.1]) HX.out HL.out.2 (by unfold maxLen; omega) (by omega) ?_; intro v' w' h2))
    all_goals
      go_ret
      exact ⟨_, rfl, h2.out⟩

set_option maxRecDepth 20000 in
set_option maxHeartbeats 4000000 in
theorem insmidvol_any (s : Value) (n i : Nat) (L xs : List Value) (vb : Nat) (F : HProp) (w : World) (hi : i < n) (hn : n ≤ 1000) (hF : Sat w (ownAt TVol 4 s n L * (pts vb (.cells xs.toArray TVol (0, 0)) * F))) (hxl : xs.length = 4) (h1 : ∀ u ∈ L, u.oneCell' = true) (h1x : ∀ u ∈ xs, u.oneCell' = true) :
    Calls Tryz.prog 87 #[s, .int .i64 (i : Int), .slice (some ⟨vb, 0, none⟩) 1 1] w fun e w' => ∃ s', e = .returned s' ∧ Hid (Same w w' ∧ Sat w' (ownAt TVol 4 s' (n + 1) (L.take (i * 4) ++ xs ++ L.drop (i * 4)) * (pts vb (.cells xs.toArray TVol (0, 0)) * F))) := by
  obtain ⟨ti, hti, hz0, hts, hz2⟩ := info_parts info_vol
  have hee : (Tryz.prog.info? TVol).map (·.size) = some 4 := by rw [hti, Option.map_some, hts]
  rcases ownAt_iff.1 hF with ⟨_, h0, _⟩ | ⟨g, cap, cur, ⟨rfl, hnc, hcm, hcs, htk, hlen⟩, hs⟩
  · omega
  clear hF
  have hne : ((i : Int) == (n : Int)) = false := beq_eq_false_iff_ne.2 (by omega)
  have hb1 : (i : Int) ≤ 1000 := by omega
  have hb2 : (n : Int) ≤ 1000 := by omega
  have hcL : ∀ (W : World) (R : HProp), Sat W (pts g (.cells cur TVol (0, 0)) * R) → ∀ j u, L[j]? = some u → W.cell? ⟨g, j, none⟩ = some u := fun W R hW j u hu => by
    rw [cells_at hW.block, ← Array.getElem?_toList]
    rw [← htk, List.getElem?_take] at hu
    split at hu
    · exact hu
    · cases hu
  have hvx : ∀ (W : World) (R : HProp), Sat W (pts vb (.cells xs.toArray TVol (0, 0)) * R) → ∀ j u, xs[j]? = some u → W.cell? ((⟨vb, 0, none⟩ : Addr).add j) = some u := fun W R hW j u hu => by
    rw [Addr.add_mid, Nat.zero_add, cells_at hW.block, List.getElem?_toArray]; exact hu
  have S1 := Lib.hid (fun w' => run_sl_lo (P := Tryz.prog) (T := 49) (e := TVol) Tryz.underlying49 hee g 0 n cap i (by omega) w')
  have hdl : (L.drop (i * 4)).length = (n - i) * 4 := by rw [List.length_drop, hlen]; omega
  by_cases hroom : n + 1 ≤ cap
  · -- there is room
    have hrd : decide ((cap : Int) < (n : Int) + 1) = false := decide_eq_false (by omega)
    have S2 := Lib.hid (show ∀ w', (Instr.sliceAt 49 (.slice (some ⟨g, 0, none⟩) n cap) none (some (.int .i64 ((n : Int) + 1))) none).run Tryz.prog w' = .ok (.slice (some ⟨g, 0, none⟩) (n + 1) cap) w' from fun w' => run_sl_hi (P := Tryz.prog) (T := 49) (e := TVol) Tryz.underlying49 hee g 0 n cap (n + 1) hroom w')
    have s3 : ∀ w', (Instr.sliceAt 49 (.slice (some ⟨g, 0, none⟩) (n + 1) cap) (some (.int .i64 ((i : Int) + 1))) none none).run Tryz.prog w' = .ok (.slice (some ⟨g, (i + 1) * 4, none⟩) (n - i) (cap - (i + 1))) w' := fun w' => by
      have := run_sl_lo (P := Tryz.prog) (T := 49) (e := TVol) Tryz.underlying49 hee g 0 (n + 1) cap (i + 1) (by omega) w'
      rw [if_neg (by omega), Nat.zero_add, show n + 1 - (i + 1) = n - i by omega] at this
      exact this
    have s4 : ∀ w', (Instr.sliceAt 49 (.slice (some ⟨g, 0, none⟩) (n + 1) cap) (some (.int .i64 (i : Int))) none none).run Tryz.prog w' = .ok (.slice (some ⟨g, i * 4, none⟩) (n + 1 - i) (cap - i)) w' := fun w' => by
      have := run_sl_lo (P := Tryz.prog) (T := 49) (e := TVol) Tryz.underlying49 hee g 0 (n + 1) cap i (by omega) w'
      rw [if_neg (by omega), Nat.zero_add] at this
      exact this
    have S3 := Lib.hid s3
    have S4 := Lib.hid s4
    clear s3 s4
    obtain ⟨c1, hc1⟩ : ∃ c1 : Array Value, c1 = (cur.toList.take ((i + 1) * 4) ++ L.drop (i * 4) ++ cur.toList.drop ((i + 1) * 4 + (L.drop (i * 4)).length)).toArray := ⟨_, rfl⟩
    obtain ⟨c2, hc2⟩ : ∃ c2 : Array Value, c2 = (c1.toList.take (i * 4) ++ xs ++ c1.toList.drop (i * 4 + xs.length)).toArray := ⟨_, rfl⟩
    have hcp1 := fun ty dc sc => run_copy_rowK (P := Tryz.prog) (w := w.drew) 49 49 ty TVol ti Tryz.underlying49 hti g ((i + 1) * 4) (n - i) dc ⟨g, i * 4, none⟩ (n + 1 - i) sc (n - i) cur (L.drop (i * 4)) hs.block (by show min _ _ = _; omega) (by rw [hts]; exact hdl)
      (fun j u hu => by rw [Addr.add_mid]; rw [List.getElem?_drop] at hu; exact hcL w.drew _ hs.drew _ u hu) (by rw [hdl, hcs]; omega) (fun u hu => h1 u (List.mem_of_mem_drop hu))
    rw [← hc1] at hcp1
    have hs1 : Sat (w.drew.setRow g c1) (pts g (.cells c1 TVol (0, 0)) * (pts vb (.cells xs.toArray TVol (0, 0)) * F)) := hs.drew.setRow
    have hc1s : c1.size = cap * 4 := by
      rw [hc1]
      simp only [List.size_toArray, List.length_append, List.length_take, Array.length_toList, hdl, hcs]
      rw [List.length_drop, Array.length_toList, hcs]
      omega
    have hcp2 := fun ty dc => run_copy_rowK (P := Tryz.prog) (w := w.drew.setRow g c1) 49 49 ty TVol ti Tryz.underlying49 hti g (i * 4) (n + 1 - i) dc ⟨vb, 0, none⟩ 1 1 1 c1 xs hs1.block (by show min _ _ = _; omega) (by rw [hts, hxl])
      (hvx _ _ hs1.right) (by rw [hxl, hc1s]; omega) h1x
    rw [← hc2] at hcp2
    have hs2 : Sat ((w.drew.setRow g c1).setRow g c2) (pts g (.cells c2 TVol (0, 0)) * (pts vb (.cells xs.toArray TVol (0, 0)) * F)) := hs1.setRow
    have hout : Sat ((w.drew.setRow g c1).setRow g c2) (ownAt TVol 4 (.slice (some ⟨g, 0, none⟩) (n + 1) cap) (n + 1) (L.take (i * 4) ++ xs ++ L.drop (i * 4)) * (pts vb (.cells xs.toArray TVol (0, 0)) * F)) := by
      refine ownAt_iff.2 (.inr ⟨g, cap, c2, ⟨rfl, hroom, hcm, ?_, ?_, ?_⟩, hs2⟩)
      · rw [hc2]
        simp only [List.size_toArray, List.length_append, List.length_take, Array.length_toList, hc1s, hxl]
        rw [List.length_drop, Array.length_toList, hc1s]
        omega
      · rw [hc2]
        show List.take _ (c1.toList.take (i * 4) ++ xs ++ c1.toList.drop (i * 4 + xs.length)) = _
        rw [hc1, hdl, hxl]
        exact ins_shift hxl hlen hi htk (by rw [Array.length_toList, hcs]; exact Nat.mul_le_mul_right _ hroom)
      · rw [List.length_append, List.length_append, List.length_take, List.length_drop, hlen, hxl]; omega
    have HOUT := Lib.hid (And.intro ((((Same.refl w).drew).setRow g c1).setRow g c2) hout)
    have HCP1 := Lib.hid hcp1
    have HCP2 := Lib.hid hcp2
    have hvg : vb ≠ g := by
      have := hs
      intro h; subst h
      exact (Sat.ne hs) rfl
    have HOV := Lib.hid (show ∀ lc, (callFunc 102 #[.slice (some ⟨vb, 0, none⟩) 1 1, .slice (some ⟨g, (i + 1) * 4, none⟩) (n - i) lc]).run Tryz.prog w = .ok (.value (.bool false)) w from fun lc => by
      have hsa : w.shape? vb = some (TVol, xs.length) := by simp [World.shape?, hs.right.block]
      have hsb : w.shape? g = some (TVol, cur.size) := by simp [World.shape?, hs.block]
      rw [run_callFunc_extern Tryz.func102 (by kernel_rfl) (by kernel_rfl) (by kernel_rfl) (e := Extern.SlicesOverlaps.overlaps #[49, 49] #[4]) (by kernel_rfl),
        Lib.run_overlaps_apart w 49 4 TVol Tryz.underlying49 4 (fun w => by kernel_rfl) ⟨vb, 0, none⟩ ⟨g, (i + 1) * 4, none⟩ 1 1 (n - i) lc hvg TVol TVol xs.length cur.size hsa hsb (by rw [hcs]; omega) (thawed_at hs.right.block 0) (thawed_at hs.right.block _)]
      rfl)
    clear hs1 hs2 hout hcp1 hcp2 hc1 hc2 hc1s hcL hvx hs h1 h1x hlen htk hcs hdl hxl hee hvg hcm
    have hov := HOV.out (cap - (i + 1))
    go_enter Tryz.func87, Tryz.ntmps87
    go_upto_region 15 with (first
      | ((with_reducible (refine wpList_sl ?_ 49 (.tmp 10) (some (.tmp 11)) none ?_ ?_ ?_ ?_ (S1.out _) ?_)); rfl; rfl; rfl; rfl; rfl)
      | ((with_reducible (refine wpList_sl ?_ 49 (.tmp 56) none (some (.tmp 59)) ?_ ?_ ?_ ?_ (S2.out _) ?_)); rfl; rfl; rfl; rfl; rfl)
      | ((with_reducible (refine wpList_sl ?_ 49 (.tmp 62) (some (.tmp 65)) none ?_ ?_ ?_ ?_ (S3.out _) ?_)); rfl; rfl; rfl; rfl; rfl))
    clear hov
    refine reg_begin (fun _ => True) (by kernel_rfl) ?_
    (apply reg_take 0 rfl rfl (by decide +kernel) rfl); (intro w' _; go_simp; rfl); exact trivial; simp only [List.setIfInBounds_toArray, List.set_cons_succ, List.set_cons_zero]
    (apply reg_take 1 rfl rfl (by decide +kernel) rfl); (intro w' _; go_simp; rfl); exact trivial; simp only [List.setIfInBounds_toArray, List.set_cons_succ, List.set_cons_zero]
    (apply reg_take 2 rfl rfl (by decide +kernel) rfl); (intro w' _; go_simp; rfl); exact trivial; simp only [List.setIfInBounds_toArray, List.set_cons_succ, List.set_cons_zero]
    refine reg_take 3 (v := .int .i64 ((i : Int) + 1)) rfl rfl (by decide +kernel) rfl (fun w' _ => exec_binop rfl rfl rfl rfl (run_add_i64 _ _ _ (by omega) w')) trivial ?_; simp only [List.setIfInBounds_toArray, List.set_cons_succ, List.set_cons_zero]
    refine reg_take 4 (v := .slice (some ⟨g, (i + 1) * 4, none⟩) (n - i) (cap - (i + 1))) rfl rfl (by decide +kernel) rfl (fun w' _ => exec_sl_run rfl rfl (S3.out w')) trivial ?_; simp only [List.setIfInBounds_toArray, List.set_cons_succ, List.set_cons_zero]
    (apply reg_take 5 rfl rfl (by decide +kernel) rfl); (intro w' _; go_simp; rfl); exact trivial; simp only [List.setIfInBounds_toArray, List.set_cons_succ, List.set_cons_zero]
    (apply reg_take 6 rfl rfl (by decide +kernel) rfl); (intro w' _; go_simp; rfl); exact trivial; simp only [List.setIfInBounds_toArray, List.set_cons_succ, List.set_cons_zero]
    refine reg_take 7 (v := .slice (some ⟨g, i * 4, none⟩) (n + 1 - i) (cap - i)) rfl rfl (by decide +kernel) rfl (fun w' _ => exec_sl_run rfl rfl (S4.out w')) trivial ?_; simp only [List.setIfInBounds_toArray, List.set_cons_succ, List.set_cons_zero]
    refine reg_run 8 (goInt ((n - i : Nat) : Int)) (w.drew.setRow g c1) rfl rfl (by decide +kernel) rfl (exec_copy_row _ _ _ _ rfl rfl rfl (HCP1.out _ _ _)) (trivial) ?_; simp only [List.setIfInBounds_toArray, List.set_cons_succ, List.set_cons_zero]
    refine reg_done (by decide +kernel) ?_
    have hcp2 := HCP2.out 3 (cap - i)
    go_wp2_with ((with_reducible (refine wpList_sl ?_ 49 (.tmp 78) (some (.tmp 79)) none ?_ ?_ ?_ ?_ (S4.out _) ?_)); rfl; rfl; rfl; rfl; rfl)
    go_ret
    exact ⟨.slice (some ⟨g, 0, none⟩) (n + 1) cap, rfl, HOUT.out.1, by rw [← List.append_assoc]; exact HOUT.out.2⟩
  · -- no room: a new row
    obtain rfl : cap = n := by omega
    have hrd : decide ((cap : Int) < (cap : Int) + 1) = true := decide_eq_true (by omega)
    obtain ⟨G, hG⟩ : ∃ G, G = grownCap w (cap + 1) cap TVol := ⟨_, rfl⟩
    have hGn : cap + 1 ≤ G := by rw [hG]; exact grownCap_ge w _ _ _
    have hGm : G ≤ maxLen := by rw [hG]; exact grownCap_le_maxLen w _ _ _ (by unfold maxLen; omega)
    have S2 := Lib.hid (fun w' => run_sl_hi (P := Tryz.prog) (T := 49) (e := TVol) Tryz.underlying49 hee g 0 cap cap i (by omega) w')
    obtain ⟨zl, hzl⟩ : ∃ zl : List Value, zl = (Builtin.zeroCells (Value.cells (.agg #[.int .i64 0, .int .i64 0, .pointer none, .int .i64 0])) (cap + 1 - i) ++ Builtin.zeroCells (Value.cells (.agg #[.int .i64 0, .int .i64 0, .pointer none, .int .i64 0])) (G - (cap + 1))).toList := ⟨_, rfl⟩
    have hzll : zl.length = (G - i) * 4 := by
      rw [hzl]
      simp only [Builtin.zeroCells, Array.toList_append, Array.toList_map, List.length_append, List.length_map, Array.length_toList, Array.size_range]
      show (cap + 1 - i) * 4 + (G - (cap + 1)) * 4 = _
      omega
    obtain ⟨row, hrow⟩ : ∃ row : Array Value, row = (L.take (i * 4) ++ zl).toArray := ⟨_, rfl⟩
    have hrs : row.size = G * 4 := by
      rw [hrow]
      simp only [List.size_toArray, List.length_append, List.length_take, hzll, hlen]
      omega
    have hap : ∀ ty, (Builtin.append_ #[49, 3] ty #[.slice (some ⟨g, 0, none⟩) i cap, .int .i64 ((cap : Int) + 1 - (i : Int))]).run Tryz.prog w = .ok (.slice (some ⟨w.heap.size, 0, none⟩) (cap + 1) G) (w.drew.alloc (.cells row TVol)) := fun ty => by
      have hold : (Builtin.firstCells ti.size i (.slice (some ⟨g, 0, none⟩) i cap)).run Tryz.prog w.drew = .ok (L.take (i * 4)).toArray w.drew := by
        rw [hts]
        exact run_firstCells_some (P := Tryz.prog) w.drew 4 i ⟨g, 0, none⟩ i cap (L.take (i * 4)) (by rw [List.length_take, hlen]; omega) (fun j u hu => by
          rw [Addr.add_mid, Nat.zero_add]
          rw [List.getElem?_take] at hu
          split at hu
          · exact hcL w.drew _ hs.drew j u hu
          · cases hu)
      have h := Lib.run_append_grow_zeros (P := Tryz.prog) w 49 3 ty TVol ti _ .i64 .i64 Tryz.underlying49 Tryz.underlying3 hti hz0 (some ⟨g, 0, none⟩) i cap (L.take (i * 4)) hold (cap + 1 - i) (by omega) (by rw [hts]; omega) (by omega) (by omega) (by rw [hz2]; omega) (growslice_fits (by omega) (by rw [hz2]; omega))
      rw [show i + (cap + 1 - i) = cap + 1 by omega, ← hG, show (((cap + 1 - i : Nat)) : Int) = (cap : Int) + 1 - (i : Int) by omega] at h
      rw [h, hrow, hzl]
      congr 3
      apply Array.ext'
      simp
    have hs1 : Sat (w.drew.alloc (.cells row TVol)) (pts w.heap.size (.cells row TVol (0, 0)) * (pts g (.cells cur TVol (0, 0)) * (pts vb (.cells xs.toArray TVol (0, 0)) * F))) := hs.drew.alloc _
    have hsm1 : Same w (w.drew.alloc (.cells row TVol)) := ((Same.refl w).drew).alloc _
    generalize w.drew.alloc (.cells row TVol) = W1 at hap hs1 hsm1
    generalize w.heap.size = B at hap hs1
    have s3 : ∀ w', (Instr.sliceAt 49 (.slice (some ⟨B, 0, none⟩) (cap + 1) G) (some (.int .i64 ((i : Int) + 1))) none none).run Tryz.prog w' = .ok (.slice (some ⟨B, (i + 1) * 4, none⟩) (cap - i) (G - (i + 1))) w' := fun w' => by
      have := run_sl_lo (P := Tryz.prog) (T := 49) (e := TVol) Tryz.underlying49 hee B 0 (cap + 1) G (i + 1) (by omega) w'
      rw [if_neg (by omega), Nat.zero_add, show cap + 1 - (i + 1) = cap - i by omega] at this
      exact this
    have s4 : ∀ w', (Instr.sliceAt 49 (.slice (some ⟨B, 0, none⟩) (cap + 1) G) (some (.int .i64 (i : Int))) none none).run Tryz.prog w' = .ok (.slice (some ⟨B, i * 4, none⟩) (cap + 1 - i) (G - i)) w' := fun w' => by
      have := run_sl_lo (P := Tryz.prog) (T := 49) (e := TVol) Tryz.underlying49 hee B 0 (cap + 1) G i (by omega) w'
      rw [if_neg (by omega), Nat.zero_add] at this
      exact this
    have s5 : ∀ w', (Instr.sliceAt 49 (.slice (some ⟨g, 0, none⟩) cap cap) (some (.int .i64 (i : Int))) none none).run Tryz.prog w' = .ok (.slice (some ⟨g, i * 4, none⟩) (cap - i) (cap - i)) w' := fun w' => by
      have := S1.out w'
      rw [if_neg (by omega), Nat.zero_add] at this
      exact this
    have S3 := Lib.hid s3
    have S4 := Lib.hid s4
    have S5 := Lib.hid s5
    clear s3 s4 s5
    obtain ⟨c1, hc1⟩ : ∃ c1 : Array Value, c1 = (row.toList.take (i * 4) ++ xs ++ row.toList.drop (i * 4 + xs.length)).toArray := ⟨_, rfl⟩
    obtain ⟨c2, hc2⟩ : ∃ c2 : Array Value, c2 = (c1.toList.take ((i + 1) * 4) ++ L.drop (i * 4) ++ c1.toList.drop ((i + 1) * 4 + (L.drop (i * 4)).length)).toArray := ⟨_, rfl⟩
    have hcp1 := fun ty dc => run_copy_rowK (P := Tryz.prog) (w := W1) 49 49 ty TVol ti Tryz.underlying49 hti B (i * 4) (cap + 1 - i) dc ⟨vb, 0, none⟩ 1 1 1 row xs hs1.block (by show min _ _ = _; omega) (by rw [hts, hxl])
      (hvx _ _ hs1.right.right) (by rw [hxl, hrs]; omega) h1x
    rw [← hc1] at hcp1
    have hs2 : Sat (W1.setRow B c1) (pts B (.cells c1 TVol (0, 0)) * (pts g (.cells cur TVol (0, 0)) * (pts vb (.cells xs.toArray TVol (0, 0)) * F))) := hs1.setRow
    have hc1s : c1.size = G * 4 := by
      rw [hc1]
      simp only [List.size_toArray, List.length_append, List.length_take, Array.length_toList, hrs, hxl]
      rw [List.length_drop, Array.length_toList, hrs]
      omega
    have hcp2 := fun ty dc sc => run_copy_rowK (P := Tryz.prog) (w := (W1.setRow B c1).drew) 49 49 ty TVol ti Tryz.underlying49 hti B ((i + 1) * 4) (cap - i) dc ⟨g, i * 4, none⟩ (cap - i) sc (cap - i) c1 (L.drop (i * 4)) hs2.drew.block (by show min _ _ = _; omega) (by rw [hts]; exact hdl)
      (fun j u hu => by rw [Addr.add_mid]; rw [List.getElem?_drop] at hu; exact hcL _ _ hs2.drew.right _ u hu) (by rw [hdl, hc1s]; omega) (fun u hu => h1 u (List.mem_of_mem_drop hu))
    rw [← hc2] at hcp2
    have hs3 : Sat ((W1.setRow B c1).drew.setRow B c2) (pts B (.cells c2 TVol (0, 0)) * (pts g (.cells cur TVol (0, 0)) * (pts vb (.cells xs.toArray TVol (0, 0)) * F))) := hs2.drew.setRow
    have hout : Sat ((W1.setRow B c1).drew.setRow B c2) (ownAt TVol 4 (.slice (some ⟨B, 0, none⟩) (cap + 1) G) (cap + 1) (L.take (i * 4) ++ xs ++ L.drop (i * 4)) * (pts vb (.cells xs.toArray TVol (0, 0)) * F)) := by
      refine ownAt_iff.2 (.inr ⟨B, G, c2, ⟨rfl, hGn, hGm, ?_, ?_, ?_⟩, (hs3.perm (star_comm3 _ _ _)).right⟩)
      · rw [hc2]
        simp only [List.size_toArray, List.length_append, List.length_take, Array.length_toList, hc1s, hdl]
        rw [List.length_drop, Array.length_toList, hc1s]
        omega
      · rw [hc2]
        show List.take _ (c1.toList.take ((i + 1) * 4) ++ L.drop (i * 4) ++ c1.toList.drop ((i + 1) * 4 + (L.drop (i * 4)).length)) = _
        rw [hc1, hdl, hxl, hrow]
        exact ins_grow hxl hlen hi
      · rw [List.length_append, List.length_append, List.length_take, List.length_drop, hlen, hxl]; omega
    have HOUT := Lib.hid (And.intro ((((hsm1.setRow B c1).drew).setRow B c2)) hout)
    have HAP := Lib.hid hap
    have HCP1 := Lib.hid hcp1
    have HCP2 := Lib.hid hcp2
    clear hs1 hs2 hs3 hout hcp1 hcp2 hc1 hc2 hc1s hcL hvx hs h1 h1x hlen htk hcs hdl hxl hee hcm hap hsm1 hzl hzll hrow hrs hG hroom hnc
    unfold maxLen at hGm
    go_enter Tryz.func87, Tryz.ntmps87
    have hcp1 := HCP1.out 3 (G - i)
    go_upto_region 11 with (first
      | ((with_reducible (refine wpList_sl ?_ 49 (.tmp 10) (some (.tmp 11)) none ?_ ?_ ?_ ?_ (S5.out _) ?_)); rfl; rfl; rfl; rfl; rfl)
      | ((with_reducible (refine wpList_sl ?_ 49 (.tmp 32) none (some (.tmp 33)) ?_ ?_ ?_ ?_ (S2.out _) ?_)); rfl; rfl; rfl; rfl; rfl)
      | ((with_reducible (refine wpList_sl ?_ 49 (.tmp 41) (some (.tmp 42)) none ?_ ?_ ?_ ?_ (S4.out _) ?_)); rfl; rfl; rfl; rfl; rfl)
      | (at_builtin; refine wpList_append_row rfl _ _ _ _ rfl rfl rfl (HAP.out _) ?_))
    clear hcp1
    refine reg_begin (fun _ => True) (by kernel_rfl) ?_
    (apply reg_take 0 rfl rfl (by decide +kernel) rfl); (intro w' _; go_simp; rfl); exact trivial; simp only [List.setIfInBounds_toArray, List.set_cons_succ, List.set_cons_zero]
    (apply reg_take 1 rfl rfl (by decide +kernel) rfl); (intro w' _; go_simp; rfl); exact trivial; simp only [List.setIfInBounds_toArray, List.set_cons_succ, List.set_cons_zero]
    (apply reg_take 2 rfl rfl (by decide +kernel) rfl); (intro w' _; go_simp; rfl); exact trivial; simp only [List.setIfInBounds_toArray, List.set_cons_succ, List.set_cons_zero]
    refine reg_take 3 (v := .int .i64 ((i : Int) + 1)) rfl rfl (by decide +kernel) rfl (fun w' _ => exec_binop rfl rfl rfl rfl (run_add_i64 _ _ _ (by omega) w')) trivial ?_; simp only [List.setIfInBounds_toArray, List.set_cons_succ, List.set_cons_zero]
    refine reg_take 4 (v := .slice (some ⟨B, (i + 1) * 4, none⟩) (cap - i) (G - (i + 1))) rfl rfl (by decide +kernel) rfl (fun w' _ => exec_sl_run rfl rfl (S3.out w')) trivial ?_; simp only [List.setIfInBounds_toArray, List.set_cons_succ, List.set_cons_zero]
    (apply reg_take 5 rfl rfl (by decide +kernel) rfl); (intro w' _; go_simp; rfl); exact trivial; simp only [List.setIfInBounds_toArray, List.set_cons_succ, List.set_cons_zero]
    (apply reg_take 6 rfl rfl (by decide +kernel) rfl); (intro w' _; go_simp; rfl); exact trivial; simp only [List.setIfInBounds_toArray, List.set_cons_succ, List.set_cons_zero]
    refine reg_take 7 (v := .slice (some ⟨g, i * 4, none⟩) (cap - i) (cap - i)) rfl rfl (by decide +kernel) rfl (fun w' _ => exec_sl_run rfl rfl (S5.out w')) trivial ?_; simp only [List.setIfInBounds_toArray, List.set_cons_succ, List.set_cons_zero]
    refine reg_run 8 (goInt ((cap - i : Nat) : Int)) ((W1.setRow B c1).drew.setRow B c2) rfl rfl (by decide +kernel) rfl (exec_copy_row _ _ _ _ rfl rfl rfl (HCP2.out _ _ _)) (trivial) ?_; simp only [List.setIfInBounds_toArray, List.set_cons_succ, List.set_cons_zero]
    refine reg_done (by decide +kernel) ?_
    go_wp2
    go_ret
    exact ⟨.slice (some ⟨B, 0, none⟩) (cap + 1) G, rfl, HOUT⟩

set_option maxRecDepth 20000 in
set_option maxHeartbeats 2000000 in
theorem insendsnap_any (s : Value) (n : Nat) (L xs : List Value) (vb : Nat) (F : HProp) (w : World) (hn : n ≤ 1000) (hF : Sat w (ownAt TSnap 5 s n L * (pts vb (.cells xs.toArray TSnap (0, 0)) * F))) (hxl : xs.length = 5) (h1x : ∀ u ∈ xs, u.oneCell' = true) :
    Calls Tryz.prog 67 #[s, .int .i64 (n : Int), .slice (some ⟨vb, 0, none⟩) 1 1] w fun e w' => ∃ s', e = .returned s' ∧ Hid (Same w w' ∧ Sat w' (ownAt TSnap 5 s' (n + 1) (L ++ xs) * (pts vb (.cells xs.toArray TSnap (0, 0)) * F))) := by
  obtain ⟨ti, hti, hz0, hts, hz2⟩ := info_parts info_snap
  have hee : (Tryz.prog.info? TSnap).map (·.size) = some 5 := by rw [hti, Option.map_some, hts]
  have HX := Lib.hid (show ∀ j u, xs[j]? = some u → w.cell? ((⟨vb, 0, none⟩ : Addr).add j) = some u from fun j u hu => by
    rw [Addr.add_mid, Nat.zero_add, cells_at hF.right.block, List.getElem?_toArray]; exact hu)
  have H1 := Lib.hid hF
  have HL := Lib.hid (And.intro hxl h1x)
  have hnn : ((n : Int) == (n : Int)) = true := by simp
  rcases ownAt_iff.1 hF with ⟨rfl, rfl, rfl, _⟩ | ⟨g, cap, cur, ⟨rfl, hnc, hcm, hcs, htk, hlen⟩, hs⟩
  · clear hF hee hxl h1x
    go_enter Tryz.func67, Tryz.ntmps67
    go_wp2_with (at_builtin; refine wpList_append_ownAt (F := (pts vb (.cells xs.toArray TSnap (0, 0)) * F)) rfl _ _ 50 TSnap rfl ti _ Tryz.underlying50 hti hz0 hts hz2 rfl H1.out xs rfl rfl (by rw [HL.out.1]) HX.out HL.out.2 (by unfold maxLen; omega) (by omega) ?_; intro v' w' h2)
    go_ret
    exact ⟨_, rfl, h2.out⟩
  · have S1 := Lib.hid (fun w' => run_sl_lo (P := Tryz.prog) (T := 50) (e := TSnap) Tryz.underlying50 hee g 0 n cap n (Nat.le_refl _) w')
    clear hF hee hxl h1x hs hlen htk hcs hcm
    go_enter Tryz.func67, Tryz.ntmps67
    go_wp2_with (first
      | ((with_reducible (refine wpList_sl ?_ 50 (.tmp 10) (some (.tmp 11)) none ?_ ?_ ?_ ?_ (S1.out _) ?_)); rfl; rfl; rfl; rfl; rfl)
      | (at_builtin; refine wpList_append_ownAt (F := (pts vb (.cells xs.toArray TSnap (0, 0)) * F)) rfl _ _ 50 TSnap rfl ti _ Tryz.underlying50 hti hz0 hts hz2 rfl H1.out xs rfl rfl (by rw [HL.out.1]) HX.out HL.out.2 (by unfold maxLen; omega) (by omega) ?_; intro v' w' h2))
    all_goals
      go_ret
      exact ⟨_, rfl, h2.out⟩

set_option maxRecDepth 20000 in
set_option maxHeartbeats 4000000 in
theorem insmidsnap_any (s : Value) (n i : Nat) (L xs : List Value) (vb : Nat) (F : HProp) (w : World) (hi : i < n) (hn : n ≤ 1000) (hF : Sat w (ownAt TSnap 5 s n L * (pts vb (.cells xs.toArray TSnap (0, 0)) * F))) (hxl : xs.length = 5) (h1 : ∀ u ∈ L, u.oneCell' = true) (h1x : ∀ u ∈ xs, u.oneCell' = true) :
    Calls Tryz.prog 67 #[s, .int .i64 (i : Int), .slice (some ⟨vb, 0, none⟩) 1 1] w fun e w' => ∃ s', e = .returned s' ∧ Hid (Same w w' ∧ Sat w' (ownAt TSnap 5 s' (n + 1) (L.take (i * 5) ++ xs ++ L.drop (i * 5)) * (pts vb (.cells xs.toArray TSnap (0, 0)) * F))) := by
  obtain ⟨ti, hti, hz0, hts, hz2⟩ := info_parts info_snap
  have hee : (Tryz.prog.info? TSnap).map (·.size) = some 5 := by rw [hti, Option.map_some, hts]
  rcases ownAt_iff.1 hF with ⟨_, h0, _⟩ | ⟨g, cap, cur, ⟨rfl, hnc, hcm, hcs, htk, hlen⟩, hs⟩
  · omega
  clear hF
  have hne : ((i : Int) == (n : Int)) = false := beq_eq_false_iff_ne.2 (by omega)
  have hb1 : (i : Int) ≤ 1000 := by omega
  have hb2 : (n : Int) ≤ 1000 := by omega
  have hcL : ∀ (W : World) (R : HProp), Sat W (pts g (.cells cur TSnap (0, 0)) * R) → ∀ j u, L[j]? = some u → W.cell? ⟨g, j, none⟩ = some u := fun W R hW j u hu => by
    rw [cells_at hW.block, ← Array.getElem?_toList]
    rw [← htk, List.getElem?_take] at hu
    split at hu
    · exact hu
    · cases hu
  have hvx : ∀ (W : World) (R : HProp), Sat W (pts vb (.cells xs.toArray TSnap (0, 0)) * R) → ∀ j u, xs[j]? = some u → W.cell? ((⟨vb, 0, none⟩ : Addr).add j) = some u := fun W R hW j u hu => by
    rw [Addr.add_mid, Nat.zero_add, cells_at hW.block, List.getElem?_toArray]; exact hu
  have S1 := Lib.hid (fun w' => run_sl_lo (P := Tryz.prog) (T := 50) (e := TSnap) Tryz.underlying50 hee g 0 n cap i (by omega) w')
  have hdl : (L.drop (i * 5)).length = (n - i) * 5 := by rw [List.length_drop, hlen]; omega
  by_cases hroom : n + 1 ≤ cap
  · -- there is room
    have hrd : decide ((cap : Int) < (n : Int) + 1) = false := decide_eq_false (by omega)
    have S2 := Lib.hid (show ∀ w', (Instr.sliceAt 50 (.slice (some ⟨g, 0, none⟩) n cap) none (some (.int .i64 ((n : Int) + 1))) none).run Tryz.prog w' = .ok (.slice (some ⟨g, 0, none⟩) (n + 1) cap) w' from fun w' => run_sl_hi (P := Tryz.prog) (T := 50) (e := TSnap) Tryz.underlying50 hee g 0 n cap (n + 1) hroom w')
    have s3 : ∀ w', (Instr.sliceAt 50 (.slice (some ⟨g, 0, none⟩) (n + 1) cap) (some (.int .i64 ((i : Int) + 1))) none none).run Tryz.prog w' = .ok (.slice (some ⟨g, (i + 1) * 5, none⟩) (n - i) (cap - (i + 1))) w' := fun w' => by
      have := run_sl_lo (P := Tryz.prog) (T := 50) (e := TSnap) Tryz.underlying50 hee g 0 (n + 1) cap (i + 1) (by omega) w'
      rw [if_neg (by omega), Nat.zero_add, show n + 1 - (i + 1) = n - i by omega] at this
      exact this
    have s4 : ∀ w', (Instr.sliceAt 50 (.slice (some ⟨g, 0, none⟩) (n + 1) cap) (some (.int .i64 (i : Int))) none none).run Tryz.prog w' = .ok (.slice (some ⟨g, i * 5, none⟩) (n + 1 - i) (cap - i)) w' := fun w' => by
      have := run_sl_lo (P := Tryz.prog) (T := 50) (e := TSnap) Tryz.underlying50 hee g 0 (n + 1) cap i (by omega) w'
      rw [if_neg (by omega), Nat.zero_add] at this
      exact this
    have S3 := Lib.hid s3
    have S4 := Lib.hid s4
    clear s3 s4
    obtain ⟨c1, hc1⟩ : ∃ c1 : Array Value, c1 = (cur.toList.take ((i + 1) * 5) ++ L.drop (i * 5) ++ cur.toList.drop ((i + 1) * 5 + (L.drop (i * 5)).length)).toArray := ⟨_, rfl⟩
    obtain ⟨c2, hc2⟩ : ∃ c2 : Array Value, c2 = (c1.toList.take (i * 5) ++ xs ++ c1.toList.drop (i * 5 + xs.length)).toArray := ⟨_, rfl⟩
    have hcp1 := fun ty dc sc => run_copy_rowK (P := Tryz.prog) (w := w.drew) 50 50 ty TSnap ti Tryz.underlying50 hti g ((i + 1) * 5) (n - i) dc ⟨g, i * 5, none⟩ (n + 1 - i) sc (n - i) cur (L.drop (i * 5)) hs.block (by show min _ _ = _; omega) (by rw [hts]; exact hdl)
      (fun j u hu => by rw [Addr.add_mid]; rw [List.getElem?_drop] at hu; exact hcL w.drew _ hs.drew _ u hu) (by rw [hdl, hcs]; omega) (fun u hu => h1 u (List.mem_of_mem_drop hu))
    rw [← hc1] at hcp1
    have hs1 : Sat (w.drew.setRow g c1) (pts g (.cells c1 TSnap (0, 0)) * (pts vb (.cells xs.toArray TSnap (0, 0)) * F)) := hs.drew.setRow
    have hc1s : c1.size = cap * 5 := by
      rw [hc1]
      simp only [List.size_toArray, List.length_append, List.length_take, Array.length_toList, hdl, hcs]
      rw [List.length_drop, Array.length_toList, hcs]
      omega
    have hcp2 := fun ty dc => run_copy_rowK (P := Tryz.prog) (w := w.drew.setRow g c1) 50 50 ty TSnap ti Tryz.underlying50 hti g (i * 5) (n + 1 - i) dc ⟨vb, 0, none⟩ 1 1 1 c1 xs hs1.block (by show min _ _ = _; omega) (by rw [hts, hxl])
      (hvx _ _ hs1.right) (by rw [hxl, hc1s]; omega) h1x
    rw [← hc2] at hcp2
    have hs2 : Sat ((w.drew.setRow g c1).setRow g c2) (pts g (.cells c2 TSnap (0, 0)) * (pts vb (.cells xs.toArray TSnap (0, 0)) * F)) := hs1.setRow
    have hout : Sat ((w.drew.setRow g c1).setRow g c2) (ownAt TSnap 5 (.slice (some ⟨g, 0, none⟩) (n + 1) cap) (n + 1) (L.take (i * 5) ++ xs ++ L.drop (i * 5)) * (pts vb (.cells xs.toArray TSnap (0, 0)) * F)) := by
      refine ownAt_iff.2 (.inr ⟨g, cap, c2, ⟨rfl, hroom, hcm, ?_, ?_, ?_⟩, hs2⟩)
      · rw [hc2]
        simp only [List.size_toArray, List.length_append, List.length_take, Array.length_toList, hc1s, hxl]
        rw [List.length_drop, Array.length_toList, hc1s]
        omega
      · rw [hc2]
        show List.take _ (c1.toList.take (i * 5) ++ xs ++ c1.toList.drop (i * 5 + xs.length)) = _
        rw [hc1, hdl, hxl]
        exact ins_shift hxl hlen hi htk (by rw [Array.length_toList, hcs]; exact Nat.mul_le_mul_right _ hroom)
      · rw [List.length_append, List.length_append, List.length_take, List.length_drop, hlen, hxl]; omega
    have HOUT := Lib.hid (And.intro ((((Same.refl w).drew).setRow g c1).setRow g c2) hout)
    have HCP1 := Lib.hid hcp1
    have HCP2 := Lib.hid hcp2
    have hvg : vb ≠ g := by
      have := hs
      intro h; subst h
      exact (Sat.ne hs) rfl
    have HOV := Lib.hid (show ∀ lc, (callFunc 94 #[.slice (some ⟨vb, 0, none⟩) 1 1, .slice (some ⟨g, (i + 1) * 5, none⟩) (n - i) lc]).run Tryz.prog w = .ok (.value (.bool false)) w from fun lc => by
      have hsa : w.shape? vb = some (TSnap, xs.length) := by simp [World.shape?, hs.right.block]
      have hsb : w.shape? g = some (TSnap, cur.size) := by simp [World.shape?, hs.block]
      rw [run_callFunc_extern Tryz.func94 (by kernel_rfl) (by kernel_rfl) (by kernel_rfl) (e := Extern.SlicesOverlaps.overlaps #[50, 50] #[4]) (by kernel_rfl),
        Lib.run_overlaps_apart w 50 4 TSnap Tryz.underlying50 5 (fun w => by kernel_rfl) ⟨vb, 0, none⟩ ⟨g, (i + 1) * 5, none⟩ 1 1 (n - i) lc hvg TSnap TSnap xs.length cur.size hsa hsb (by rw [hcs]; omega) (thawed_at hs.right.block 0) (thawed_at hs.right.block _)]
      rfl)
    clear hs1 hs2 hout hcp1 hcp2 hc1 hc2 hc1s hcL hvx hs h1 h1x hlen htk hcs hdl hxl hee hvg hcm
    have hov := HOV.out (cap - (i + 1))
    go_enter Tryz.func67, Tryz.ntmps67
    go_upto_region 15 with (first
      | ((with_reducible (refine wpList_sl ?_ 50 (.tmp 10) (some (.tmp 11)) none ?_ ?_ ?_ ?_ (S1.out _) ?_)); rfl; rfl; rfl; rfl; rfl)
      | ((with_reducible (refine wpList_sl ?_ 50 (.tmp 56) none (some (.tmp 59)) ?_ ?_ ?_ ?_ (S2.out _) ?_)); rfl; rfl; rfl; rfl; rfl)
      | ((with_reducible (refine wpList_sl ?_ 50 (.tmp 62) (some (.tmp 65)) none ?_ ?_ ?_ ?_ (S3.out _) ?_)); rfl; rfl; rfl; rfl; rfl))
    clear hov
    refine reg_begin (fun _ => True) (by kernel_rfl) ?_
    (apply reg_take 0 rfl rfl (by decide +kernel) rfl); (intro w' _; go_simp; rfl); exact trivial; simp only [List.setIfInBounds_toArray, List.set_cons_succ, List.set_cons_zero]
    (apply reg_take 1 rfl rfl (by decide +kernel) rfl); (intro w' _; go_simp; rfl); exact trivial; simp only [List.setIfInBounds_toArray, List.set_cons_succ, List.set_cons_zero]
    (apply reg_take 2 rfl rfl (by decide +kernel) rfl); (intro w' _; go_simp; rfl); exact trivial; simp only [List.setIfInBounds_toArray, List.set_cons_succ, List.set_cons_zero]
    refine reg_take 3 (v := .int .i64 ((i : Int) + 1)) rfl rfl (by decide +kernel) rfl (fun w' _ => exec_binop rfl rfl rfl rfl (run_add_i64 _ _ _ (by omega) w')) trivial ?_; simp only [List.setIfInBounds_toArray, List.set_cons_succ, List.set_cons_zero]
    refine reg_take 4 (v := .slice (some ⟨g, (i + 1) * 5, none⟩) (n - i) (cap - (i + 1))) rfl rfl (by decide +kernel) rfl (fun w' _ => exec_sl_run rfl rfl (S3.out w')) trivial ?_; simp only [List.setIfInBounds_toArray, List.set_cons_succ, List.set_cons_zero]
    (apply reg_take 5 rfl rfl (by decide +kernel) rfl); (intro w' _; go_simp; rfl); exact trivial; simp only [List.setIfInBounds_toArray, List.set_cons_succ, List.set_cons_zero]
    (apply reg_take 6 rfl rfl (by decide +kernel) rfl); (intro w' _; go_simp; rfl); exact trivial; simp only [List.setIfInBounds_toArray, List.set_cons_succ, List.set_cons_zero]
    refine reg_take 7 (v := .slice (some ⟨g, i * 5, none⟩) (n + 1 - i) (cap - i)) rfl rfl (by decide +kernel) rfl (fun w' _ => exec_sl_run rfl rfl (S4.out w')) trivial ?_; simp only [List.setIfInBounds_toArray, List.set_cons_succ, List.set_cons_zero]
    refine reg_run 8 (goInt ((n - i : Nat) : Int)) (w.drew.setRow g c1) rfl rfl (by decide +kernel) rfl (exec_copy_row _ _ _ _ rfl rfl rfl (HCP1.out _ _ _)) (trivial) ?_; simp only [List.setIfInBounds_toArray, List.set_cons_succ, List.set_cons_zero]
    refine reg_done (by decide +kernel) ?_
    have hcp2 := HCP2.out 3 (cap - i)
    go_wp2_with ((with_reducible (refine wpList_sl ?_ 50 (.tmp 78) (some (.tmp 79)) none ?_ ?_ ?_ ?_ (S4.out _) ?_)); rfl; rfl; rfl; rfl; rfl)
    go_ret
    exact ⟨.slice (some ⟨g, 0, none⟩) (n + 1) cap, rfl, HOUT.out.1, by rw [← List.append_assoc]; exact HOUT.out.2⟩
  · -- no room: a new row
    obtain rfl : cap = n := by omega
    have hrd : decide ((cap : Int) < (cap : Int) + 1) = true := decide_eq_true (by omega)
    obtain ⟨G, hG⟩ : ∃ G, G = grownCap w (cap + 1) cap TSnap := ⟨_, rfl⟩
    have hGn : cap + 1 ≤ G := by rw [hG]; exact grownCap_ge w _ _ _
    have hGm : G ≤ maxLen := by rw [hG]; exact grownCap_le_maxLen w _ _ _ (by unfold maxLen; omega)
    have S2 := Lib.hid (fun w' => run_sl_hi (P := Tryz.prog) (T := 50) (e := TSnap) Tryz.underlying50 hee g 0 cap cap i (by omega) w')
    obtain ⟨zl, hzl⟩ : ∃ zl : List Value, zl = (Builtin.zeroCells (Value.cells (.agg #[.int .i64 0, .int .i64 0, .pointer none, .int .i64 0, .int .i64 0])) (cap + 1 - i) ++ Builtin.zeroCells (Value.cells (.agg #[.int .i64 0, .int .i64 0, .pointer none, .int .i64 0, .int .i64 0])) (G - (cap + 1))).toList := ⟨_, rfl⟩
    have hzll : zl.length = (G - i) * 5 := by
      rw [hzl]
      simp only [Builtin.zeroCells, Array.toList_append, Array.toList_map, List.length_append, List.length_map, Array.length_toList, Array.size_range]
      show (cap + 1 - i) * 5 + (G - (cap + 1)) * 5 = _
      omega
    obtain ⟨row, hrow⟩ : ∃ row : Array Value, row = (L.take (i * 5) ++ zl).toArray := ⟨_, rfl⟩
    have hrs : row.size = G * 5 := by
      rw [hrow]
      simp only [List.size_toArray, List.length_append, List.length_take, hzll, hlen]
      omega
    have hap : ∀ ty, (Builtin.append_ #[50, 3] ty #[.slice (some ⟨g, 0, none⟩) i cap, .int .i64 ((cap : Int) + 1 - (i : Int))]).run Tryz.prog w = .ok (.slice (some ⟨w.heap.size, 0, none⟩) (cap + 1) G) (w.drew.alloc (.cells row TSnap)) := fun ty => by
      have hold : (Builtin.firstCells ti.size i (.slice (some ⟨g, 0, none⟩) i cap)).run Tryz.prog w.drew = .ok (L.take (i * 5)).toArray w.drew := by
        rw [hts]
        exact run_firstCells_some (P := Tryz.prog) w.drew 5 i ⟨g, 0, none⟩ i cap (L.take (i * 5)) (by rw [List.length_take, hlen]; omega) (fun j u hu => by
          rw [Addr.add_mid, Nat.zero_add]
          rw [List.getElem?_take] at hu
          split at hu
          · exact hcL w.drew _ hs.drew j u hu
          · cases hu)
      have h := Lib.run_append_grow_zeros (P := Tryz.prog) w 50 3 ty TSnap ti _ .i64 .i64 Tryz.underlying50 Tryz.underlying3 hti hz0 (some ⟨g, 0, none⟩) i cap (L.take (i * 5)) hold (cap + 1 - i) (by omega) (by rw [hts]; omega) (by omega) (by omega) (by rw [hz2]; omega) (growslice_fits (by omega) (by rw [hz2]; omega))
      rw [show i + (cap + 1 - i) = cap + 1 by omega, ← hG, show (((cap + 1 - i : Nat)) : Int) = (cap : Int) + 1 - (i : Int) by omega] at h
      rw [h, hrow, hzl]
      congr 3
      apply Array.ext'
      simp
    have hs1 : Sat (w.drew.alloc (.cells row TSnap)) (pts w.heap.size (.cells row TSnap (0, 0)) * (pts g (.cells cur TSnap (0, 0)) * (pts vb (.cells xs.toArray TSnap (0, 0)) * F))) := hs.drew.alloc _
    have hsm1 : Same w (w.drew.alloc (.cells row TSnap)) := ((Same.refl w).drew).alloc _
    generalize w.drew.alloc (.cells row TSnap) = W1 at hap hs1 hsm1
    generalize w.heap.size = B at hap hs1
    have s3 : ∀ w', (Instr.sliceAt 50 (.slice (some ⟨B, 0, none⟩) (cap + 1) G) (some (.int .i64 ((i : Int) + 1))) none none).run Tryz.prog w' = .ok (.slice (some ⟨B, (i + 1) * 5, none⟩) (cap - i) (G - (i + 1))) w' := fun w' => by
      have := run_sl_lo (P := Tryz.prog) (T := 50) (e := TSnap) Tryz.underlying50 hee B 0 (cap + 1) G (i + 1) (by omega) w'
      rw [if_neg (by omega), Nat.zero_add, show cap + 1 - (i + 1) = cap - i by omega] at this
      exact this
    have s4 : ∀ w', (Instr.sliceAt 50 (.slice (some ⟨B, 0, none⟩) (cap + 1) G) (some (.int .i64 (i : Int))) none none).run Tryz.prog w' = .ok (.slice (some ⟨B, i * 5, none⟩) (cap + 1 - i) (G - i)) w' := fun w' => by
      have := run_sl_lo (P := Tryz.prog) (T := 50) (e := TSnap) Tryz.underlying50 hee B 0 (cap + 1) G i (by omega) w'
      rw [if_neg (by omega), Nat.zero_add] at this
      exact this
    have s5 : ∀ w', (Instr.sliceAt 50 (.slice (some ⟨g, 0, none⟩) cap cap) (some (.int .i64 (i : Int))) none none).run Tryz.prog w' = .ok (.slice (some ⟨g, i * 5, none⟩) (cap - i) (cap - i)) w' := fun w' => by
      have := S1.out w'
      rw [if_neg (by omega), Nat.zero_add] at this
      exact this
    have S3 := Lib.hid s3
    have S4 := Lib.hid s4
    have S5 := Lib.hid s5
    clear s3 s4 s5
    obtain ⟨c1, hc1⟩ : ∃ c1 : Array Value, c1 = (row.toList.take (i * 5) ++ xs ++ row.toList.drop (i * 5 + xs.length)).toArray := ⟨_, rfl⟩
    obtain ⟨c2, hc2⟩ : ∃ c2 : Array Value, c2 = (c1.toList.take ((i + 1) * 5) ++ L.drop (i * 5) ++ c1.toList.drop ((i + 1) * 5 + (L.drop (i * 5)).length)).toArray := ⟨_, rfl⟩
    have hcp1 := fun ty dc => run_copy_rowK (P := Tryz.prog) (w := W1) 50 50 ty TSnap ti Tryz.underlying50 hti B (i * 5) (cap + 1 - i) dc ⟨vb, 0, none⟩ 1 1 1 row xs hs1.block (by show min _ _ = _; omega) (by rw [hts, hxl])
      (hvx _ _ hs1.right.right) (by rw [hxl, hrs]; omega) h1x
    rw [← hc1] at hcp1
    have hs2 : Sat (W1.setRow B c1) (pts B (.cells c1 TSnap (0, 0)) * (pts g (.cells cur TSnap (0, 0)) * (pts vb (.cells xs.toArray TSnap (0, 0)) * F))) := hs1.setRow
    have hc1s : c1.size = G * 5 := by
      rw [hc1]
      simp only [List.size_toArray, List.length_append, List.length_take, Array.length_toList, hrs, hxl]
      rw [List.length_drop, Array.length_toList, hrs]
      omega
    have hcp2 := fun ty dc sc => run_copy_rowK (P := Tryz.prog) (w := (W1.setRow B c1).drew) 50 50 ty TSnap ti Tryz.underlying50 hti B ((i + 1) * 5) (cap - i) dc ⟨g, i * 5, none⟩ (cap - i) sc (cap - i) c1 (L.drop (i * 5)) hs2.drew.block (by show min _ _ = _; omega) (by rw [hts]; exact hdl)
      (fun j u hu => by rw [Addr.add_mid]; rw [List.getElem?_drop] at hu; exact hcL _ _ hs2.drew.right _ u hu) (by rw [hdl, hc1s]; omega) (fun u hu => h1 u (List.mem_of_mem_drop hu))
    rw [← hc2] at hcp2
    have hs3 : Sat ((W1.setRow B c1).drew.setRow B c2) (pts B (.cells c2 TSnap (0, 0)) * (pts g (.cells cur TSnap (0, 0)) * (pts vb (.cells xs.toArray TSnap (0, 0)) * F))) := hs2.drew.setRow
    have hout : Sat ((W1.setRow B c1).drew.setRow B c2) (ownAt TSnap 5 (.slice (some ⟨B, 0, none⟩) (cap + 1) G) (cap + 1) (L.take (i * 5) ++ xs ++ L.drop (i * 5)) * (pts vb (.cells xs.toArray TSnap (0, 0)) * F)) := by
      refine ownAt_iff.2 (.inr ⟨B, G, c2, ⟨rfl, hGn, hGm, ?_, ?_, ?_⟩, (hs3.perm (star_comm3 _ _ _)).right⟩)
      · rw [hc2]
        simp only [List.size_toArray, List.length_append, List.length_take, Array.length_toList, hc1s, hdl]
        rw [List.length_drop, Array.length_toList, hc1s]
        omega
      · rw [hc2]
        show List.take _ (c1.toList.take ((i + 1) * 5) ++ L.drop (i * 5) ++ c1.toList.drop ((i + 1) * 5 + (L.drop (i * 5)).length)) = _
        rw [hc1, hdl, hxl, hrow]
        exact ins_grow hxl hlen hi
      · rw [List.length_append, List.length_append, List.length_take, List.length_drop, hlen, hxl]; omega
    have HOUT := Lib.hid (And.intro ((((hsm1.setRow B c1).drew).setRow B c2)) hout)
    have HAP := Lib.hid hap
    have HCP1 := Lib.hid hcp1
    have HCP2 := Lib.hid hcp2
    clear hs1 hs2 hs3 hout hcp1 hcp2 hc1 hc2 hc1s hcL hvx hs h1 h1x hlen htk hcs hdl hxl hee hcm hap hsm1 hzl hzll hrow hrs hG hroom hnc
    unfold maxLen at hGm
    go_enter Tryz.func67, Tryz.ntmps67
    have hcp1 := HCP1.out 3 (G - i)
    go_upto_region 11 with (first
      | ((with_reducible (refine wpList_sl ?_ 50 (.tmp 10) (some (.tmp 11)) none ?_ ?_ ?_ ?_ (S5.out _) ?_)); rfl; rfl; rfl; rfl; rfl)
      | ((with_reducible (refine wpList_sl ?_ 50 (.tmp 32) none (some (.tmp 33)) ?_ ?_ ?_ ?_ (S2.out _) ?_)); rfl; rfl; rfl; rfl; rfl)
      | ((with_reducible (refine wpList_sl ?_ 50 (.tmp 41) (some (.tmp 42)) none ?_ ?_ ?_ ?_ (S4.out _) ?_)); rfl; rfl; rfl; rfl; rfl)
      | (at_builtin; refine wpList_append_row rfl _ _ _ _ rfl rfl rfl (HAP.out _) ?_))
    clear hcp1
    refine reg_begin (fun _ => True) (by kernel_rfl) ?_
    (apply reg_take 0 rfl rfl (by decide +kernel) rfl); (intro w' _; go_simp; rfl); exact trivial; simp only [List.setIfInBounds_toArray, List.set_cons_succ, List.set_cons_zero]
    (apply reg_take 1 rfl rfl (by decide +kernel) rfl); (intro w' _; go_simp; rfl); exact trivial; simp only [List.setIfInBounds_toArray, List.set_cons_succ, List.set_cons_zero]
    (apply reg_take 2 rfl rfl (by decide +kernel) rfl); (intro w' _; go_simp; rfl); exact trivial; simp only [List.setIfInBounds_toArray, List.set_cons_succ, List.set_cons_zero]
    refine reg_take 3 (v := .int .i64 ((i : Int) + 1)) rfl rfl (by decide +kernel) rfl (fun w' _ => exec_binop rfl rfl rfl rfl (run_add_i64 _ _ _ (by omega) w')) trivial ?_; simp only [List.setIfInBounds_toArray, List.set_cons_succ, List.set_cons_zero]
    refine reg_take 4 (v := .slice (some ⟨B, (i + 1) * 5, none⟩) (cap - i) (G - (i + 1))) rfl rfl (by decide +kernel) rfl (fun w' _ => exec_sl_run rfl rfl (S3.out w')) trivial ?_; simp only [List.setIfInBounds_toArray, List.set_cons_succ, List.set_cons_zero]
    (apply reg_take 5 rfl rfl (by decide +kernel) rfl); (intro w' _; go_simp; rfl); exact trivial; simp only [List.setIfInBounds_toArray, List.set_cons_succ, List.set_cons_zero]
    (apply reg_take 6 rfl rfl (by decide +kernel) rfl); (intro w' _; go_simp; rfl); exact trivial; simp only [List.setIfInBounds_toArray, List.set_cons_succ, List.set_cons_zero]
    refine reg_take 7 (v := .slice (some ⟨g, i * 5, none⟩) (cap - i) (cap - i)) rfl rfl (by decide +kernel) rfl (fun w' _ => exec_sl_run rfl rfl (S5.out w')) trivial ?_; simp only [List.setIfInBounds_toArray, List.set_cons_succ, List.set_cons_zero]
    refine reg_run 8 (goInt ((cap - i : Nat) : Int)) ((W1.setRow B c1).drew.setRow B c2) rfl rfl (by decide +kernel) rfl (exec_copy_row _ _ _ _ rfl rfl rfl (HCP2.out _ _ _)) (trivial) ?_; simp only [List.setIfInBounds_toArray, List.set_cons_succ, List.set_cons_zero]
    refine reg_done (by decide +kernel) ?_
    go_wp2
    go_ret
    exact ⟨.slice (some ⟨B, 0, none⟩) (cap + 1) G, rfl, HOUT⟩

end Go.Proofs.YtednjhlkhecihaaGreatDoor
