import Derived.Test.YtnilepaicnnbhaaDoorKn
/- Plain laws of package distance's functions, as the five laws ask for them. -/
namespace Go.GF
open Go Go.RowKit
/-- The units that a list of integers names, of n. -/
def ixL (n : Nat) (s : List Int) : List Nat := s.filterMap fun x => if 0 ≤ x ∧ x < (n : Int) then some x.toNat else none
theorem minusI_ixL (h : List Bool) (s : List Int) : minusI h s = minusL h (ixL h.length s) := by
  unfold minusI minusL ixL
  induction s generalizing h with
  | nil => rfl
  | cons x r ih =>
    rw [List.foldl_cons, ih, stepB_len, List.filterMap_cons]
    unfold stepB
    by_cases hx : 0 ≤ x ∧ x < (h.length : Int)
    · rw [if_pos hx, if_pos hx]; rfl
    · rw [if_neg hx, if_neg hx]
theorem ixL_len (n : Nat) (s : List Int) : (ixL n s).length ≤ s.length := List.length_filterMap_le _ _
theorem ixL_mem {n : Nat} {s : List Int} {u : Nat} : u ∈ ixL n s ↔ u < n ∧ (u : Int) ∈ s := by
  unfold ixL
  rw [List.mem_filterMap]
  constructor
  · rintro ⟨x, hx, h⟩
    by_cases hc : 0 ≤ x ∧ x < (n : Int)
    · rw [if_pos hc, Option.some.injEq] at h
      refine ⟨by omega, ?_⟩
      rw [show (u : Int) = x by omega]; exact hx
    · rw [if_neg hc] at h; cases h
  · rintro ⟨h1, h2⟩
    exact ⟨_, h2, by rw [if_pos (by omega)]; simp⟩
theorem ixL_nodup (n : Nat) : ∀ {s : List Int}, s.Nodup → (ixL n s).Nodup
  | [], _ => List.nodup_nil
  | x :: r, h => by
    obtain ⟨h1, h2⟩ := List.nodup_cons.1 h
    have ih := ixL_nodup n h2
    unfold ixL at ih ⊢
    rw [List.filterMap_cons]
    by_cases hc : 0 ≤ x ∧ x < (n : Int)
    · rw [if_pos hc]
      refine List.nodup_cons.2 ⟨fun hm => h1 ?_, ih⟩
      have := (ixL_mem (n := n) (s := r)).1 hm
      rw [show x = ((x.toNat : Nat) : Int) by omega]
      exact this.2
    · rw [if_neg hc]; exact ih
theorem ixL_nats {n : Nat} {s : List Nat} (h : ∀ u ∈ s, u < n) : ixL n (natsI s) = s := by
  unfold ixL natsI
  induction s with
  | nil => rfl
  | cons u r ih =>
    rw [List.map_cons, List.filterMap_cons, if_pos (by have := h u (by simp); omega), ih fun v hv => h v (by simp [hv])]
    simp
section
variable {nm : ByteArray} {f k : Int} {L : List (List Int)} {dom : Int}
theorem left_val {h : List Bool} (hl : 0 ≤ leftM nm f k L dom h) : checkB nm f k L dom = true ∧ (h.length : Int) = k + (L.length : Int) ∧ leftM nm f k L dom h = (searchM (codeM f k L) h).1 := by
  unfold leftM at hl ⊢
  by_cases hc : checkB nm f k L dom = true ∧ (h.length : Int) = k + (L.length : Int)
  · rw [if_pos hc]; exact ⟨hc.1, hc.2, rfl⟩
  · rw [if_neg hc] at hl; omega
/-- Left's promise. -/
theorem keeps_law {h : List Bool} {gone : List Int} (hl : 0 ≤ leftM nm f k L dom h) (hn : gone.Nodup) (hg : (gone.length : Int) ≤ leftM nm f k L dom h) : decL (codeM f k L) (minusI h gone) = true := by
  obtain ⟨h1, h2, h3⟩ := left_val hl
  rw [h3] at hg
  have hb := search_lo (codeM f k L) h
  have := (search_iff (c := codeM f k L) (h := h) (f := gone.length) (by omega)).1 hg _ (ixL_nodup h.length hn) (ixL_len _ _)
  rw [minusI_ixL]
  exact this
theorem units_sorted (h : List Bool) : (units h).Pairwise (· < ·) := (List.pairwise_lt_range).sublist List.filter_sublist
/-- What Fatal returns. -/
structure FatalP (h : List Bool) (l : List Nat) : Prop where
  lt : ∀ u ∈ l, u < h.length
  srt : l.Pairwise (· < ·)
  pres : ∀ u ∈ l, h[u]? = some true
theorem fatal_none {h : List Bool} (hl : leftM nm f k L dom h < 0 ∨ leftM nm f k L dom h = 4) : fatalM nm f k L dom h = [] := by
  unfold leftM at hl
  unfold fatalM
  split
  · rename_i hc
    rw [if_pos hc] at hl
    exact search_nil hl
  · rfl
theorem fatal_some {h : List Bool} (h0 : 0 ≤ leftM nm f k L dom h) (h4 : leftM nm f k L dom h ≠ 4) : ((fatalM nm f k L dom h).length : Int) = leftM nm f k L dom h + 1 ∧ FatalP h (fatalM nm f k L dom h) ∧ decL (codeM f k L) (minusI h (natsI (fatalM nm f k L dom h))) = false := by
  obtain ⟨h1, h2, h3⟩ := left_val h0
  have e : fatalM nm f k L dom h = (searchM (codeM f k L) h).2 := by
    unfold fatalM
    rw [if_pos ⟨h1, h2⟩]
  rw [e]
  rw [h3] at h0 h4 ⊢
  obtain ⟨a, b, c⟩ := search_bad h0 h4
  have hp : ∀ u ∈ (searchM (codeM f k L) h).2, h[u]? = some true := fun u hu => mem_units.1 (a.subset hu)
  have hlt : ∀ u ∈ (searchM (codeM f k L) h).2, u < h.length := fun u hu => (List.getElem?_eq_some_iff.1 (hp u hu)).1
  exact ⟨b, ⟨hlt, (units_sorted h).sublist a, hp⟩, by rw [minusI_ixL, ixL_nats hlt]; exact c⟩
theorem fatal_le {h : List Bool} : (fatalM nm f k L dom h).length ≤ 5 := by
  rcases Int.lt_or_le (leftM nm f k L dom h) 0 with h0 | h0
  · rw [fatal_none (.inl h0)]; simp
  · by_cases h4 : leftM nm f k L dom h = 4
    · rw [fatal_none (.inr h4)]; simp
    · have h1 := (fatal_some h0 h4).1
      obtain ⟨_, _, h3⟩ := left_val h0
      have := search_lo (codeM f k L) h
      omega
variable (hok : checkB nm f k L dom = true → (codeM f k L).Ok ∧ ((codeM f k L).n : Int) = k + (L.length : Int))
include hok
/-- One more missing unit. -/
theorem steps_law (h : List Bool) (u : Int) : leftM nm f k L dom (minusI h [u]) ≤ leftM nm f k L dom h ∧ leftM nm f k L dom h - 1 ≤ leftM nm f k L dom (minusI h [u]) := by
  unfold leftM
  rw [minusI_len]
  split
  · rename_i hc
    rw [minusI_ixL]
    unfold ixL
    rw [List.filterMap_cons]
    by_cases hx : 0 ≤ u ∧ u < (h.length : Int)
    · rw [if_pos hx]
      exact search_step (hok hc.1).1 h _
    · rw [if_neg hx]
      show (searchM (codeM f k L) h).1 ≤ _ ∧ _ ≤ (searchM (codeM f k L) h).1
      omega
  · omega
theorem steps_all {n : Nat} (hn : (n : Int) = k + (L.length : Int)) : leftM nm f k L dom (List.replicate n true) = lossesM nm f k L dom := by
  by_cases hc : checkB nm f k L dom = true
  · rw [show n = (codeM f k L).n by have := (hok hc).2; omega]
    exact Go.Proofs.YtnilepaicnnbhaaDoor.left_all hc (hok hc).2
  · unfold leftM lossesM
    rw [if_neg fun h => hc h.1, if_neg hc]
theorem losses_lo : -1 ≤ lossesM nm f k L dom ∧ lossesM nm f k L dom ≤ 4 ∧ lossesM nm f k L dom ≤ (L.length : Int) := by
  unfold lossesM
  split
  · rename_i hc
    have h1 := search_lo (codeM f k L) (List.replicate (codeM f k L).n true)
    have h2 := search_par (hok hc).1 (h := List.replicate (codeM f k L).n true) (by rw [List.length_replicate])
    refine ⟨h1.1, h1.2, ?_⟩
    have e : (codeM f k L).par.length = L.length := by unfold codeM; simp
    rw [e] at h2
    exact h2
  · omega
/-- Every unit in a rack of its own. -/
theorem bounds_own {n : Nat} (hn : (n : Int) = k + (L.length : Int)) : racksI nm f k L dom ((List.range n).map fun i : Nat => 7 * (i : Int) - 3) = lossesM nm f k L dom := by
  by_cases hc : checkB nm f k L dom = true
  · obtain ⟨h1, h2⟩ := hok hc
    have e : n = (codeM f k L).n := by omega
    unfold racksI lossesM
    rw [if_pos ⟨hc, by simp; omega⟩, if_pos hc, e]
    exact racks_own h1 (fun i : Nat => 7 * (i : Int) - 3) (fun a b (h : 7 * (a : Int) - 3 = 7 * (b : Int) - 3) => by omega) (names_nodup _) (names_mem _)
  · unfold racksI lossesM
    rw [if_neg fun h => hc h.1, if_neg hc]
/-- All units in one rack. -/
theorem bounds_one {n : Nat} (hn : (n : Int) = k + (L.length : Int)) : racksI nm f k L dom (List.replicate n 5) = min (lossesM nm f k L dom) 0 := by
  by_cases hc : checkB nm f k L dom = true
  · obtain ⟨h1, h2⟩ := hok hc
    have h3 := search_all h1
    unfold racksI lossesM
    rw [if_pos ⟨hc, by simp; omega⟩, if_pos hc, racks_one h1 (names_nodup _) (names_mem _) (x := 5) (by simp; omega) (fun k hk => (List.mem_replicate.1 hk).2)]
    omega
  · unfold racksI lossesM
    rw [if_neg fun h => hc h.1, if_neg hc]
    omega
/-- The racks' names do not count. -/
theorem racks_other (racks : List Int) (s : Int) : racksI nm f k L dom (racks.map fun x => s - x) = racksI nm f k L dom racks := by
  unfold racksI
  rw [List.length_map]
  split
  · rename_i hc
    obtain ⟨h1, h2⟩ := hok hc.1
    congr 1
    exact racks_rename h1 (fun x => s - x) (fun x => s - x) (fun x => by omega) (by omega) (names_nodup _) (names_mem _) (names_nodup _) (names_mem _)
  · rfl
theorem racks_merged (racks : List Int) (a b : Int) : racksI nm f k L dom (racks.map fun x => if x = a then b else x) ≤ racksI nm f k L dom racks := by
  unfold racksI
  rw [List.length_map]
  split
  · rename_i hc
    obtain ⟨h1, h2⟩ := hok hc.1
    exact Int.ofNat_le.2 (racks_map h1 (fun x => if x = a then b else x) (by omega) (names_nodup _) (names_mem _) (names_nodup _) (names_mem _))
  · exact Int.le_refl _
end
end Go.GF

/- Law DistanceKeepsPromise: the walk. -/
namespace Go.Proofs.YtnilepaicnnbhaaDoor
open Go.RowKit Go.GF Go.Sl Go.Shelf
/-- A law's first argument: any code. -/
structure ArgC (w : World) (nm : ByteArray) (f k : Int) (pv : Value) (dom : Int) (L : List (List Int)) : Prop where
  nm_ : nm.size ≤ maxLen
  par : RowsI w pv L
theorem ArgC.below {w w' : World} {nm : ByteArray} {f k : Int} {pv : Value} {dom : Int} {L : List (List Int)} (h : ArgC w nm f k pv dom L) (hb : Below w.heap.size w w') : ArgC w' nm f k pv dom L := ⟨h.nm_, h.par.below hb⟩
theorem smallB_le {k : Int} {n : Nat} (h : smallB k n = true) : 0 ≤ k ∧ k ≤ 6 ∧ n ≤ 5 ∧ k + (n : Int) ≤ 9 := by
  unfold smallB at h
  simp only [Bool.and_eq_true, decide_eq_true_eq] at h
  exact h
theorem ArgC.cv {w : World} {nm : ByteArray} {f k : Int} {pv : Value} {dom : Int} {L : List (List Int)} (h : ArgC w nm f k pv dom L) (hs : smallB k L.length = true) : CvAt w (codeV nm f k pv dom) nm f k L dom := by
  have := smallB_le hs
  exact ⟨⟨pv, rfl, h.par⟩, h.nm_, by omega, by omega⟩
theorem decodablec_any (cv : Array Value) (nm : ByteArray) (f k : Int) (L : List (List Int)) (dom : Int) (hv : Value) (h : List Bool) (w : World) (hT : TabF w) (hc : CvAt w cv nm f k L dom) (h1 : checkB nm f k L dom = true) (h2 : (h.length : Int) = k + (L.length : Int)) (hr : RowI w hv (boolsV h)) :
    Calls Tryd.prog 12 #[.agg cv, hv] w fun e w' => e = .returned (.bool (decL (codeM f k L) h)) ∧ Below w.heap.size w w' :=
  decodable_any cv (codeM f k L) hv h (by have := (hc.code h1).2; omega) w hT (hc.code h1).1 hr
set_option maxRecDepth 20000 in
set_option maxHeartbeats 2000000 in
theorem keeps_any (nm : ByteArray) (f k : Int) (pv : Value) (dom : Int) (L : List (List Int)) (hv : Value) (h : List Bool) (lv : Value) (lost : List Int) (w : World) (hT : TabF w) (hA : ArgC w nm f k pv dom L) (hh : RowI w hv (boolsV h)) (hl : RowI w lv (intsV lost)) (hll : lost.length ≤ maxLen) :
    Calls Tryd.prog 3 #[.agg (codeV nm f k pv dom), hv, lv] w fun e w' => e = .returned (.bool true) ∧ Below w.heap.size w w' := by
  have HSM := Lib.hid (fun W (hb : Below w.heap.size w W) => small_any nm f k pv dom L W (hA.below hb).par)
  have HDI := Lib.hid (fun W (hb : Below w.heap.size w W) => distinct_any lv lost hll W (hl.below hb))
  have HSA := Lib.hid (fun W (hb : Below w.heap.size w W) => sanity_any W (hT.below hb))
  have HLF := Lib.hid (fun W (hb : Below w.heap.size w W) (hs : smallB k L.length = true) => left_any _ nm f k L dom hv h W (hT.below hb) ((hA.below hb).cv hs) (hh.below hb))
  have HMN := Lib.hid (fun W (hb : Below w.heap.size w W) (hn : h.length ≤ 100000) => minus_any hv lv h lost hn hll W (hh.below hb) (hl.below hb))
  have HDC := Lib.hid (fun v W (hb : Below w.heap.size w W) (hs : smallB k L.length = true) h1 h2 hr => decodablec_any _ nm f k L dom v (minusI h lost) W (hT.below hb) ((hA.below hb).cv hs) h1 h2 hr)
  have HCB := Lib.hid (fun t w1 h => code_box w w1 (codeV nm f k pv dom) t h)
  have hlen : (lost.length : Int) ≤ 9223372036854775807 := by unfold maxLen at hll; omega
  obtain ⟨ao, cap, rfl, hlc, hmx, -⟩ := hh
  obtain ⟨a2, c2, rfl, -, -, -⟩ := hl
  rw [boolsV_len] at *
  rw [intsV_len] at *
  have hhl : (h.length : Int) ≤ 9223372036854775807 := by unfold maxLen at hmx; omega
  clear hT hA hll hmx hlc
  unfold codeV at *
  cases hs : smallB k L.length with
  | false =>
    rw [hs] at HSM
    clear hs
    go_enter Tryd.func3, Tryd.ntmps3
    go_wp2_with first
      | (go_at_call 8; refine (HSM.out _ (al_below w _)).mono ?_; rintro e w1 ⟨rfl, h1⟩; obtain ⟨hg, hb⟩ := HCB.out _ w1 h1)
      | (go_at_call 9; refine (HDI.out w1 hb).mono ?_; rintro e w2 ⟨b, rfl, hb2, h2⟩)
      | (go_at_call 10; refine (HSA.out w2 (hb.trans (h2.mono hb.size))).mono ?_; rintro e w3 ⟨rfl, h3⟩)
    go_ret
    exact ⟨rfl, (hb.trans (h2.mono hb.size)).trans (h3.mono (Nat.le_trans hb.size h2.size))⟩
  | true =>
    have HS := Lib.hid hs
    rw [hs] at HSM
    clear hs
    go_enter Tryd.func3, Tryd.ntmps3
    go_upto_region 3 with first
      | (go_at_call 8; refine (HSM.out _ (al_below w _)).mono ?_; rintro e w1 ⟨rfl, h1⟩; obtain ⟨hg, hb⟩ := HCB.out _ w1 h1)
      | (go_at_call 9; refine (HDI.out w1 hb).mono ?_; rintro e w2 ⟨b, rfl, hb2, h2⟩)
    have HG := Lib.hid (And.intro (hg.below h2) (And.intro (hb.trans (h2.mono hb.size)) hb2))
    clear h1 hg hb h2 hb2
    cases b with
    | false =>
      go_wp2_with (go_at_call 10; refine (HSA.out w2 HG.out.2.1).mono ?_; rintro e w3 ⟨rfl, h3⟩)
      go_ret
      exact ⟨rfl, HG.out.2.1.trans (h3.mono HG.out.2.1.size)⟩
    | true =>
    by_cases h12 : (h.length : Int) ≤ 12
    case neg =>
      have d12 : decide ((12 : Int) < (h.length : Int)) = true := decide_eq_true (by omega)
      clear h12
      go_wp2_with (go_at_call 10; refine (HSA.out w2 HG.out.2.1).mono ?_; rintro e w3 ⟨rfl, h3⟩)
      go_ret
      exact ⟨rfl, HG.out.2.1.trans (h3.mono HG.out.2.1.size)⟩
    have d12 : decide ((12 : Int) < (h.length : Int)) = false := decide_eq_false (by omega)
    have H12 := Lib.hid h12
    clear h12
    obtain ⟨c0, c1, c2, c3, c4⟩ := HG.out.1.code
    go_upto_region 6 with (go_at_call 11; refine (HLF.out w2 HG.out.2.1 HS.out).mono ?_; rintro e w3 ⟨rfl, h3⟩)
    clear c0 c1 c2 c3 c4
    have HK := Lib.hid (keeps_law (nm := nm) (f := f) (k := k) (L := L) (dom := dom) (h := h) (gone := lost))
    have HV := Lib.hid (left_val (nm := nm) (f := f) (k := k) (L := L) (dom := dom) (h := h))
    generalize leftM nm f k L dom h = z at *
    have HG3 := Lib.hid (And.intro (HG.out.1.below h3) (HG.out.2.1.trans (h3.mono HG.out.2.1.size)))
    have HN := Lib.hid HG.out.2.2
    clear h3 HG
    by_cases hz : z < 0
    case pos =>
      have dz : decide (z < 0) = true := decide_eq_true hz
      clear hz
      go_wp2_with (go_at_call 10; refine (HSA.out w3 HG3.out.2).mono ?_; rintro e w4 ⟨rfl, h4⟩)
      go_ret
      exact ⟨rfl, HG3.out.2.trans (h4.mono HG3.out.2.size)⟩
    have dz : decide (z < 0) = false := decide_eq_false hz
    by_cases hg : z < (lost.length : Int)
    case pos =>
      have dg : decide (z < (lost.length : Int)) = true := decide_eq_true hg
      clear hz hg
      go_wp2_with (go_at_call 10; refine (HSA.out w3 HG3.out.2).mono ?_; rintro e w4 ⟨rfl, h4⟩)
      go_ret
      exact ⟨rfl, HG3.out.2.trans (h4.mono HG3.out.2.size)⟩
    have dg : decide (z < (lost.length : Int)) = false := decide_eq_false hg
    have HZ := Lib.hid (And.intro (show 0 ≤ z by omega) (show (lost.length : Int) ≤ z by omega))
    clear hz hg
    go_upto_region 8 with (fail)
    have HR := Lib.hid (And.intro (HK.out HZ.out.1 (HN.out (by simp)) HZ.out.2) (HV.out HZ.out.1))
    clear dz dg d12
    have hS0 : Below w3.heap.size w3 w3.drew := (Below.refl _ w3).drew
    refine reg_begin (fun w' => Below w3.heap.size w3 w') (by kernel_rfl) ?_
    obtain ⟨W0, hW0⟩ : ∃ W0, w3.drew = W0 := ⟨_, rfl⟩
    rw [hW0] at hS0 ⊢
    clear hW0
    refine reg_call 0 rfl rfl (by decide +kernel) rfl (f := 10) (args := #[]) (R := fun v w' => v = .bool true ∧ Below w3.heap.size w3 w') (by kernel_rfl) ((HSA.out W0 (HG3.out.2.trans (hS0.mono HG3.out.2.size))).mono fun e w' h => ⟨_, h.1, rfl, hS0.trans (h.2.mono hS0.size)⟩) ?_
    rintro _ w4 ⟨rfl, hS4⟩
    refine ⟨hS4, ?_⟩
    simp only [List.setIfInBounds_toArray, List.set_cons_succ, List.set_cons_zero]
    (apply reg_take 1 rfl rfl (by decide +kernel) rfl); (intro w' hw'; go_simp; rfl); exact hS4; simp only [List.setIfInBounds_toArray, List.set_cons_succ, List.set_cons_zero]
    refine reg_take 2 (v := .agg #[.string nm, .int .i64 f, .int .i64 k, pv, .int .i64 dom]) rfl rfl (by decide +kernel) rfl (fun w' h => exec_ldC rfl rfl (HG3.out.1.below h)) hS4 ?_; simp only [List.setIfInBounds_toArray, List.set_cons_succ, List.set_cons_zero]
    (apply reg_take 3 rfl rfl (by decide +kernel) rfl); (intro w' hw'; go_simp; rfl); exact hS4; simp only [List.setIfInBounds_toArray, List.set_cons_succ, List.set_cons_zero]
    (apply reg_take 4 rfl rfl (by decide +kernel) rfl); (intro w' hw'; go_simp; rfl); exact hS4; simp only [List.setIfInBounds_toArray, List.set_cons_succ, List.set_cons_zero]
    refine reg_call 5 rfl rfl (by decide +kernel) rfl (f := 13) (args := #[.slice ao h.length cap, .slice a2 lost.length c2]) (R := fun v w' => RowI w' v (boolsV (minusI h lost)) ∧ Below w3.heap.size w3 w') (by kernel_rfl) ((HMN.out w4 (HG3.out.2.trans (hS4.mono HG3.out.2.size)) (by have := H12.out; omega)).mono fun e w' h => ?_) ?_
    · obtain ⟨v, h1, h2, h3⟩ := h
      exact ⟨v, h1, h2, hS4.trans (h3.mono hS4.size)⟩
    rintro v5 w5 ⟨hr5, hS5⟩
    refine ⟨hS5, ?_⟩
    simp only [List.setIfInBounds_toArray, List.set_cons_succ, List.set_cons_zero]
    refine reg_call 6 rfl rfl (by decide +kernel) rfl (f := 12) (args := #[.agg #[.string nm, .int .i64 f, .int .i64 k, pv, .int .i64 dom], v5]) (R := fun v w' => v = .bool true ∧ Below w3.heap.size w3 w') (by kernel_rfl) ((HDC.out v5 w5 (HG3.out.2.trans (hS5.mono HG3.out.2.size)) HS.out HR.out.2.1 (by rw [minusI_len]; exact HR.out.2.2.1) hr5).mono fun e w' h => ⟨_, h.1, by rw [HR.out.1], hS5.trans (h.2.mono hS5.size)⟩) ?_
    rintro _ w6 ⟨rfl, hS6⟩
    refine ⟨hS6, ?_⟩
    simp only [List.setIfInBounds_toArray, List.set_cons_succ, List.set_cons_zero]
    (apply reg_take 7 rfl rfl (by decide +kernel) rfl); (intro w' hw'; go_simp; rfl); exact hS6; simp only [List.setIfInBounds_toArray, List.set_cons_succ, List.set_cons_zero]
    refine reg_run_last 8 (.bool true) (w6) rfl rfl (by decide +kernel) rfl (by go_simp) ?_; simp only [List.setIfInBounds_toArray, List.set_cons_succ, List.set_cons_zero]
    go_wp2
    go_ret
    exact ⟨rfl, HG3.out.2.trans (hS6.mono HG3.out.2.size)⟩
end Go.Proofs.YtnilepaicnnbhaaDoor

/- Law DistanceFatal: the walk. -/
namespace Go.Proofs.YtnilepaicnnbhaaDoor
open Go.RowKit Go.GF Go.Sl Go.Shelf
structure FlS (w : World) (m : Nat) (i : Value) (wr : World) : Prop where
  st : ∃ n : Nat, n ≤ m ∧ i = .int .i64 (n : Int) ∧ Below w.heap.size w wr
set_option maxRecDepth 20000 in
set_option maxHeartbeats 4000000 in
theorem fatallaw_any (nm : ByteArray) (f k : Int) (pv : Value) (dom : Int) (L : List (List Int)) (hv : Value) (h : List Bool) (w : World) (hT : TabF w) (hA : ArgC w nm f k pv dom L) (hh : RowI w hv (boolsV h)) :
    Calls Tryd.prog 4 #[.agg (codeV nm f k pv dom), hv] w fun e w' => e = .returned (.bool true) ∧ Below w.heap.size w w' := by
  have HSM := Lib.hid (fun W (hb : Below w.heap.size w W) => small_any nm f k pv dom L W (hA.below hb).par)
  have HSA := Lib.hid (fun W (hb : Below w.heap.size w W) => sanity_any W (hT.below hb))
  have HLF := Lib.hid (fun W (hb : Below w.heap.size w W) (hs : smallB k L.length = true) => left_any _ nm f k L dom hv h W (hT.below hb) ((hA.below hb).cv hs) (hh.below hb))
  have HFT := Lib.hid (fun W (hb : Below w.heap.size w W) (hs : smallB k L.length = true) => fatal_any _ nm f k L dom hv h W (hT.below hb) ((hA.below hb).cv hs) (hh.below hb))
  have HMN := Lib.hid (fun lv (l : List Int) (hl : l.length ≤ maxLen) W (hb : Below w.heap.size w W) (hn : h.length ≤ 100000) hr => minus_any hv lv h l hn hl W (hh.below hb) hr)
  have HDC := Lib.hid (fun v l W (hb : Below w.heap.size w W) (hs : smallB k L.length = true) h1 h2 hr => decodablec_any _ nm f k L dom v (minusI h l) W (hT.below hb) ((hA.below hb).cv hs) h1 h2 hr)
  have HCB := Lib.hid (fun t w1 h => code_box w w1 (codeV nm f k pv dom) t h)
  obtain ⟨ao, cap, rfl, hlc, hmx, hrow⟩ := hh
  rw [boolsV_len] at *
  have HRH := Lib.hid hrow
  have hhl : (h.length : Int) ≤ 9223372036854775807 := by unfold maxLen at hmx; omega
  clear hT hA hmx hlc hrow
  unfold codeV at *
  cases hs : smallB k L.length with
  | false =>
    rw [hs] at HSM
    clear hs
    go_enter Tryd.func4, Tryd.ntmps4
    go_wp2_with first
      | (go_at_call 8; refine (HSM.out _ (al_below w _)).mono ?_; rintro e w1 ⟨rfl, h1⟩; obtain ⟨hg, hb⟩ := HCB.out _ w1 h1)
      | (go_at_call 10; refine (HSA.out w1 hb).mono ?_; rintro e w3 ⟨rfl, h3⟩)
    go_ret
    exact ⟨rfl, hb.trans (h3.mono hb.size)⟩
  | true =>
    have HS := Lib.hid hs
    rw [hs] at HSM
    clear hs
    by_cases h12 : (h.length : Int) ≤ 12
    case neg =>
      have d12 : decide ((12 : Int) < (h.length : Int)) = true := decide_eq_true (by omega)
      clear h12
      go_enter Tryd.func4, Tryd.ntmps4
      go_wp2_with first
        | (go_at_call 8; refine (HSM.out _ (al_below w _)).mono ?_; rintro e w1 ⟨rfl, h1⟩; obtain ⟨hg, hb⟩ := HCB.out _ w1 h1)
        | (go_at_call 10; refine (HSA.out w1 hb).mono ?_; rintro e w3 ⟨rfl, h3⟩)
      go_ret
      exact ⟨rfl, hb.trans (h3.mono hb.size)⟩
    have d12 : decide ((12 : Int) < (h.length : Int)) = false := decide_eq_false (by omega)
    have H12 := Lib.hid h12
    clear h12
    go_enter Tryd.func4, Tryd.ntmps4
    go_upto_region 4 with (go_at_call 8; refine (HSM.out _ (al_below w _)).mono ?_; rintro e w1 ⟨rfl, h1⟩; obtain ⟨hg, hb⟩ := HCB.out _ w1 h1)
    have HG := Lib.hid (And.intro hg hb)
    clear h1 hg hb
    obtain ⟨c0, c1, c2, c3, c4⟩ := HG.out.1.code
    go_upto_region 5 with (go_at_call 11; refine (HLF.out w1 HG.out.2 HS.out).mono ?_; rintro e w2 ⟨rfl, h2⟩)
    clear c0 c1 c2 c3 c4
    have HG2 := Lib.hid (And.intro (HG.out.1.below h2) (HG.out.2.trans (h2.mono HG.out.2.size)))
    clear h2 HG
    obtain ⟨c0, c1, c2, c3, c4⟩ := HG2.out.1.code
    go_upto_region 6 with (go_at_call 14; refine (HFT.out w2 HG2.out.2 HS.out).mono ?_; rintro e w3 ⟨fv, rfl, hfv, h3⟩)
    clear c0 c1 c2 c3 c4
    have HG3 := Lib.hid (And.intro (HG2.out.1.below h3) (HG2.out.2.trans (h3.mono HG2.out.2.size)))
    have HFV := Lib.hid hfv
    clear h3 HG2 hfv
    have HN := Lib.hid (fatal_none (nm := nm) (f := f) (k := k) (L := L) (dom := dom) (h := h))
    have HV := Lib.hid (left_val (nm := nm) (f := f) (k := k) (L := L) (dom := dom) (h := h))
    have HFS := Lib.hid (fatal_some (nm := nm) (f := f) (k := k) (L := L) (dom := dom) (h := h))
    have hl5 := fatal_le (nm := nm) (f := f) (k := k) (L := L) (dom := dom) (h := h)
    generalize leftM nm f k L dom h = z at *
    generalize fatalM nm f k L dom h = l at *
    have hli : (intsV (natsI l)).length = l.length := by rw [intsV_len, natsI_len]
    obtain ⟨a2, c2, rfl, -, -, hrow2⟩ := HFV.out
    rw [hli] at *
    have HR2 := Lib.hid hrow2
    clear hrow2
    have hll : (l.length : Int) ≤ 9223372036854775807 := by omega
    have HL5 := Lib.hid (And.intro hl5 hli)
    clear hl5 hli
    by_cases hz : z < 0
    case pos =>
      have dz : decide (z < 0) = true := decide_eq_true hz
      have hle : l = [] := HN.out (.inl hz)
      subst hle
      clear hz
      go_wp2_with (go_at_call 10; refine (HSA.out w3 HG3.out.2).mono ?_; rintro e w4 ⟨rfl, h4⟩)
      go_ret
      exact ⟨rfl, HG3.out.2.trans (h4.mono HG3.out.2.size)⟩
    have dz : decide (z < 0) = false := decide_eq_false hz
    by_cases hz4 : z = 4
    case pos =>
      have d4 : (z == 4) = true := by simpa using hz4
      have hle : l = [] := HN.out (.inr hz4)
      subst hle
      clear hz hz4
      go_wp2_with (go_at_call 10; refine (HSA.out w3 HG3.out.2).mono ?_; rintro e w4 ⟨rfl, h4⟩)
      go_ret
      exact ⟨rfl, HG3.out.2.trans (h4.mono HG3.out.2.size)⟩
    have d4 : (z == 4) = false := by simpa using hz4
    have hfs := HFS.out (by omega) hz4
    have hvv := HV.out (by omega)
    have hw1 : IntKind.i64.wrap (z + 1) = (l.length : Int) := by rw [IntWalk.i64_in _ (by omega)]; omega
    have HP := Lib.hid (And.intro hfs.2 hvv)
    clear hz hz4 hfs hvv HN HV HFS HLF HFT HSM
    go_wp2
    go_loopw [8] (fun i wr => FlS w3 l.length i wr) (fun i _ => l.length - (intOf i).toNat)
    case atStart => exact ⟨⟨0, Nat.zero_le _, rfl, Below.refl _ _⟩⟩
    case round =>
      obtain ⟨n, hn, rfl, hb⟩ := hrel.st
      clear hrel
      by_cases hlt : n < l.length
      · have hltd : decide ((n : Int) < (l.length : Int)) = true := decide_eq_true (by omega)
        have hwn : IntKind.i64.wrap ((n : Int) + 1) = (n : Int) + 1 := IntWalk.i64_in _ (by omega)
        obtain ⟨u, hu⟩ : ∃ u, l[n]? = some u := ⟨_, List.getElem?_eq_getElem hlt⟩
        have hul : u < h.length := HP.out.1.1.lt u (List.mem_of_getElem? hu)
        have hup : h[u]? = some true := HP.out.1.1.pres u (List.mem_of_getElem? hu)
        obtain ⟨b, off, rfl, hbl, hc⟩ := HR2.out (by omega)
        obtain ⟨b2, off2, rfl, hbl2, hc2⟩ := HRH.out (by omega)
        have e1 := (hb.cell (p := ⟨b, off + n, none⟩) hbl).trans (hc n _ (natsI_at hu))
        have e2 := ((HG3.out.2.trans (hb.mono HG3.out.2.size)).cell (p := ⟨b2, off2 + u, none⟩) hbl2).trans (hc2 u _ (boolsV_at hup))
        have d0 : decide ((u : Int) < 0) = false := decide_eq_false (by omega)
        have d1 : decide (h.length ≤ u) = false := decide_eq_false (by omega)
        by_cases hn0 : n = 0
        · have dn : decide (0 < n) = false := decide_eq_false (by omega)
          have HB := Lib.hid hb
          clear hb hc hc2 hn0
          go_upto_region 13 with (fail)
          go_quiet (fail)
          go_wp2
          go_roundw
          case rel => exact ⟨⟨n + 1, hlt, rfl, below_drewN HB.out _⟩⟩
          case measure => simp only [intOf]; omega
        · have dn : decide (0 < n) = true := decide_eq_true (by omega)
          obtain ⟨p, hp⟩ : ∃ p : Nat, p + 1 = n := ⟨n - 1, by omega⟩
          have hwp : IntKind.i64.wrap ((n : Int) - 1) = (p : Int) := by rw [IntWalk.i64_in _ (by omega)]; omega
          have hpl : p < l.length := by omega
          obtain ⟨u', hu'⟩ : ∃ u', l[p]? = some u' := ⟨_, List.getElem?_eq_getElem hpl⟩
          have e3 := (hb.cell (p := ⟨b, off + p, none⟩) hbl).trans (hc p _ (natsI_at hu'))
          have d2 : decide (u ≤ u') = false := decide_eq_false (by
            have := List.pairwise_iff_getElem.1 HP.out.1.1.srt p n hpl hlt (by omega)
            rw [(List.getElem?_eq_some_iff.1 hu').2, (List.getElem?_eq_some_iff.1 hu).2] at this
            omega)
          have HB := Lib.hid hb
          clear hb hc hc2 hn0 hp
          go_upto_region 13 with (fail)
          go_quiet (fail)
          go_wp2
          go_roundw
          case rel => exact ⟨⟨n + 1, hlt, rfl, below_drewN HB.out _⟩⟩
          case measure => simp only [intOf]; omega
      · have hltd : decide ((n : Int) < (l.length : Int)) = false := decide_eq_false (by omega)
        have HG4 := Lib.hid (And.intro (HG3.out.1.below hb) (HG3.out.2.trans (hb.mono HG3.out.2.size)))
        have HF4 := Lib.hid (HFV.out.below hb)
        have hlt2 : ¬ ((n : Int) < (l.length : Int)) := by omega
        clear hb hlt
        go_upto_region 17 with (fail)
        all_goals try contradiction
        clear hltd hlt2 d12 dz d4 hw1
        have hS0 : Below wr.heap.size wr wr.drew := (Below.refl _ wr).drew
        refine reg_begin (fun w' => Below wr.heap.size wr w') (by kernel_rfl) ?_
        obtain ⟨W0, hW0⟩ : ∃ W0, wr.drew = W0 := ⟨_, rfl⟩
        rw [hW0] at hS0 ⊢
        clear hW0
        refine reg_call 0 rfl rfl (by decide +kernel) rfl (f := 10) (args := #[]) (R := fun v w' => v = .bool true ∧ Below wr.heap.size wr w') (by kernel_rfl) ((HSA.out W0 (HG4.out.2.trans (hS0.mono HG4.out.2.size))).mono fun e w' h => ⟨_, h.1, rfl, hS0.trans (h.2.mono hS0.size)⟩) ?_
        rintro _ w4 ⟨rfl, hS4⟩
        refine ⟨hS4, ?_⟩
        simp only [List.setIfInBounds_toArray, List.set_cons_succ, List.set_cons_zero]
        (apply reg_take 1 rfl rfl (by decide +kernel) rfl); (intro w' hw'; go_simp; rfl); exact hS4; simp only [List.setIfInBounds_toArray, List.set_cons_succ, List.set_cons_zero]
        refine reg_take 2 (v := .agg #[.string nm, .int .i64 f, .int .i64 k, pv, .int .i64 dom]) rfl rfl (by decide +kernel) rfl (fun w' h => exec_ldC rfl rfl (HG4.out.1.below h)) hS4 ?_; simp only [List.setIfInBounds_toArray, List.set_cons_succ, List.set_cons_zero]
        (apply reg_take 3 rfl rfl (by decide +kernel) rfl); (intro w' hw'; go_simp; rfl); exact hS4; simp only [List.setIfInBounds_toArray, List.set_cons_succ, List.set_cons_zero]
        (apply reg_take 4 rfl rfl (by decide +kernel) rfl); (intro w' hw'; go_simp; rfl); exact hS4; simp only [List.setIfInBounds_toArray, List.set_cons_succ, List.set_cons_zero]
        refine reg_call 5 rfl rfl (by decide +kernel) rfl (f := 13) (args := #[.slice ao h.length cap, .slice a2 l.length c2]) (R := fun v w' => RowI w' v (boolsV (minusI h (natsI l))) ∧ Below wr.heap.size wr w') (by kernel_rfl) ((HMN.out (.slice a2 l.length c2) (natsI l) (by rw [natsI_len]; have := HL5.out.1; unfold maxLen; omega) w4 (HG4.out.2.trans (hS4.mono HG4.out.2.size)) (by have := H12.out; omega) (HF4.out.below hS4)).mono fun e w' h => ?_) ?_
        · obtain ⟨v, h1, h2, h3⟩ := h
          exact ⟨v, h1, h2, hS4.trans (h3.mono hS4.size)⟩
        rintro v5 w5 ⟨hr5, hS5⟩
        refine ⟨hS5, ?_⟩
        simp only [List.setIfInBounds_toArray, List.set_cons_succ, List.set_cons_zero]
        refine reg_call 6 rfl rfl (by decide +kernel) rfl (f := 12) (args := #[.agg #[.string nm, .int .i64 f, .int .i64 k, pv, .int .i64 dom], v5]) (R := fun v w' => v = .bool false ∧ Below wr.heap.size wr w') (by kernel_rfl) ((HDC.out v5 (natsI l) w5 (HG4.out.2.trans (hS5.mono HG4.out.2.size)) HS.out HP.out.2.1 (by rw [minusI_len]; exact HP.out.2.2.1) hr5).mono fun e w' h => ⟨_, h.1, by rw [HP.out.1.2], hS5.trans (h.2.mono hS5.size)⟩) ?_
        rintro _ w6 ⟨rfl, hS6⟩
        refine ⟨hS6, ?_⟩
        simp only [List.setIfInBounds_toArray, List.set_cons_succ, List.set_cons_zero]
        (apply reg_take 7 rfl rfl (by decide +kernel) rfl); (intro w' hw'; go_simp; rfl); exact hS6; simp only [List.setIfInBounds_toArray, List.set_cons_succ, List.set_cons_zero]
        (apply reg_take 8 rfl rfl (by decide +kernel) rfl); (intro w' hw'; go_simp; rfl); exact hS6; simp only [List.setIfInBounds_toArray, List.set_cons_succ, List.set_cons_zero]
        refine reg_run_last 9 (.bool true) (w6) rfl rfl (by decide +kernel) rfl (by go_simp) ?_; simp only [List.setIfInBounds_toArray, List.set_cons_succ, List.set_cons_zero]
        go_wp2
        go_ret
        exact ⟨rfl, HG4.out.2.trans (hS6.mono HG4.out.2.size)⟩
end Go.Proofs.YtnilepaicnnbhaaDoor

/- Law DistanceSteps: the walk. -/
namespace Go.Proofs.YtnilepaicnnbhaaDoor
open Go.RowKit Go.GF Go.Sl Go.Shelf
theorem OwnB.nil (base : Nat) (w : World) : OwnB base w (.slice none 0 0) [] := World.ownsRow_nil w base TB 1
theorem boolsV_app (h : List Bool) (x : Bool) : boolsV (h ++ [x]) = boolsV h ++ [.bool x] := by unfold boolsV; simp
/-- append of one truth value that lies in a new block. -/
theorem wpList_apNB {ops : Array Oper} {rest : List Oper} {o : Oper} {a : Act} {Q : Exit → Act → World → Prop} {w : World} {t : TypeId} (hgd : o.guard = none) (s x : Operand)
    (ho : o.op = .call { callee := .builtin .append, args := #[s, x], argTypes := #[25, 25] }) {base : Nat} {v : Value} {L : List Bool} {z : Bool} (hs : a.eval s = v) (hx : a.eval x = .slice (some ⟨w.heap.size, 0, none⟩) 1 1)
    (hown : OwnB base w v L) (hn : L.length ≤ 100000) (hbase : base ≤ w.heap.size)
    (h : ∀ v' w', OwnB base w' v' (L ++ [z]) → Below base (w.alloc (.cells #[.bool z] t)) w' → wpList Tryd.prog ops Q rest (a.put o.dst v') w') : wpList Tryd.prog ops Q (o :: rest) a (w.alloc (.cells #[.bool z] t)) := by
  obtain ⟨i0, hi, hz0, hz1, hz2⟩ := info_parts info_bool1
  have hown2 : OwnB base (w.alloc (.cells #[.bool z] t)) v L := hown.below (al_below w _)
  have hb2 : base ≤ (w.alloc (.cells #[.bool z] t)).heap.size := Nat.le_trans hbase (al_below w _).size
  refine wpList_append_own (w.alloc (.cells #[.bool z] t)) hgd s x 25 ho base TB i0 (.bool false) 1 1 Tryd.underlying25 hi hz0 hz1 hz2 rfl (by decide) v L.length (boolsV L) hs hown2 ⟨w.heap.size, 0, none⟩ 1 1 [.bool z] hx rfl ?_ ?_ (by unfold maxLen; omega) (by omega) hb2 ?_
  · intro j u hu
    match j, hu with
    | 0, hu =>
      simp at hu
      subst hu
      rw [Addr.add_mid]
      unfold World.cell?
      rw [show (w.alloc (.cells #[.bool z] t)).heap[w.heap.size]? = _ from World.alloc_heap_new w _]; rfl
  · intro u hu
    simp at hu; subst hu; rfl
  · intro v' w' h1 h2 _
    refine h v' w' ?_ ((Below.refl base _).grown h2 hb2 fun k hk => (World.ownsRow.lt hown2 k hk).1)
    show w'.ownsRow base TB 1 v' (L ++ [z]).length (boolsV (L ++ [z]))
    rw [boolsV_app, List.length_append]
    exact h1
theorem run_leqT {y z : Int} (h : y ≤ z) (w : World) : (binOp .leq 3 (.int .i64 y) (.int .i64 z)).run Tryd.prog w = .ok (.bool true) w := by simp [go_sem, h]
theorem run_geqT {y z : Int} (h : z ≤ y) (w : World) : (binOp .geq 3 (.int .i64 y) (.int .i64 z)).run Tryd.prog w = .ok (.bool true) w := by simp [go_sem, h]
theorem run_eqlT {z : Int} (w : World) : (binOp .eql 3 (.int .i64 z) (.int .i64 z)).run Tryd.prog w = .ok (.bool true) w := by simp [go_sem]
theorem run_sub1 {z : Int} (h : -1 ≤ z ∧ z ≤ 4) (w : World) : (binOp .sub 3 (.int .i64 z) (.int .i64 1)).run Tryd.prog w = .ok (.int .i64 (z - 1)) w := by
  have hw : IntKind.i64.wrap (z - 1) = z - 1 := IntWalk.i64_in _ (by omega)
  simp [go_sem, hw]
structure SpS (w : World) (N : Nat) (av i : Value) (wr : World) : Prop where
  st : ∃ n : Nat, n ≤ N ∧ i = .int .i64 (n : Int) ∧ OwnB w.heap.size wr av (List.replicate n true) ∧ Below w.heap.size w wr
set_option maxRecDepth 20000 in
set_option maxHeartbeats 4000000 in
theorem steps_any (nm : ByteArray) (f k : Int) (pv : Value) (dom : Int) (L : List (List Int)) (hv : Value) (h : List Bool) (u : Int) (w : World) (hT : TabF w) (hA : ArgC w nm f k pv dom L) (hh : RowI w hv (boolsV h)) :
    Calls Tryd.prog 5 #[.agg (codeV nm f k pv dom), hv, .int .i64 u] w fun e w' => e = .returned (.bool true) ∧ Below w.heap.size w w' := by
  have HSM := Lib.hid (fun W (hb : Below w.heap.size w W) => small_any nm f k pv dom L W (hA.below hb).par)
  have HSA := Lib.hid (fun W (hb : Below w.heap.size w W) => sanity_any W (hT.below hb))
  have HLF := Lib.hid (fun v l W (hb : Below w.heap.size w W) (hs : smallB k L.length = true) hr => left_any _ nm f k L dom v l W (hT.below hb) ((hA.below hb).cv hs) hr)
  have HLO := Lib.hid (fun W (hb : Below w.heap.size w W) (hs : smallB k L.length = true) => losses_any _ nm f k L dom W (hT.below hb) ((hA.below hb).cv hs))
  have HHR := Lib.hid (fun W (hb : Below w.heap.size w W) => hh.below hb)
  have HMN := Lib.hid (fun lv (l : List Int) (hl : l.length ≤ maxLen) W (hb : Below w.heap.size w W) (hn : h.length ≤ 100000) hr => minus_any hv lv h l hn hl W (hh.below hb) hr)
  have HCB := Lib.hid (fun t w1 h => code_box w w1 (codeV nm f k pv dom) t h)
  have HOK := Lib.hid (fun (hs : smallB k L.length = true) (hc : checkB nm f k L dom = true) => And.intro ((hA.cv hs).code hc).1.ok ((hA.cv hs).code hc).2)
  obtain ⟨ao, cap, rfl, hlc, hmx, -⟩ := hh
  rw [boolsV_len] at *
  have hhl : (h.length : Int) ≤ 9223372036854775807 := by unfold maxLen at hmx; omega
  obtain ⟨ap, cp, rfl⟩ := RowsI.shape hA.par
  clear hT hA hmx hlc
  unfold codeV at *
  cases hs : smallB k L.length with
  | false =>
    rw [hs] at HSM
    clear hs
    go_enter Tryd.func5, Tryd.ntmps5
    go_wp2_with first
      | (go_at_call 8; refine (HSM.out _ (al_below w _)).mono ?_; rintro e w1 ⟨rfl, h1⟩; obtain ⟨hg, hb⟩ := HCB.out _ w1 h1)
      | (go_at_call 10; refine (HSA.out w1 hb).mono ?_; rintro e w3 ⟨rfl, h3⟩)
    go_ret
    exact ⟨rfl, hb.trans (h3.mono hb.size)⟩
  | true =>
    have HS := Lib.hid hs
    rw [hs] at HSM
    have hsl := smallB_le hs
    have HST := Lib.hid (steps_law (nm := nm) (f := f) (k := k) (L := L) (dom := dom) (HOK.out hs) h u)
    have HSL := Lib.hid (fun (n : Nat) (hn : (n : Int) = k + (L.length : Int)) => steps_all (nm := nm) (f := f) (k := k) (L := L) (dom := dom) (HOK.out hs) hn)
    have HLB := Lib.hid (losses_lo (nm := nm) (f := f) (k := k) (L := L) (dom := dom) (HOK.out hs))
    clear hs HOK
    go_enter Tryd.func5, Tryd.ntmps5
    go_upto_region 2 with (go_at_call 8; refine (HSM.out _ (al_below w _)).mono ?_; rintro e w1 ⟨rfl, h1⟩; obtain ⟨hg, hb⟩ := HCB.out _ w1 h1)
    have HG := Lib.hid (And.intro hg hb)
    clear h1 hg hb
    obtain ⟨N, hN⟩ : ∃ N : Nat, (N : Int) = k + (L.length : Int) := ⟨(k + (L.length : Int)).toNat, by omega⟩
    have hN9 : N ≤ 9 := by omega
    have hwk : IntKind.i64.wrap (k + (L.length : Int)) = (N : Int) := by rw [IntWalk.i64_in _ (by omega)]; omega
    have HN := Lib.hid hN
    have HSB := Lib.hid hsl
    clear hN hsl
    by_cases h12 : (h.length : Int) ≤ 12
    case neg =>
      have d12 : decide ((12 : Int) < (h.length : Int)) = true := decide_eq_true (by omega)
      clear h12
      go_wp2_with (go_at_call 10; refine (HSA.out w1 HG.out.2).mono ?_; rintro e w3 ⟨rfl, h3⟩)
      go_ret
      exact ⟨rfl, HG.out.2.trans (h3.mono HG.out.2.size)⟩
    have d12 : decide ((12 : Int) < (h.length : Int)) = false := decide_eq_false (by omega)
    have H12 := Lib.hid h12
    by_cases hu0 : u < 0
    case pos =>
      have d0 : decide (u < 0) = true := decide_eq_true hu0
      clear h12 hu0
      go_wp2_with (go_at_call 10; refine (HSA.out w1 HG.out.2).mono ?_; rintro e w3 ⟨rfl, h3⟩)
      go_ret
      exact ⟨rfl, HG.out.2.trans (h3.mono HG.out.2.size)⟩
    have d0 : decide (u < 0) = false := decide_eq_false hu0
    by_cases hu1 : (h.length : Int) ≤ u
    case pos =>
      have d1 : decide ((h.length : Int) ≤ u) = true := decide_eq_true hu1
      clear h12 hu0 hu1
      go_wp2_with (go_at_call 10; refine (HSA.out w1 HG.out.2).mono ?_; rintro e w3 ⟨rfl, h3⟩)
      go_ret
      exact ⟨rfl, HG.out.2.trans (h3.mono HG.out.2.size)⟩
    have d1 : decide ((h.length : Int) ≤ u) = false := decide_eq_false hu1
    clear h12 hu0 hu1
    go_wp2
    go_loopw [8, 9] (fun av i wr => SpS w1 N av i wr) (fun _ i _ => N - (intOf i).toNat)
    case atStart => exact ⟨⟨0, Nat.zero_le _, rfl, OwnB.nil _ _, Below.refl _ _⟩⟩
    case round =>
      obtain ⟨n, hn, rfl, ho, hb⟩ := hrel.st
      clear hrel
      have HG2 := Lib.hid (HG.out.1.below hb)
      obtain ⟨c0, c1, c2, c3, c4⟩ := HG2.out.code
      have HF := Lib.hid (And.intro ho hb)
      by_cases hlt : n < N
      · have hltd : decide ((n : Int) < (N : Int)) = true := decide_eq_true (by omega)
        have hwn : IntKind.i64.wrap ((n : Int) + 1) = (n : Int) + 1 := IntWalk.i64_in _ (by omega)
        have hsz := hb.size
        clear ho hb
        go_wp2_with (at_builtin; refine wpList_apNB rfl _ _ rfl rfl rfl HF.out.1 (by rw [List.length_replicate]; omega) hsz ?_; intro v' w9 h9 h10)
        go_roundw
        case rel => exact ⟨⟨n + 1, hlt, rfl, by rw [List.replicate_succ']; exact h9, HF.out.2.trans (((al_below wr _).mono hsz).trans h10)⟩⟩
        case measure => simp only [intOf]; omega
      · have hnN : n = N := by omega
        have hlt2 : ¬ ((n : Int) < (N : Int)) := by omega
        have hltd : decide ((n : Int) < (N : Int)) = false := decide_eq_false hlt2
        rw [hnN] at ho
        have HF := Lib.hid (And.intro ho hb)
        have HG3 := Lib.hid (HG.out.2.trans (hb.mono HG.out.2.size))
        clear ho hb hnN
        go_upto_region 9 with (fail)
        all_goals try contradiction
        go_upto_region 10 with (go_at_call 11; refine (HLF.out _ h wr HG3.out HS.out (HHR.out wr HG3.out)).mono ?_; rintro e w4 ⟨rfl, h4⟩)
        clear c0 c1 c2 c3 c4
        have HG4 := Lib.hid (And.intro (HG2.out.below h4) (HG3.out.trans (h4.mono HG3.out.size)))
        have HA4 := Lib.hid (HF.out.1.row.below h4)
        clear h4 HG2 HG3 HG HF hlt hltd hlt2 hwk
        obtain ⟨z, hz⟩ : ∃ z, leftM nm f k L dom h = z := ⟨_, rfl⟩
        obtain ⟨y, hy⟩ : ∃ y, leftM nm f k L dom (minusI h [u]) = y := ⟨_, rfl⟩
        obtain ⟨q, hq⟩ : ∃ q, lossesM nm f k L dom = q := ⟨_, rfl⟩
        have HZ := Lib.hid hz
        have HY := Lib.hid hy
        have HQ := Lib.hid hq
        have HZY := Lib.hid (show y ≤ z ∧ z - 1 ≤ y by rw [← hz, ← hy]; exact HST.out)
        have HZB := Lib.hid (show -1 ≤ z ∧ z ≤ 4 by
          rw [← hz]; unfold leftM
          split
          · exact search_lo _ _
          · omega)
        rw [hz]
        clear hz hy hq
        have hS0 : Below w4.heap.size w4 w4.drew := (Below.refl _ w4).drew
        refine reg_begin (fun w' => Below w4.heap.size w4 w') (by kernel_rfl) ?_
        obtain ⟨W0, hW0⟩ : ∃ W0, w4.drew = W0 := ⟨_, rfl⟩
        rw [hW0] at hS0 ⊢
        clear hW0
        refine reg_take 0 (v := .agg #[.string nm, .int .i64 f, .int .i64 k, .slice ap L.length cp, .int .i64 dom]) rfl rfl (by decide +kernel) rfl (fun w' h => exec_ldC rfl rfl (HG4.out.1.below h)) hS0 ?_; simp only [List.setIfInBounds_toArray, List.set_cons_succ, List.set_cons_zero]
        (apply reg_take 1 rfl rfl (by decide +kernel) rfl); (intro w' hw'; go_simp; rfl); exact hS0; simp only [List.setIfInBounds_toArray, List.set_cons_succ, List.set_cons_zero]
        (apply reg_take 2 rfl rfl (by decide +kernel) rfl); (intro w' hw'; go_simp; rfl); exact hS0; simp only [List.setIfInBounds_toArray, List.set_cons_succ, List.set_cons_zero]
        have hSA : Below w4.heap.size w4 (W0.alloc (.cells #[.int .i64 u] TI)) := hS0.trans ((al_below W0 _).mono hS0.size)
        refine reg_run 3 (.slice (some ⟨W0.heap.size, 0, none⟩) 1 1) (W0.alloc (.cells #[.int .i64 u] TI)) rfl rfl (by decide +kernel) rfl (by go_simp) hSA ?_
        simp only [List.setIfInBounds_toArray, List.set_cons_succ, List.set_cons_zero]
        refine reg_call 4 rfl rfl (by decide +kernel) rfl (f := 13) (args := #[.slice ao h.length cap, .slice (some ⟨W0.heap.size, 0, none⟩) 1 1]) (R := fun v w' => RowI w' v (boolsV (minusI h [u])) ∧ Below w4.heap.size w4 w') (by kernel_rfl) ((HMN.out (.slice (some ⟨W0.heap.size, 0, none⟩) 1 1) [u] (by unfold maxLen; simp) (W0.alloc (.cells #[.int .i64 u] TI)) (HG4.out.2.trans (hSA.mono HG4.out.2.size)) (by have := H12.out; omega) (RowI.alloc (c := [.int .i64 u]) (by unfold maxLen; simp))).mono fun e w' h => ?_) ?_
        · obtain ⟨v, h1, h2, h3⟩ := h
          exact ⟨v, h1, h2, hSA.trans (h3.mono hSA.size)⟩
        rintro v5 w5 ⟨hr5, hS5⟩
        refine ⟨hS5, ?_⟩
        simp only [List.setIfInBounds_toArray, List.set_cons_succ, List.set_cons_zero]
        refine reg_call 5 rfl rfl (by decide +kernel) rfl (f := 11) (args := #[.agg #[.string nm, .int .i64 f, .int .i64 k, .slice ap L.length cp, .int .i64 dom], v5]) (R := fun v w' => v = .int .i64 y ∧ Below w4.heap.size w4 w') (by kernel_rfl) ((HLF.out v5 (minusI h [u]) w5 (HG4.out.2.trans (hS5.mono HG4.out.2.size)) HS.out hr5).mono fun e w' h => ⟨_, h.1, by rw [HY.out], hS5.trans (h.2.mono hS5.size)⟩) ?_
        rintro _ w6 ⟨rfl, hS6⟩
        refine ⟨hS6, ?_⟩
        simp only [List.setIfInBounds_toArray, List.set_cons_succ, List.set_cons_zero]
        refine reg_run_last 6 (.int .i64 y) (w6) rfl rfl (by decide +kernel) rfl (by go_simp) ?_; simp only [List.setIfInBounds_toArray, List.set_cons_succ, List.set_cons_zero]
        have HG6 := Lib.hid (And.intro (HG4.out.1.below hS6) (HG4.out.2.trans (hS6.mono HG4.out.2.size)))
        have HA6 := Lib.hid (HA4.out.below hS6)
        clear hS6 hr5 hS5 hSA hS0 HG4 HA4
        go_upto_region 11 with (fail)
        have hS0 : Below w6.heap.size w6 w6.drew := (Below.refl _ w6).drew
        refine reg_begin (fun w' => Below w6.heap.size w6 w') (by kernel_rfl) ?_
        obtain ⟨V0, hV0⟩ : ∃ V0, w6.drew = V0 := ⟨_, rfl⟩
        rw [hV0] at hS0 ⊢
        clear hV0
        refine reg_call 0 rfl rfl (by decide +kernel) rfl (f := 10) (args := #[]) (R := fun v w' => v = .bool true ∧ Below w6.heap.size w6 w') (by kernel_rfl) ((HSA.out V0 (HG6.out.2.trans (hS0.mono HG6.out.2.size))).mono fun e w' h => ⟨_, h.1, rfl, hS0.trans (h.2.mono hS0.size)⟩) ?_
        rintro _ w7 ⟨rfl, hS7⟩
        refine ⟨hS7, ?_⟩
        simp only [List.setIfInBounds_toArray, List.set_cons_succ, List.set_cons_zero]
        (apply reg_take 1 rfl rfl (by decide +kernel) rfl); (intro w' hw'; go_simp; rfl); exact hS7; simp only [List.setIfInBounds_toArray, List.set_cons_succ, List.set_cons_zero]
        (apply reg_take 2 rfl rfl (by decide +kernel) rfl); (intro w' hw'; go_simp; rfl); exact hS7; simp only [List.setIfInBounds_toArray, List.set_cons_succ, List.set_cons_zero]
        (apply reg_take 3 rfl rfl (by decide +kernel) rfl); (intro w' hw'; go_simp; rfl); exact hS7; simp only [List.setIfInBounds_toArray, List.set_cons_succ, List.set_cons_zero]
        refine reg_take 4 (v := .bool true) rfl rfl (by decide +kernel) rfl (fun w' _ => exec_binop (vx := .int .i64 y) (vy := .int .i64 z) rfl rfl rfl rfl (run_leqT HZY.out.1 w')) hS7 ?_; simp only [List.setIfInBounds_toArray, List.set_cons_succ, List.set_cons_zero]
        (apply reg_take 5 rfl rfl (by decide +kernel) rfl); (intro w' hw'; go_simp; rfl); exact hS7; simp only [List.setIfInBounds_toArray, List.set_cons_succ, List.set_cons_zero]
        (apply reg_take 6 rfl rfl (by decide +kernel) rfl); (intro w' hw'; go_simp; rfl); exact hS7; simp only [List.setIfInBounds_toArray, List.set_cons_succ, List.set_cons_zero]
        (apply reg_take 7 rfl rfl (by decide +kernel) rfl); (intro w' hw'; go_simp; rfl); exact hS7; simp only [List.setIfInBounds_toArray, List.set_cons_succ, List.set_cons_zero]
        (apply reg_take 8 rfl rfl (by decide +kernel) rfl); (intro w' hw'; go_simp; rfl); exact hS7; simp only [List.setIfInBounds_toArray, List.set_cons_succ, List.set_cons_zero]
        refine reg_take 9 (v := .int .i64 (z - 1)) rfl rfl (by decide +kernel) rfl (fun w' _ => exec_binop (vx := .int .i64 z) (vy := .int .i64 1) rfl rfl rfl rfl (run_sub1 HZB.out w')) hS7 ?_; simp only [List.setIfInBounds_toArray, List.set_cons_succ, List.set_cons_zero]
        refine reg_take 10 (v := .bool true) rfl rfl (by decide +kernel) rfl (fun w' _ => exec_binop (vx := .int .i64 y) (vy := .int .i64 (z - 1)) rfl rfl rfl rfl (run_geqT HZY.out.2 w')) hS7 ?_; simp only [List.setIfInBounds_toArray, List.set_cons_succ, List.set_cons_zero]
        (apply reg_take 11 rfl rfl (by decide +kernel) rfl); (intro w' hw'; go_simp; rfl); exact hS7; simp only [List.setIfInBounds_toArray, List.set_cons_succ, List.set_cons_zero]
        (apply reg_take 12 rfl rfl (by decide +kernel) rfl); (intro w' hw'; go_simp; rfl); exact hS7; simp only [List.setIfInBounds_toArray, List.set_cons_succ, List.set_cons_zero]
        refine reg_take 13 (v := .agg #[.string nm, .int .i64 f, .int .i64 k, .slice ap L.length cp, .int .i64 dom]) rfl rfl (by decide +kernel) rfl (fun w' h => exec_ldC rfl rfl (HG6.out.1.below h)) hS7 ?_; simp only [List.setIfInBounds_toArray, List.set_cons_succ, List.set_cons_zero]
        (apply reg_take 14 rfl rfl (by decide +kernel) rfl); (intro w' hw'; go_simp; rfl); exact hS7; simp only [List.setIfInBounds_toArray, List.set_cons_succ, List.set_cons_zero]
        refine reg_take 16 (v := .agg #[.string nm, .int .i64 f, .int .i64 k, .slice ap L.length cp, .int .i64 dom]) rfl rfl (by decide +kernel) rfl (fun w' h => exec_ldC rfl rfl (HG6.out.1.below h)) hS7 ?_; simp only [List.setIfInBounds_toArray, List.set_cons_succ, List.set_cons_zero]
        refine reg_call 15 rfl rfl (by decide +kernel) rfl (f := 11) (args := #[.agg #[.string nm, .int .i64 f, .int .i64 k, .slice ap L.length cp, .int .i64 dom], u8]) (R := fun v w' => v = .int .i64 q ∧ Below w6.heap.size w6 w') (by kernel_rfl) ((HLF.out u8 (List.replicate N true) w7 (HG6.out.2.trans (hS7.mono HG6.out.2.size)) HS.out (HA6.out.below hS7)).mono fun e w' h => ⟨_, h.1, by rw [HSL.out N HN.out, HQ.out], hS7.trans (h.2.mono hS7.size)⟩) ?_
        rintro _ w8 ⟨rfl, hS8⟩
        refine ⟨hS8, ?_⟩
        simp only [List.setIfInBounds_toArray, List.set_cons_succ, List.set_cons_zero]
        refine reg_call 17 rfl rfl (by decide +kernel) rfl (f := 15) (args := #[.agg #[.string nm, .int .i64 f, .int .i64 k, .slice ap L.length cp, .int .i64 dom]]) (R := fun v w' => v = .int .i64 q ∧ Below w6.heap.size w6 w') (by kernel_rfl) ((HLO.out w8 (HG6.out.2.trans (hS8.mono HG6.out.2.size)) HS.out).mono fun e w' h => ⟨_, h.1, by rw [HQ.out], hS8.trans (h.2.mono hS8.size)⟩) ?_
        rintro _ w9 ⟨rfl, hS9⟩
        refine ⟨hS9, ?_⟩
        simp only [List.setIfInBounds_toArray, List.set_cons_succ, List.set_cons_zero]
        refine reg_take 18 (v := .bool true) rfl rfl (by decide +kernel) rfl (fun w' _ => exec_binop (vx := .int .i64 q) (vy := .int .i64 q) rfl rfl rfl rfl (run_eqlT w')) hS9 ?_; simp only [List.setIfInBounds_toArray, List.set_cons_succ, List.set_cons_zero]
        (apply reg_take 19 rfl rfl (by decide +kernel) rfl); (intro w' hw'; go_simp; rfl); exact hS9; simp only [List.setIfInBounds_toArray, List.set_cons_succ, List.set_cons_zero]
        refine reg_run_last 20 (.bool true) (w9) rfl rfl (by decide +kernel) rfl (by go_simp) ?_; simp only [List.setIfInBounds_toArray, List.set_cons_succ, List.set_cons_zero]
        go_wp2
        go_ret
        exact ⟨rfl, HG6.out.2.trans (hS9.mono HG6.out.2.size)⟩
end Go.Proofs.YtnilepaicnnbhaaDoor

/- Two rows of integers that a call makes for itself, side by side. -/
namespace Go.Proofs.YtnilepaicnnbhaaDoor
open Go.RowKit Go.GF Go.Sl Go.Shelf
/-- Two rows of integers, made since w, and all that was there. -/
def Two (w W : World) (v1 : Value) (L1 : List Int) (v2 : Value) (L2 : List Int) : Prop :=
  Same w W ∧ Sat W (ownAt TI 1 v1 L1.length (intsV L1) * (ownAt TI 1 v2 L2.length (intsV L2) * old w))
theorem Two.start (w : World) : Two w w (.slice none 0 0) [] (.slice none 0 0) [] := ⟨Same.refl w, ownAt_nil.2 (ownAt_nil.2 (Sat.old w))⟩
theorem Two.swap {w W : World} {v1 v2 : Value} {L1 L2 : List Int} (h : Two w W v1 L1 v2 L2) : Two w W v2 L2 v1 L1 := ⟨h.1, h.2.perm (by ac_rfl)⟩
theorem Two.bl {w W : World} {v1 v2 : Value} {L1 L2 : List Int} (h : Two w W v1 L1 v2 L2) : Below w.heap.size w W := h.1.below_of (h.2.perm (show _ = (ownAt TI 1 v1 L1.length (intsV L1) * ownAt TI 1 v2 L2.length (intsV L2)) * old w by ac_rfl))
theorem Two.row {w W : World} {v1 v2 : Value} {L1 L2 : List Int} (h : Two w W v1 L1 v2 L2) : RowI W v1 (intsV L1) := by
  have hs := h.2
  rcases ownAt_iff.1 hs with ⟨rfl, h1, -, -⟩ | ⟨g, cap, cur, ⟨rfl, h2, h3, -, -, -⟩, -⟩
  · obtain rfl := List.eq_nil_of_length_eq_zero h1
    exact ⟨none, 0, rfl, Nat.le_refl _, by unfold maxLen; omega, fun hh => absurd hh (by simp [intsV])⟩
  · refine ⟨some ⟨g, 0, none⟩, cap, by rw [intsV_len], by rw [intsV_len]; exact h2, h3, fun hp => ?_⟩
    rw [intsV_len] at hp
    obtain ⟨g', cap', e, hc⟩ := ownAt_cells hs hp
    cases e
    obtain ⟨x, hx⟩ : ∃ x, L1[0]? = some x := ⟨_, List.getElem?_eq_getElem hp⟩
    exact ⟨g, 0, rfl, World.block_lt_of_cell? _ _ (hc 0 _ (intsV_at hx)), fun j u hu => by rw [Nat.zero_add]; exact hc j u hu⟩
theorem Two.shape {w W : World} {v1 v2 : Value} {L1 L2 : List Int} (h : Two w W v1 L1 v2 L2) : ∃ ao cap, v1 = .slice ao L1.length cap := ownAt_slice h.2
/-- append of one integer that lies in a new block, onto the first row. -/
theorem wpList_ap2 {ops : Array Oper} {rest : List Oper} {o : Oper} {a : Act} {Q : Exit → Act → World → Prop} {w W : World} {t : TypeId} (hgd : o.guard = none) (s x : Operand)
    (ho : o.op = .call { callee := .builtin .append, args := #[s, x], argTypes := #[26, 26] }) {v1 v2 : Value} {L1 L2 : List Int} {z : Int} (hs : a.eval s = v1) (hx : a.eval x = .slice (some ⟨W.heap.size, 0, none⟩) 1 1)
    (h2 : Two w W v1 L1 v2 L2) (hn : L1.length ≤ 100000)
    (h : ∀ v' w', Two w w' v' (L1 ++ [z]) v2 L2 → wpList Tryd.prog ops Q rest (a.put o.dst v') w') : wpList Tryd.prog ops Q (o :: rest) a (W.alloc (.cells #[.int .i64 z] t)) := by
  obtain ⟨i0, hi, hz0, hz1, hz2⟩ := info_parts info_int3
  refine wpList_append_ownAt (F := ownAt TI 1 v2 L2.length (intsV L2) * old w) hgd s x 26 TI ho i0 _ Tryd.underlying26 hi hz0 hz1 hz2 rfl (h2.2.allocKeep _) [.int .i64 z] hs hx rfl ?_ (by simp [Value.oneCell']) (by unfold maxLen; omega) (by omega) ?_
  · intro j u hu
    match j, hu with
    | 0, hu =>
      simp at hu
      subst hu
      rw [Addr.add_mid]
      unfold World.cell?
      rw [show (W.alloc (.cells #[.int .i64 z] t)).heap[W.heap.size]? = _ from World.alloc_heap_new W _]; rfl
  · intro v' w' h6
    refine h v' w' ⟨(h2.1.alloc _).trans h6.out.1, ?_⟩
    have := h6.out.2
    rw [show intsV L1 ++ [Value.int .i64 z] = intsV (L1 ++ [z]) by unfold intsV; simp, show L1.length + 1 = (L1 ++ [z]).length by simp] at this
    exact this
end Go.Proofs.YtnilepaicnnbhaaDoor

/- Law DistanceBounds: the walk. -/
namespace Go.Proofs.YtnilepaicnnbhaaDoor
open Go.RowKit Go.GF Go.Sl Go.Shelf
def ownL (n : Nat) : List Int := (List.range n).map fun i : Nat => 7 * (i : Int) - 3
theorem ownL_succ (n : Nat) : ownL (n + 1) = ownL n ++ [7 * (n : Int) - 3] := by unfold ownL; rw [List.range_succ, List.map_append]; rfl
theorem ownL_len (n : Nat) : (ownL n).length = n := by unfold ownL; simp
structure BdS (w : World) (N : Nat) (v1 v2 i : Value) (wr : World) : Prop where
  st : ∃ n : Nat, n ≤ N ∧ i = .int .i64 (n : Int) ∧ Two w wr v1 (ownL n) v2 (List.replicate n 5)
set_option maxRecDepth 20000 in
set_option maxHeartbeats 4000000 in
theorem bounds_any (nm : ByteArray) (f k : Int) (pv : Value) (dom : Int) (L : List (List Int)) (w : World) (hT : TabF w) (hA : ArgC w nm f k pv dom L) :
    Calls Tryd.prog 6 #[.agg (codeV nm f k pv dom)] w fun e w' => e = .returned (.bool true) ∧ Below w.heap.size w w' := by
  have HSM := Lib.hid (fun W (hb : Below w.heap.size w W) => small_any nm f k pv dom L W (hA.below hb).par)
  have HSA := Lib.hid (fun W (hb : Below w.heap.size w W) => sanity_any W (hT.below hb))
  have HRK := Lib.hid (fun v l (hl : l.length ≤ 1000) W (hb : Below w.heap.size w W) (hs : smallB k L.length = true) hr => racks_any _ nm f k L dom v l hl W (hT.below hb) ((hA.below hb).cv hs) hr)
  have HRK2 := HRK
  have HLO := Lib.hid (fun W (hb : Below w.heap.size w W) (hs : smallB k L.length = true) => losses_any _ nm f k L dom W (hT.below hb) ((hA.below hb).cv hs))
  have HCB := Lib.hid (fun t w1 h => code_box w w1 (codeV nm f k pv dom) t h)
  have HOK := Lib.hid (fun (hs : smallB k L.length = true) (hc : checkB nm f k L dom = true) => And.intro ((hA.cv hs).code hc).1.ok ((hA.cv hs).code hc).2)
  obtain ⟨ap, cp, rfl⟩ := RowsI.shape hA.par
  clear hT hA
  unfold codeV at *
  cases hs : smallB k L.length with
  | false =>
    rw [hs] at HSM
    clear hs
    go_enter Tryd.func6, Tryd.ntmps6
    go_wp2_with first
      | (go_at_call 8; refine (HSM.out _ (al_below w _)).mono ?_; rintro e w1 ⟨rfl, h1⟩; obtain ⟨hg, hb⟩ := HCB.out _ w1 h1)
      | (go_at_call 10; refine (HSA.out w1 hb).mono ?_; rintro e w3 ⟨rfl, h3⟩)
    go_ret
    exact ⟨rfl, hb.trans (h3.mono hb.size)⟩
  | true =>
    have HS := Lib.hid hs
    rw [hs] at HSM
    have hsl := smallB_le hs
    have HBO := Lib.hid (fun (n : Nat) (hn : (n : Int) = k + (L.length : Int)) => bounds_own (nm := nm) (f := f) (k := k) (L := L) (dom := dom) (HOK.out hs) hn)
    have HBN := Lib.hid (fun (n : Nat) (hn : (n : Int) = k + (L.length : Int)) => bounds_one (nm := nm) (f := f) (k := k) (L := L) (dom := dom) (HOK.out hs) hn)
    have HLB := Lib.hid (losses_lo (nm := nm) (f := f) (k := k) (L := L) (dom := dom) (HOK.out hs))
    clear hs HOK
    go_enter Tryd.func6, Tryd.ntmps6
    go_upto_region 2 with (go_at_call 8; refine (HSM.out _ (al_below w _)).mono ?_; rintro e w1 ⟨rfl, h1⟩; obtain ⟨hg, hb⟩ := HCB.out _ w1 h1)
    have HG := Lib.hid (And.intro hg hb)
    clear h1 hg hb
    obtain ⟨N, hN⟩ : ∃ N : Nat, (N : Int) = k + (L.length : Int) := ⟨(k + (L.length : Int)).toNat, by omega⟩
    have hN9 : N ≤ 9 := by omega
    have hwk : IntKind.i64.wrap (k + (L.length : Int)) = (N : Int) := by rw [IntWalk.i64_in _ (by omega)]; omega
    have HN := Lib.hid hN
    have HSB := Lib.hid hsl
    clear hN hsl
    go_wp2
    go_loopw [4, 5, 6] (fun v1 v2 i wr => BdS w1 N v1 v2 i wr) (fun _ _ i _ => N - (intOf i).toNat)
    case atStart => exact ⟨⟨0, Nat.zero_le _, rfl, Two.start _⟩⟩
    case round =>
      obtain ⟨n, hn, rfl, h2⟩ := hrel.st
      clear hrel
      have HG2 := Lib.hid (HG.out.1.below h2.bl)
      obtain ⟨c0, c1, c2, c3, c4⟩ := HG2.out.code
      have HF := Lib.hid h2
      by_cases hlt : n < N
      · have hltd : decide ((n : Int) < (N : Int)) = true := decide_eq_true (by omega)
        have hwn : IntKind.i64.wrap ((n : Int) + 1) = (n : Int) + 1 := IntWalk.i64_in _ (by omega)
        have hw7 : IntKind.i64.wrap (7 * (n : Int)) = 7 * (n : Int) := IntWalk.i64_in _ (by omega)
        have hw3 : IntKind.i64.wrap (7 * (n : Int) - 3) = 7 * (n : Int) - 3 := IntWalk.i64_in _ (by omega)
        clear h2
        go_wp2_with first
          | (at_builtin; refine wpList_ap2 rfl _ _ rfl rfl rfl HF.out (by rw [ownL_len]; omega) ?_; intro v1' w8 h8; have H8 := Lib.hid h8.swap; clear h8)
          | (at_builtin; refine wpList_ap2 rfl _ _ rfl rfl rfl H8.out (by rw [List.length_replicate]; omega) ?_; intro v2' w9 h9; have H9 := Lib.hid h9.swap; clear h9)
        go_roundw
        case rel => exact ⟨⟨n + 1, hlt, rfl, by rw [ownL_succ, List.replicate_succ']; exact H9.out⟩⟩
        case measure => simp only [intOf]; omega
      · have hnN : n = N := by omega
        have hlt2 : ¬ ((n : Int) < (N : Int)) := by omega
        have hltd : decide ((n : Int) < (N : Int)) = false := decide_eq_false hlt2
        rw [hnN] at h2
        have HF := Lib.hid h2
        have HG3 := Lib.hid (HG.out.2.trans (h2.bl.mono HG.out.2.size))
        clear h2 hnN
        go_upto_region 11 with (fail)
        all_goals try contradiction
        go_upto_region 12 with (go_at_call 15; refine (HLO.out wr HG3.out HS.out).mono ?_; rintro e w4 ⟨rfl, h4⟩)
        have HG4 := Lib.hid (And.intro (HG2.out.below h4) (HG3.out.trans (h4.mono HG3.out.size)))
        have HA4 := Lib.hid (And.intro (HF.out.row.below h4) (HF.out.swap.row.below h4))
        clear c0 c1 c2 c3 c4 h4 HG2 HG3 HG HF hlt hltd hlt2 hwk
        obtain ⟨c0, c1, c2, c3, c4⟩ := HG4.out.1.code
        have HBO := Lib.hid (HBO.out N HN.out)
        have HBN := Lib.hid (HBN.out N HN.out)
        obtain ⟨q, hq⟩ : ∃ q, lossesM nm f k L dom = q := ⟨_, rfl⟩
        rw [hq] at HLB HBO HBN ⊢
        clear hq
        have q1 : decide ((-1 : Int) ≤ q) = true := decide_eq_true HLB.out.1
        have q2 : decide (q ≤ (4 : Int)) = true := decide_eq_true HLB.out.2.1
        have q3 : decide (q ≤ (L.length : Int)) = true := decide_eq_true HLB.out.2.2
        go_wp2_with first
          | (go_at_call 10; refine (HSA.out w4 HG4.out.2).mono ?_; rintro e w5 ⟨rfl, h5⟩; have HG5 := Lib.hid (And.intro (HG4.out.1.below h5) (And.intro (HG4.out.2.trans (h5.mono HG4.out.2.size)) (And.intro (HA4.out.1.below h5) (HA4.out.2.below h5)))); clear c0 c1 c2 c3 c4 h5; obtain ⟨c0, c1, c2, c3, c4⟩ := HG5.out.1.code)
          | (go_at_call 16; refine (HRK.out _ (ownL N) (by rw [ownL_len]; omega) w5 HG5.out.2.1 HS.out HG5.out.2.2.1).mono ?_; clear HRK; rintro e w6 ⟨rfl, h6⟩; have HG6 := Lib.hid (And.intro (HG5.out.1.below h6) (And.intro (HG5.out.2.1.trans (h6.mono HG5.out.2.1.size)) (HG5.out.2.2.2.below h6))); clear c0 c1 c2 c3 c4 h6; obtain ⟨c0, c1, c2, c3, c4⟩ := HG6.out.1.code; rw [show racksI nm f k L dom (ownL N) = q from HBO.out])
          | (go_at_call 16; refine (HRK2.out _ (List.replicate N 5) (by rw [List.length_replicate]; omega) w6 HG6.out.2.1 HS.out HG6.out.2.2).mono ?_; clear HRK2; rintro e w7 ⟨rfl, h7⟩; rw [HBN.out])
        go_ret
        exact ⟨rfl, HG6.out.2.1.trans (h7.mono HG6.out.2.1.size)⟩
end Go.Proofs.YtnilepaicnnbhaaDoor

/- Law DistanceRacks: the walk. -/
namespace Go.Proofs.YtnilepaicnnbhaaDoor
open Go.RowKit Go.GF Go.Sl Go.Shelf
def otherL (s : Int) (l : List Int) : List Int := l.map fun x => s - x
def mergedL (a b : Int) (l : List Int) : List Int := l.map fun x => if x = a then b else x
theorem map_step {φ : Int → Int} {l : List Int} {n : Nat} {x : Int} (h : l[n]? = some x) : (l.take (n + 1)).map φ = (l.take n).map φ ++ [φ x] := by
  rw [List.take_add_one, h, List.map_append]; rfl
structure RcS (w : World) (racks : List Int) (s a b : Int) (v1 v2 i : Value) (wr : World) : Prop where
  st : ∃ n : Nat, n ≤ racks.length ∧ i = .int .i64 (n : Int) ∧ Two w wr v1 (otherL s (racks.take n)) v2 (mergedL a b (racks.take n))
set_option maxRecDepth 20000 in
set_option maxHeartbeats 4000000 in
theorem rackslaw_any (nm : ByteArray) (f k : Int) (pv : Value) (dom : Int) (L : List (List Int)) (rv : Value) (racks : List Int) (s a b : Int) (w : World) (hT : TabF w) (hA : ArgC w nm f k pv dom L) (hr : RowI w rv (intsV racks)) :
    Calls Tryd.prog 7 #[.agg (codeV nm f k pv dom), rv, .int .i64 s, .int .i64 a, .int .i64 b] w fun e w' => e = .returned (.bool true) ∧ Below w.heap.size w w' := by
  have HSM := Lib.hid (fun W (hb : Below w.heap.size w W) => small_any nm f k pv dom L W (hA.below hb).par)
  have HSA := Lib.hid (fun W (hb : Below w.heap.size w W) => sanity_any W (hT.below hb))
  have HRK := Lib.hid (fun v l (hl : l.length ≤ 1000) W (hb : Below w.heap.size w W) (hs : smallB k L.length = true) hr => racks_any _ nm f k L dom v l hl W (hT.below hb) ((hA.below hb).cv hs) hr)
  have HRR := Lib.hid (fun W (hb : Below w.heap.size w W) => hr.below hb)
  have HCB := Lib.hid (fun t w1 h => code_box w w1 (codeV nm f k pv dom) t h)
  have HOK := Lib.hid (fun (hs : smallB k L.length = true) (hc : checkB nm f k L dom = true) => And.intro ((hA.cv hs).code hc).1.ok ((hA.cv hs).code hc).2)
  obtain ⟨ao, cap, rfl, hlc, hmx, hrow⟩ := hr
  rw [intsV_len] at *
  have HR := Lib.hid hrow
  have hhl : (racks.length : Int) ≤ 9223372036854775807 := by unfold maxLen at hmx; omega
  obtain ⟨ap, cp, rfl⟩ := RowsI.shape hA.par
  clear hT hA hlc hmx hrow
  unfold codeV at *
  cases hs : smallB k L.length with
  | false =>
    rw [hs] at HSM
    clear hs
    go_enter Tryd.func7, Tryd.ntmps7
    go_wp2_with first
      | (go_at_call 8; refine (HSM.out _ (al_below w _)).mono ?_; rintro e w1 ⟨rfl, h1⟩; obtain ⟨hg, hb⟩ := HCB.out _ w1 h1)
      | (go_at_call 10; refine (HSA.out w1 hb).mono ?_; rintro e w3 ⟨rfl, h3⟩)
    go_ret
    exact ⟨rfl, hb.trans (h3.mono hb.size)⟩
  | true =>
    have HS := Lib.hid hs
    rw [hs] at HSM
    have HOT := Lib.hid (racks_other (nm := nm) (f := f) (k := k) (L := L) (dom := dom) (HOK.out hs) racks s)
    have HME := Lib.hid (racks_merged (nm := nm) (f := f) (k := k) (L := L) (dom := dom) (HOK.out hs) racks a b)
    clear hs HOK
    go_enter Tryd.func7, Tryd.ntmps7
    go_upto_region 2 with (go_at_call 8; refine (HSM.out _ (al_below w _)).mono ?_; rintro e w1 ⟨rfl, h1⟩; obtain ⟨hg, hb⟩ := HCB.out _ w1 h1)
    have HG := Lib.hid (And.intro hg hb)
    clear h1 hg hb
    by_cases h12 : (racks.length : Int) ≤ 12
    case neg =>
      have d12 : decide ((12 : Int) < (racks.length : Int)) = true := decide_eq_true (by omega)
      clear h12
      go_wp2_with (go_at_call 10; refine (HSA.out w1 HG.out.2).mono ?_; rintro e w3 ⟨rfl, h3⟩)
      go_ret
      exact ⟨rfl, HG.out.2.trans (h3.mono HG.out.2.size)⟩
    have d12 : decide ((12 : Int) < (racks.length : Int)) = false := decide_eq_false (by omega)
    have h12n : racks.length ≤ 12 := by omega
    by_cases hs0 : s < -1000
    case pos =>
      have d0 : decide (s < -1000) = true := decide_eq_true hs0
      clear h12 hs0 h12n
      go_wp2_with (go_at_call 10; refine (HSA.out w1 HG.out.2).mono ?_; rintro e w3 ⟨rfl, h3⟩)
      go_ret
      exact ⟨rfl, HG.out.2.trans (h3.mono HG.out.2.size)⟩
    have d0 : decide (s < -1000) = false := decide_eq_false hs0
    by_cases hs1 : 1000 < s
    case pos =>
      have d1 : decide (1000 < s) = true := decide_eq_true hs1
      clear h12 hs0 hs1 h12n
      go_wp2_with (go_at_call 10; refine (HSA.out w1 HG.out.2).mono ?_; rintro e w3 ⟨rfl, h3⟩)
      go_ret
      exact ⟨rfl, HG.out.2.trans (h3.mono HG.out.2.size)⟩
    have d1 : decide (1000 < s) = false := decide_eq_false hs1
    have HSS := Lib.hid (show -1000 ≤ s ∧ s ≤ 1000 by omega)
    clear hs0 hs1
    go_wp2
    go_loopw [12, 13, 14] (fun v1 v2 i wr => RcS w1 racks s a b v1 v2 i wr) (fun _ _ i _ => racks.length - (intOf i).toNat)
    case atStart => exact ⟨⟨0, Nat.zero_le _, rfl, Two.start _⟩⟩
    case round =>
      obtain ⟨n, hn, rfl, h2⟩ := hrel.st
      clear hrel
      have HG2 := Lib.hid (And.intro (HG.out.1.below h2.bl) (HG.out.2.trans (h2.bl.mono HG.out.2.size)))
      by_cases hlt : n < racks.length
      · have hltd : decide ((n : Int) < (racks.length : Int)) = true := decide_eq_true (by omega)
        have hwn : IntKind.i64.wrap ((n : Int) + 1) = (n : Int) + 1 := IntWalk.i64_in _ (by omega)
        obtain ⟨x, hx⟩ : ∃ x, racks[n]? = some x := ⟨_, List.getElem?_eq_getElem hlt⟩
        obtain ⟨b0, off, rfl, hbl, hc⟩ := HR.out (by omega)
        have e1 := (HG2.out.2.cell (p := ⟨b0, off + n, none⟩) hbl).trans (hc n _ (intsV_at hx))
        have HF := Lib.hid h2
        have HX := Lib.hid hx
        have HC := Lib.hid (And.intro hbl (hc n _ (intsV_at hx)))
        clear h2 hx hc hbl
        by_cases hx0 : x < -1000
        case pos =>
          have x0 : decide (x < -1000) = true := decide_eq_true hx0
          clear hx0
          go_wp2_with (go_at_call 10; refine (HSA.out wr HG2.out.2).mono ?_; rintro e w3 ⟨rfl, h3⟩)
          go_ret
          exact ⟨rfl, HG2.out.2.trans (h3.mono HG2.out.2.size)⟩
        have x0 : decide (x < -1000) = false := decide_eq_false hx0
        by_cases hx1 : 1000 < x
        case pos =>
          have x1 : decide (1000 < x) = true := decide_eq_true hx1
          clear hx0 hx1
          go_wp2_with (go_at_call 10; refine (HSA.out wr HG2.out.2).mono ?_; rintro e w3 ⟨rfl, h3⟩)
          go_ret
          exact ⟨rfl, HG2.out.2.trans (h3.mono HG2.out.2.size)⟩
        have x1 : decide (1000 < x) = false := decide_eq_false hx1
        have hws : IntKind.i64.wrap (s - x) = s - x := IntWalk.i64_in _ (by have := HSS.out; omega)
        clear hx0 hx1
        by_cases hxa : x = a
        · have xa : (x == a) = true := by simpa using hxa
          have HXA := Lib.hid (show (if x = a then b else x) = b from if_pos hxa)
          clear hxa
          go_wp2_with first
            | (at_builtin; refine wpList_ap2 rfl _ _ rfl rfl rfl HF.out (by unfold otherL; rw [List.length_map, List.length_take]; omega) ?_; intro v1' w8 h8; have H8 := Lib.hid h8.swap; have e3 := ((HG.out.2.trans (h8.bl.mono HG.out.2.size)).cell (p := ⟨b0, off + n, none⟩) HC.out.1).trans HC.out.2; clear h8 HF)
            | (at_builtin; refine wpList_ap2 rfl _ _ rfl rfl rfl H8.out (by unfold mergedL; rw [List.length_map, List.length_take]; omega) ?_; intro v2' w9 h9; have H9 := Lib.hid h9.swap; clear h9)
          go_roundw
          case rel => exact ⟨⟨n + 1, hlt, rfl, by unfold otherL mergedL; rw [map_step HX.out, map_step HX.out]; simp only [HXA.out]; exact H9.out⟩⟩
          case measure => simp only [intOf]; omega
        · have xa : (x == a) = false := by simpa using hxa
          have HXA := Lib.hid (show (if x = a then b else x) = x from if_neg hxa)
          clear hxa
          go_wp2_with first
            | (at_builtin; refine wpList_ap2 rfl _ _ rfl rfl rfl HF.out (by unfold otherL; rw [List.length_map, List.length_take]; omega) ?_; intro v1' w8 h8; have H8 := Lib.hid h8.swap; have e3 := ((HG.out.2.trans (h8.bl.mono HG.out.2.size)).cell (p := ⟨b0, off + n, none⟩) HC.out.1).trans HC.out.2; clear h8 HF)
            | (at_builtin; refine wpList_ap2 rfl _ _ rfl rfl rfl H8.out (by unfold mergedL; rw [List.length_map, List.length_take]; omega) ?_; intro v2' w9 h9; have H9 := Lib.hid h9.swap; clear h9)
          go_roundw
          case rel => exact ⟨⟨n + 1, hlt, rfl, by unfold otherL mergedL; rw [map_step HX.out, map_step HX.out]; simp only [HXA.out]; exact H9.out⟩⟩
          case measure => simp only [intOf]; omega
      · have hnN : n = racks.length := by omega
        have hlt2 : ¬ ((n : Int) < (racks.length : Int)) := by omega
        have hltd : decide ((n : Int) < (racks.length : Int)) = false := decide_eq_false hlt2
        rw [hnN, List.take_length] at h2
        have HF := Lib.hid h2
        clear h2 hnN
        obtain ⟨c0, c1, c2, c3, c4⟩ := HG2.out.1.code
        go_upto_region 16 with (fail)
        all_goals try contradiction
        go_upto_region 17 with (go_at_call 16; refine (HRK.out _ racks (by omega) wr HG2.out.2 HS.out (HRR.out wr HG2.out.2)).mono ?_; rintro e w4 ⟨rfl, h4⟩)
        have HG4 := Lib.hid (And.intro (HG2.out.1.below h4) (HG2.out.2.trans (h4.mono HG2.out.2.size)))
        have HA4 := Lib.hid (And.intro (HF.out.row.below h4) (HF.out.swap.row.below h4))
        clear c0 c1 c2 c3 c4 h4 HG2 HG HF hlt hltd hlt2
        obtain ⟨c0, c1, c2, c3, c4⟩ := HG4.out.1.code
        obtain ⟨q, hq⟩ : ∃ q, racksI nm f k L dom racks = q := ⟨_, rfl⟩
        rw [hq] at HOT HME ⊢
        clear hq
        obtain ⟨y, hy⟩ : ∃ y, racksI nm f k L dom (mergedL a b racks) = y := ⟨_, rfl⟩
        have HY := Lib.hid hy
        have yq : decide (y ≤ q) = true := decide_eq_true (by rw [← hy]; exact HME.out)
        clear hy
        have HRK2 := HRK
        go_wp2_with first
          | (go_at_call 10; refine (HSA.out w4 HG4.out.2).mono ?_; rintro e w5 ⟨rfl, h5⟩; have HG5 := Lib.hid (And.intro (HG4.out.1.below h5) (And.intro (HG4.out.2.trans (h5.mono HG4.out.2.size)) (And.intro (HA4.out.1.below h5) (HA4.out.2.below h5)))); clear c0 c1 c2 c3 c4 h5; obtain ⟨c0, c1, c2, c3, c4⟩ := HG5.out.1.code)
          | (go_at_call 16; refine (HRK.out _ (otherL s racks) (by unfold otherL; rw [List.length_map]; omega) w5 HG5.out.2.1 HS.out HG5.out.2.2.1).mono ?_; clear HRK; rintro e w6 ⟨rfl, h6⟩; have HG6 := Lib.hid (And.intro (HG5.out.1.below h6) (And.intro (HG5.out.2.1.trans (h6.mono HG5.out.2.1.size)) (HG5.out.2.2.2.below h6))); clear c0 c1 c2 c3 c4 h6; obtain ⟨c0, c1, c2, c3, c4⟩ := HG6.out.1.code; rw [show racksI nm f k L dom (otherL s racks) = q from HOT.out])
          | (go_at_call 16; refine (HRK2.out _ (mergedL a b racks) (by unfold mergedL; rw [List.length_map]; omega) w6 HG6.out.2.1 HS.out HG6.out.2.2).mono ?_; clear HRK2; rintro e w7 ⟨rfl, h7⟩; rw [HY.out])
        go_ret
        exact ⟨rfl, HG6.out.2.1.trans (h7.mono HG6.out.2.1.size)⟩
end Go.Proofs.YtnilepaicnnbhaaDoor
