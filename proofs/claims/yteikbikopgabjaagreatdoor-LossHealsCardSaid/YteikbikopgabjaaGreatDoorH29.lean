import Derived.Test.YteikbikopgabjaaGreatDoorH28
import Derived.Test.YteikbikopgabjaaGreatDoorH14
import Derived.Laws.Externs
/- Part 29 of a proof; the last part says what is proved. -/
namespace Go.Proofs.YteikbikopgabjaaGreatDoor
open Go.RowKit Go.Sha Go.Sl Go.GF Go.Vol Go.Loss
theorem info_ch : (Tryz.prog.info? TCh).map (fun i => (i.zero, i.size, i.bytes)) = some (some (.agg zCh), 23, 88) := by kernel_rfl
set_option maxRecDepth 20000 in
set_option maxHeartbeats 2000000 in
theorem insendch_any (s : Value) (n : Nat) (L xs : List Value) (vb : Nat) (F : HProp) (w : World) (hn : n ≤ 1000) (hF : Sat w (ownAt TCh 23 s n L * (pts vb (.cells xs.toArray TCh (0, 0)) * F))) (hxl : xs.length = 23) (h1x : ∀ u ∈ xs, u.oneCell' = true) :
  Calls Tryz.prog 59 #[s, .int .i64 (n : Int), .slice (some ⟨vb, 0, none⟩) 1 1] w fun e w' => ∃ s', e = .returned s' ∧ Hid (Same w w' ∧ Sat w' (ownAt TCh 23 s' (n + 1) (L ++ xs) * (pts vb (.cells xs.toArray TCh (0, 0)) * F))) := by
 obtain ⟨ti, hti, hz0, hts, hz2⟩ := info_parts info_ch
 have hee : (Tryz.prog.info? TCh).map (·.size) = some 23 := by rw [hti, Option.map_some, hts]
 have HX := Lib.hid (show ∀ j u, xs[j]? = some u → w.cell? ((⟨vb, 0, none⟩ : Addr).add j) = some u from fun j u hu => by
  rw [Addr.add_mid, Nat.zero_add, cells_at hF.right.block, List.getElem?_toArray]; exact hu)
 have H1 := Lib.hid hF
 have HL := Lib.hid (And.intro hxl h1x)
 have hnn : ((n : Int) == (n : Int)) = true := by simp
 rcases ownAt_iff.1 hF with ⟨rfl, rfl, rfl, _⟩ | ⟨g, cap, cur, ⟨rfl, hnc, hcm, hcs, htk, hlen⟩, hs⟩
 ·clear hF hee hxl h1x
  go_enter Tryz.func59, Tryz.ntmps59
  go_wp2_with (at_builtin; refine wpList_append_ownAt (F := (pts vb (.cells xs.toArray TCh (0, 0)) * F)) rfl _ _ 103 TCh rfl ti _ Tryz.underlying103 hti hz0 hts hz2 rfl H1.out xs rfl rfl (by rw [HL.out.1]) HX.out HL.out.2 (by unfold maxLen; omega) (by omega) ?_; intro v' w' h2)
  go_ret
  exact ⟨_, rfl, h2.out⟩
 ·have S1 := Lib.hid (fun w' => run_sl_lo (P := Tryz.prog) (T := 103) (e := TCh) Tryz.underlying103 hee g 0 n cap n (Nat.le_refl _) w')
  clear hF hee hxl h1x hs hlen htk hcs hcm
  go_enter Tryz.func59, Tryz.ntmps59
  go_wp2_with (first
   | ((with_reducible (refine wpList_sl ?_ 103 (.tmp 10) (some (.tmp 11)) none ?_ ?_ ?_ ?_ (S1.out _) ?_)); rfl; rfl; rfl; rfl; rfl)
   | (at_builtin; refine wpList_append_ownAt (F := (pts vb (.cells xs.toArray TCh (0, 0)) * F)) rfl _ _ 103 TCh rfl ti _ Tryz.underlying103 hti hz0 hts hz2 rfl H1.out xs rfl rfl (by rw [HL.out.1]) HX.out HL.out.2 (by unfold maxLen; omega) (by omega) ?_; intro v' w' h2))
  all_goals
   go_ret
   exact ⟨_, rfl, h2.out⟩
set_option maxRecDepth 20000 in
theorem tnew_any (w : World) : Calls Tryz.prog 32 #[] w fun e w' => ∃ p at_, e = .returned (.pointer (some ⟨p, 0, none⟩)) ∧ Same w w' ∧ Sat w' (tabS p 0 0 at_ (fun _ => 0) [] [] * old w) := by
 have H0 := Lib.hid (And.intro (Same.refl w) (Sat.old w))
 go_enter Tryz.func32, Tryz.ntmps32
 have hmm := @run_makeMap Tryz.prog
 have hc : Tryz.prog.cellsOf TTab = 2 := by kernel_rfl
 go_wp2
 go_ret
 have h1 := (Sat.old w).alloc (.map #[] 0)
 have h2 := h1.alloc (.cells #[.slice none 0 0, .map (some w.heap.size)] TTab)
 refine ⟨_, w.heap.size, rfl, ((Same.refl w).alloc _).alloc _, ?_⟩
 unfold tabS refB
 have e : bigs ([] : List ChM).length (fun i => pts ((fun _ => 0) i) (.cells rfE.toArray TRf (0, 0))) = emp := rfl
 rw [e, star_emp]
 have hsz : (w.alloc (.map #[] 0)).heap.size = w.heap.size + 1 := by simp
 rw [hsz] at h2
 have h4 := (ownAt_nil (T := TCh) (sz := 23)).2 (placeS_iff.2 ⟨_, _, Go.Key.MapG.empty ukV 0, h2.perm (show _ = pts w.heap.size (.map #[] 0) * (pts (w.heap.size + 1) (.cells #[.slice none 0 0, .map (some w.heap.size)] TTab (0, 0)) * old w) by ac_rfl)⟩)
 exact h4.perm (by
  show ownAt TCh 23 (.slice none 0 0) 0 [] * (placeS w.heap.size [] * (pts (w.heap.size + 1) (.cells #[.slice none 0 0, .map (some w.heap.size)] TTab (0, 0)) * old w)) = (pts (w.heap.size + 1) (.cells #[.slice none 0 0, .map (some w.heap.size)] TTab (0, 0)) * (ownAt TCh 23 (.slice none 0 0) 0 [] * placeS w.heap.size [])) * old w
  ac_rfl)
theorem search1_run (args : Array Value) (w : World) : (callFunc 58 args).run Tryz.prog w = .ok (.enter 58 args) w := by kernel_rfl
set_option maxRecDepth 20000 in
set_option maxHeartbeats 1000000 in
theorem search1_any (p b cap gp : Nat) (rb : Nat → Nat) (L : List ChM) (k : Nat) (hk : k < L.length) (w : World) (hT : TabR w p b cap rb L) (hg : w.cell? ⟨gp, 0, none⟩ = some (.pointer (some ⟨p, 0, none⟩))) :
  Calls Tryz.prog 58 #[.int .i64 (k : Int), .pointer (some ⟨gp, 0, none⟩)] w fun e w' => e = .returned (.bool false) ∧ w' = w := by
 obtain ⟨tc, htc, htcs⟩ := Option.map_eq_some_iff.1 (show (Tryz.prog.info? TCh).map (·.size) = some 23 from by kernel_rfl)
 obtain ⟨x, hx⟩ : ∃ x, L[k]? = some x := ⟨_, List.getElem?_eq_getElem hk⟩
 have hmx := hT.max
 have c0 := hT.hd
 rw [sOf_pos (by omega)] at c0
 have c1 : w.cell? ⟨b, k * 23, none⟩ = some (.int .i64 ((k : Int) + 1)) := by
  have := hT.row k x hx 0 _ (by rw [Array.getElem?_toList]; exact (chA_at k (rb k) x).id)
  rwa [Nat.add_zero] at this
 generalize L.length = n at hk c0 hmx
 have hkk : (k : Int) < (n : Int) := by omega
 have hk1 : (k : Int) ≤ 1000 := by omega
 clear hT hx
 go_enter Tryz.func58, Tryz.ntmps58
 go_wp2
 go_ret
 exact ⟨rfl, rfl⟩
structure SeS (w0 : World) (n : Nat) (iv jv : Value) (wr : World) : Prop where
 st : ∃ i : Nat, i ≤ n ∧ iv = .int .i64 (i : Int) ∧ jv = .int .i64 (n : Int) ∧ Below w0.heap.size w0 wr
set_option maxRecDepth 20000 in
set_option maxHeartbeats 1000000 in
theorem search_any (p b cap gp : Nat) (rb : Nat → Nat) (L : List ChM) (w : World) (hT : TabR w p b cap rb L) (hg : w.cell? ⟨gp, 0, none⟩ = some (.pointer (some ⟨p, 0, none⟩))) (hgl : gp < w.heap.size) :
  Calls Tryz.prog 57 #[.int .i64 (L.length : Int), .func (.func 58) #[] #[.pointer (some ⟨gp, 0, none⟩)]] w fun e w' => e = .returned (.int .i64 (L.length : Int)) ∧ Below w.heap.size w w' := by
 have HT := Lib.hid (fun W (h : Below w.heap.size w W) k (hk : k < L.length) => search1_any p b cap gp rb L k hk W (hT.below h) ((h.cell (p := ⟨gp, 0, none⟩) hgl).trans hg))
 have hmx := hT.max
 generalize L.length = n at hmx HT ⊢
 clear hT hg hgl
 have hcf := search1_run
 go_enter Tryz.func57, Tryz.ntmps57
 go_wp2
 go_loopw [5, 6] (fun i j wr => SeS w n i j wr) (fun i j _ => jiM i j)
 case atStart => exact ⟨⟨0, Nat.zero_le _, rfl, rfl, Below.refl _ _⟩⟩
 case round =>
  obtain ⟨i, hin, rfl, rfl, hb⟩ := hrel.st
  clear hrel
  have HB := Lib.hid hb
  clear hb
  have hj1 : (n : Int) ≤ 1000 := by omega
  by_cases hlt : i < n
  ·have hltd : decide ((i : Int) < (n : Int)) = true := decide_eq_true (by omega)
   have HC := Lib.hid (HT.out wr HB.out ((i + n) / 2) (by omega))
   have HM := Lib.hid (show (((i + n) / 2 : Nat) : Int) = ((i : Int) + (n : Int)) / 2 by push_cast; rfl)
   have HQ := Lib.hid (show SeS w n (.int .i64 (((i : Int) + (n : Int)) / 2 + 1)) (.int .i64 (n : Int)) wr from ⟨(i + n) / 2 + 1, by omega, by rw [← HM.out]; push_cast; rfl, rfl, HB.out⟩)
   go_wp2_with (go_at_call 58; refine HC.out.mono ?_; rintro e w' ⟨rfl, rfl⟩)
   go_roundw
   case rel => exact HQ.out
   case measure => rw [← HM.out]; simp only [jiM, intOf]; omega
  ·have hie : i = n := by omega
   subst hie
   have hltd : decide ((i : Int) < (i : Int)) = false := decide_eq_false (by omega)
   go_wp2
   go_ret
   exact ⟨rfl, HB.out⟩
end Go.Proofs.YteikbikopgabjaaGreatDoor
