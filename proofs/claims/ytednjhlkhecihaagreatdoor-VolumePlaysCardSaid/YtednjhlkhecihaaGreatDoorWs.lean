/- solventlaw27.sanity. Printed by vsn.py. -/
import Derived.Test.YtednjhlkhecihaaGreatDoorWd
import Derived.Test.YtednjhlkhecihaaGreatDoorWe
namespace Go.Vol
def sanOp : Nat → VOp
  | 0 => ⟨1, 3, 0, 0⟩
  | 1 => ⟨4, 0, 5, 70⟩
  | 2 => ⟨6, 0, 0, 0⟩
  | 3 => ⟨4, 0, 5, 71⟩
  | 4 => ⟨8, 0, 4, 0⟩
  | _ => ⟨9, 0, 0, 0⟩
def sanS : Nat → SpaceM
  | 0 => SpaceM.new
  | k + 1 => doM (sanS k) (sanOp k)
theorem san_zero : SpaceM.new = sanS 0 := rfl
theorem san_succ (k : Nat) : sanS (k + 1) = doM (sanS k) (sanOp k) := rfl
theorem san_step : ∀ k, k < 6 → (stepM (sanS k) (sanOp k)).e = 0 ∧ (stepM (sanS k) (sanOp k)).id = (if k = 4 then 1 else 0) := by decide +kernel
theorem san_look : (sanS 4).look 0 5 = (70, 0) := by decide +kernel
theorem san_get1 : (sanS 4).get 0 5 = (71, 0) := by decide +kernel
theorem san_get2 : (sanS 5).get 1 5 = (70, 0) := by decide +kernel
theorem san_get3 : (sanS 6).get 0 5 = (70, 0) := by decide +kernel
theorem san_get4 : (sanS 6).get 0 6 = (0, 12) := by decide +kernel
theorem san_get5 : (sanS 6).get 9 5 = (0, 12) := by decide +kernel
theorem san_get6 : (sanS 6).get 0 4096 = (0, 1) := by decide +kernel
end Go.Vol
namespace Go.Proofs.YtednjhlkhecihaaGreatDoor
open Go.RowKit Go.Vol Go.Sl
theorem san_wf : ∀ k, (sanS k).WF
  | 0 => SpaceM.WF.new
  | k + 1 => do_wf (san_wf k)
theorem san_refs1 : refsS (sanS 6) 70 = [(3, 2), (4, 1)] := by decide +kernel
theorem san_refs2 : refsS (sanS 6) 71 = [] := by decide +kernel
def sanA : Array Value := #[.int .i64 1, .int .i64 3, .int .i64 0, .int .i64 0, .int .i64 4, .int .i64 0, .int .i64 5, .int .i64 70, .int .i64 6, .int .i64 0, .int .i64 0, .int .i64 0, .int .i64 4, .int .i64 0, .int .i64 5, .int .i64 71]
attribute [local irreducible] sanS

theorem getV {p : Nat} {S : SpaceM} {v b c e0 : Int} {w : World} (hS : SpaceAt TNode TSp w p S) (h : S.get v b = (c, e0)) :
    Calls Tryz.prog 9 #[.pointer (some ⟨p, 0, none⟩), .int .i64 v, .int .i64 b] w fun e w' => e = .returned (.tuple #[.int .i64 c, .int .i64 e0]) ∧ Hid (Below w.heap.size w w' ∧ SpaceAt TNode TSp w' p S) :=
  (getS_any p S v b w hS).mono fun e w' ⟨h1, h2⟩ => ⟨by rw [h1, h], h2, hS.below h2⟩
theorem lookV {p : Nat} {S : SpaceM} {v b c e0 : Int} {w : World} (hS : SpaceAt TNode TSp w p S) (h : S.look v b = (c, e0)) :
    Calls Tryz.prog 11 #[.pointer (some ⟨p, 0, none⟩), .int .i64 v, .int .i64 b] w fun e w' => e = .returned (.tuple #[.int .i64 c, .int .i64 e0]) ∧ Hid (Below w.heap.size w w' ∧ SpaceAt TNode TSp w' p S) :=
  (lookS_any p S v b w hS).mono fun e w' ⟨h1, h2⟩ => ⟨by rw [h1, h], h2, hS.below h2⟩
theorem sanV {p k : Nat} {d a b c : Int} {w : World} (hS : SpaceAt TNode TSp w p (sanS k)) (hk : k < 6) (ho : sanOp k = ⟨d, a, b, c⟩) (i : Int) (hi : i = if k = 4 then 1 else 0) :
    Calls Tryz.prog 6 #[.pointer (some ⟨p, 0, none⟩), .agg #[.int .i64 d, .int .i64 a, .int .i64 b, .int .i64 c]] w fun e w' => ∃ p' : Nat, e = .returned (.tuple #[.pointer (some ⟨p', 0, none⟩), .int .i64 i, .int .i64 0]) ∧ Hid (Below w.heap.size w w' ∧ SpaceAt TNode TSp w' p' (sanS (k + 1))) :=
  (do_any p (sanS k) ⟨d, a, b, c⟩ w hS (san_wf k)).mono fun e w' ⟨p', h1, h2⟩ => by
    have hs := san_step k hk
    rw [ho] at hs
    refine ⟨p', by rw [h1, hs.1, hs.2, hi], h2.out.1, ?_⟩
    have h3 := h2.out.2
    rw [← ho] at h3
    rw [san_succ]; exact h3

theorem rows_lit (w1 : World) : RowsAt (w1.alloc (.cells #[.int .i64 3, .int .i64 2, .int .i64 4, .int .i64 1] TRef)) (.slice (some ⟨w1.heap.size, 0, none⟩) 2 2) 2 (([(3, 2), (4, 1)] : List (Nat × Int)).flatMap refE) :=
  ⟨_, 2, rfl, ⟨Nat.le_refl _, by simp⟩, by unfold maxLen; omega, fun _ => ⟨_, rfl, by simp, fun j u hu => by rw [cells_at (heap_alloc_new _ _)]; simpa [refE] using hu⟩⟩
/-- The loop over the first four operations. -/
structure SanSt (w : World) (g : Nat) (v i wr : _) : Prop where
  st : ∃ k p : Nat, k ≤ 4 ∧ i = Value.int .i64 (k : Int) ∧ v = Value.pointer (some ⟨p, 0, none⟩) ∧ Hid ((Below w.heap.size w wr ∧ SpaceAt TNode TSp wr p (sanS k)) ∧ wr.heap[g]? = some (.cells sanA TVOp (0, 0)))
set_option maxRecDepth 20000 in
set_option maxHeartbeats 4000000 in
theorem sanity_any (w : World) : Calls Tryz.prog 4 #[] w fun e w' => e = .returned (.bool true) ∧ Below w.heap.size w w' := by
  have HN := Lib.hid (new_any w)
  go_enter Tryz.func4, Tryz.ntmps4
  go_wp2_with (go_at_call 5; refine HN.out.mono ?_; rintro e w1 ⟨p0, rfl, h1⟩)
  have hg := World.alloc_heap_new w1 (.cells sanA TVOp)
  have hb := h1.out.1.alloc h1.out.1.size (.cells sanA TVOp)
  have hs := h1.out.2.below ((Below.refl _ _).alloc (Nat.le_refl _) (.cells sanA TVOp))
  have HST : SanSt w w1.heap.size (.pointer (some ⟨p0, 0, none⟩)) (.int .i64 ((0 : Nat) : Int)) (w1.alloc (.cells sanA TVOp)) := ⟨⟨0, p0, by omega, rfl, rfl, ⟨hb, by rw [← san_zero]; exact hs⟩, hg⟩⟩
  have HST := Lib.hid HST
  unfold sanA at HST
  generalize w1.alloc _ = W0 at HST ⊢
  generalize w1.heap.size = g at HST ⊢
  clear hg hb hs h1 HN
  go_loopw [1, 3] (fun v i wr => SanSt w g v i wr) (fun _ i _ => 4 - (intOf i).toNat)
  case atStart => exact HST.out
  case round =>
    obtain ⟨k, p, hk, rfl, rfl, HS0⟩ := hrel.st
    clear hrel HST
    have HS := Lib.hid HS0.out.1
    have HGG := Lib.hid HS0.out.2
    clear HS0
    obtain rfl | rfl | rfl | rfl | rfl : k = 0 ∨ k = 1 ∨ k = 2 ∨ k = 3 ∨ k = 4 := by omega
    · have c0 : wr.cell? ⟨g, 0, none⟩ = _ := cells_at HGG.out 0; have c1 : wr.cell? ⟨g, 1, none⟩ = _ := cells_at HGG.out 1; have c2 : wr.cell? ⟨g, 2, none⟩ = _ := cells_at HGG.out 2; have c3 : wr.cell? ⟨g, 3, none⟩ = _ := cells_at HGG.out 3
      simp only [sanA] at c0 c1 c2 c3
      go_wp2_with (go_at_call 6; refine (sanV HS.out.2 (by decide) rfl 0 rfl).mono ?_; rintro e w2 ⟨p', rfl, h2⟩)
      exact ⟨⟨1, p', by omega, rfl, rfl, ⟨HS.out.1.trans (h2.out.1.mono HS.out.1.size), h2.out.2⟩, (h2.out.1.block g (Array.getElem?_eq_some_iff.1 HGG.out).1).trans HGG.out⟩, by simp [intOf]⟩
    · have c0 : wr.cell? ⟨g, 4, none⟩ = _ := cells_at HGG.out 4; have c1 : wr.cell? ⟨g, 5, none⟩ = _ := cells_at HGG.out 5; have c2 : wr.cell? ⟨g, 6, none⟩ = _ := cells_at HGG.out 6; have c3 : wr.cell? ⟨g, 7, none⟩ = _ := cells_at HGG.out 7
      simp only [sanA] at c0 c1 c2 c3
      go_wp2_with (go_at_call 6; refine (sanV HS.out.2 (by decide) rfl 0 rfl).mono ?_; rintro e w2 ⟨p', rfl, h2⟩)
      exact ⟨⟨2, p', by omega, rfl, rfl, ⟨HS.out.1.trans (h2.out.1.mono HS.out.1.size), h2.out.2⟩, (h2.out.1.block g (Array.getElem?_eq_some_iff.1 HGG.out).1).trans HGG.out⟩, by simp [intOf]⟩
    · have c0 : wr.cell? ⟨g, 8, none⟩ = _ := cells_at HGG.out 8; have c1 : wr.cell? ⟨g, 9, none⟩ = _ := cells_at HGG.out 9; have c2 : wr.cell? ⟨g, 10, none⟩ = _ := cells_at HGG.out 10; have c3 : wr.cell? ⟨g, 11, none⟩ = _ := cells_at HGG.out 11
      simp only [sanA] at c0 c1 c2 c3
      go_wp2_with (go_at_call 6; refine (sanV HS.out.2 (by decide) rfl 0 rfl).mono ?_; rintro e w2 ⟨p', rfl, h2⟩)
      exact ⟨⟨3, p', by omega, rfl, rfl, ⟨HS.out.1.trans (h2.out.1.mono HS.out.1.size), h2.out.2⟩, (h2.out.1.block g (Array.getElem?_eq_some_iff.1 HGG.out).1).trans HGG.out⟩, by simp [intOf]⟩
    · have c0 : wr.cell? ⟨g, 12, none⟩ = _ := cells_at HGG.out 12; have c1 : wr.cell? ⟨g, 13, none⟩ = _ := cells_at HGG.out 13; have c2 : wr.cell? ⟨g, 14, none⟩ = _ := cells_at HGG.out 14; have c3 : wr.cell? ⟨g, 15, none⟩ = _ := cells_at HGG.out 15
      simp only [sanA] at c0 c1 c2 c3
      go_wp2_with (go_at_call 6; refine (sanV HS.out.2 (by decide) rfl 0 rfl).mono ?_; rintro e w2 ⟨p', rfl, h2⟩)
      exact ⟨⟨4, p', by omega, rfl, rfl, ⟨HS.out.1.trans (h2.out.1.mono HS.out.1.size), h2.out.2⟩, (h2.out.1.block g (Array.getElem?_eq_some_iff.1 HGG.out).1).trans HGG.out⟩, by simp [intOf]⟩
    · clear HGG
      go_upto_region 11 with (go_at_call 11; refine (lookV HS.out.2 san_look).mono ?_; rintro e w1 ⟨rfl, h2⟩; replace HS := Lib.hid (And.intro (HS.out.1.trans (h2.out.1.mono HS.out.1.size)) h2.out.2); clear h2)
      go_upto_region 12 with (go_at_call 9; refine (getV HS.out.2 san_get1).mono ?_; rintro e w1 ⟨rfl, h2⟩; replace HS := Lib.hid (And.intro (HS.out.1.trans (h2.out.1.mono HS.out.1.size)) h2.out.2); clear h2)
      go_upto_region 13 with (go_at_call 6; refine (sanV (k := 4) HS.out.2 (by decide) rfl 1 rfl).mono ?_; rintro e w1 ⟨p4, rfl, h2⟩; replace HS := Lib.hid (And.intro (HS.out.1.trans (h2.out.1.mono HS.out.1.size)) h2.out.2); clear h2)
      go_upto_region 14 with (go_at_call 9; refine (getV HS.out.2 san_get2).mono ?_; rintro e w1 ⟨rfl, h2⟩; replace HS := Lib.hid (And.intro (HS.out.1.trans (h2.out.1.mono HS.out.1.size)) h2.out.2); clear h2)
      go_upto_region 15 with (go_at_call 6; refine (sanV (k := 5) HS.out.2 (by decide) rfl 0 rfl).mono ?_; rintro e w1 ⟨p5, rfl, h2⟩; replace HS := Lib.hid (And.intro (HS.out.1.trans (h2.out.1.mono HS.out.1.size)) h2.out.2); clear h2)
      go_upto_region 16 with (go_at_call 9; refine (getV HS.out.2 san_get3).mono ?_; rintro e w1 ⟨rfl, h2⟩; replace HS := Lib.hid (And.intro (HS.out.1.trans (h2.out.1.mono HS.out.1.size)) h2.out.2); clear h2)
      go_upto_region 17 with (go_at_call 9; refine (getV HS.out.2 san_get4).mono ?_; rintro e w1 ⟨rfl, h2⟩; replace HS := Lib.hid (And.intro (HS.out.1.trans (h2.out.1.mono HS.out.1.size)) h2.out.2); clear h2)
      go_upto_region 18 with (go_at_call 9; refine (getV HS.out.2 san_get5).mono ?_; rintro e w1 ⟨rfl, h2⟩; replace HS := Lib.hid (And.intro (HS.out.1.trans (h2.out.1.mono HS.out.1.size)) h2.out.2); clear h2)
      go_upto_region 19 with (go_at_call 9; refine (getV HS.out.2 san_get6).mono ?_; rintro e w1 ⟨rfl, h2⟩; replace HS := Lib.hid (And.intro (HS.out.1.trans (h2.out.1.mono HS.out.1.size)) h2.out.2); clear h2)
      go_wp2_with (first
        | (go_at_call 17; (with_reducible refine (refsS_any _ _ 70 _ HS.out.2 (san_wf 6)).mono ?_); rintro e w1 ⟨v1, rfl, h2⟩; rw [san_refs1] at h2; replace HS := Lib.hid (And.intro (HS.out.1.trans (h2.out.1.mono HS.out.1.size)) (HS.out.2.below h2.out.1)); have HV := Lib.hid h2.out.2; clear h2)
        | (go_at_call 16; refine (refs_any _ _ [(3, 2), (4, 1)] [(3, 2), (4, 1)] _ (HV.out.below ((Below.refl _ _).alloc (Nat.le_refl _) _)) (rows_lit _)).mono ?_; rintro e w3 ⟨rfl, h3⟩; have hA := ((Below.refl _ w1).alloc (Nat.le_refl _) _).trans (h3.mono (by simp)); replace HS := Lib.hid (And.intro (HS.out.1.trans (hA.mono HS.out.1.size)) (HS.out.2.below hA)); clear hA h3 HV)
        | (go_at_call 17; (with_reducible refine (refsS_any _ _ 71 _ HS.out.2 (san_wf 6)).mono ?_); rintro e w4 ⟨v2, rfl, h4⟩; rw [san_refs2] at h4; obtain ⟨ao, cap, rfl, _⟩ := h4.out.2))
      go_ret
      exact ⟨rfl, HS.out.1.trans (h4.out.1.mono HS.out.1.size)⟩
def runV (S : SpaceM) (l : List VOp) : SpaceM := l.foldl doM S
theorem runV_take {l : List VOp} {k : Nat} {o : VOp} (h : l[k]? = some o) (S : SpaceM) : runV S (l.take (k + 1)) = doM (runV S (l.take k)) o := by
  unfold runV
  rw [List.take_add_one, h, List.foldl_append]; rfl
theorem runV_wf {S : SpaceM} (h : S.WF) : ∀ l : List VOp, (runV S l).WF := by
  intro l
  induction l generalizing S with
  | nil => exact h
  | cons o r ih => exact ih (do_wf h)
/-- The loop over a script. -/
structure RunSt (w : World) (l : List VOp) (s i : Value) (wr : World) : Prop where
  st : ∃ k p : Nat, k ≤ l.length ∧ i = .int .i64 (k : Int) ∧ s = .pointer (some ⟨p, 0, none⟩) ∧ Hid (Below w.heap.size w wr ∧ SpaceAt TNode TSp wr p (runV SpaceM.new (l.take k)))
end Go.Proofs.YtednjhlkhecihaaGreatDoor
