/- package matrix: Independent, Pick. -/
import Derived.Test.YtnilepaicnnbhaaDoorJm
namespace Go.Proofs.YtnilepaicnnbhaaDoor
open Go.RowKit Go.GF Go.Sl

theorem box_start (w : World) (c : Array Value) (t : TypeId) : Box (w.alloc (.cells c t)) w.heap.size c := ⟨t, World.alloc_heap_new w _⟩
set_option maxRecDepth 20000 in
set_option maxHeartbeats 2000000 in
theorem independent_any (m : Nat) (hm : isF m) (R C b cap : Nat) (hR : R ≤ 32) (hC : C ≤ 32) (hR0 : 0 < R) (hC0 : 0 < C) (hcap : R * C ≤ cap) (hcm : cap ≤ maxLen) (M : Mat) (hB : Bnd (2 ^ m) R C M) (w : World) (hT : TabF w) (hM : MatB w b R C M) :
    Calls Tryd.prog 34 #[.agg (matV m R C b cap)] w fun e w' => ∃ v, e = .returned v ∧ RowI w' v (intsV (natsI (redM (mulC m) (invC m) C R (fun i j => M j i)).1)) ∧ Below w.heap.size w w' := by
  have HTR := Lib.hid (fun W (hM : MatB W b R C M) => transpose_any m hm R C b cap hR hC hR0 hC0 hcap hcm M hB W hM)
  have HRE := Lib.hid (fun b' (hb : 0 < b') W hT hM => mreduce_any m hm C R b' (C * R) hC hR hR0 (Nat.le_refl _) hb (fun i j => M j i) (fun i hi j hj => hB j hj i hi) W hT hM)
  have H0 := Lib.hid (And.intro hT hM)
  clear hT hM hB hm hcap hcm
  unfold matV
  go_enter Tryd.func34, Tryd.ntmps34
  go_wp2_with first
    | (go_at_call 51; refine (HTR.out _ (H0.out.2.below (al_below w _))).mono ?_; rintro e w1 ⟨b', rfl, h1, h2, h3⟩; have hb1 := (al_below w _).trans (h3.mono (al_below w _).size); have hT1 := H0.out.1.below hb1; have h0b : 0 < b' := Nat.lt_of_lt_of_le H0.out.1.pos (Nat.le_trans (al_below w _).size h1); unfold matV)
    | (go_at_call 52; refine (HRE.out b' h0b _ (hT1.below (al_below w1 _)) (h2.below (al_below w1 _))).mono ?_; rintro e w2 ⟨v, rfl, h4, h5⟩)
  go_ret
  have hb2 : Below w.heap.size w w2 := (hb1.trans ((al_below w1 _).mono hb1.size)).trans (h5.below (Nat.le_trans (al_below w _).size h1) (Nat.le_trans hb1.size (al_below w1 _).size))
  exact ⟨v, rfl, h4, hb2⟩
end Go.Proofs.YtnilepaicnnbhaaDoor
