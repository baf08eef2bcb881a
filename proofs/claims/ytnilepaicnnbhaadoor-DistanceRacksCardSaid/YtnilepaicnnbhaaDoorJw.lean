/- package erasure: Decodable. -/
import Derived.Test.YtnilepaicnnbhaaDoorJv
namespace Go.Proofs.YtnilepaicnnbhaaDoor
open Go.RowKit Go.GF Go.Sl

set_option maxRecDepth 20000 in
set_option maxHeartbeats 1000000 in
theorem decodable_any (cv : Array Value) (c : CodeM) (hv : Value) (h : List Bool) (hl : h.length = c.n) (w : World) (hT : TabF w) (hc : CodeAt w cv c) (hr : RowI w hv (boolsV h)) :
    Calls Tryd.prog 12 #[.agg cv, hv] w fun e w' => e = .returned (.bool (decL c h)) ∧ Below w.heap.size w w' := by
  have HB := Lib.hid (fun W (hb : Below w.heap.size w W) => basis_any cv c hv h hl W (hT.below hb) (hc.below hb) (hr.below hb))
  have HCB := Lib.hid (fun t w1 h => code_box w w1 cv t h)
  obtain ⟨⟨nm, pv, dom, rfl, hp⟩, -, -, -⟩ := hc
  have hD : decL c h = decide ((basU c (units h)).length = c.k) := by rw [basU_len]; rfl
  rw [hD]
  clear hD hp hl hT hr
  unfold codeV at *
  go_enter Tryd.func12, Tryd.ntmps12
  go_wp2_with (go_at_call 21; refine (HB.out _ (al_below w _)).mono ?_; rintro e w1 ⟨v, rfl, h1, h2⟩; obtain ⟨ao, cp, rfl, -, -, -⟩ := h1; rw [intsV_len, natsI_len]; obtain ⟨hg, hb⟩ := HCB.out _ w1 h2; obtain ⟨c0, c1, c2, c3, -⟩ := Box.code (nm := nm) (dom := dom) hg)
  go_ret
  have he : ((((basU c (units h)).length : Nat) : Int) == ((c.k : Nat) : Int)) = decide ((basU c (units h)).length = c.k) := by
    rw [Bool.eq_iff_iff]
    simp only [beq_iff_eq, decide_eq_true_eq]; omega
  exact ⟨by rw [← he]; rfl, hb⟩
end Go.Proofs.YtnilepaicnnbhaaDoor
