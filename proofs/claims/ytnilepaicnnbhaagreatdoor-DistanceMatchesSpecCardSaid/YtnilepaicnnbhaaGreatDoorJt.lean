/- append of one own row of integers onto another. -/
import Derived.Test.YtnilepaicnnbhaaGreatDoorJr
import Derived.Laws.AppendOwnNone
namespace Go.Proofs.YtnilepaicnnbhaaGreatDoor
open Go.RowKit Go.GF Go.Sl
theorem run_apB {w : World} {base base2 g n cp : Nat} {L L2 : List Int} {v2 : Value} (hown : OwnI base w (.slice (some ⟨g, 0, none⟩) n cp) L) (h2 : OwnI base2 w v2 L2) (hn : L.length + L2.length ≤ 100000) (hb : base ≤ w.heap.size) :
    ∃ v' w', (Builtin.append_ #[26, 26] 26 #[.slice (some ⟨g, 0, none⟩) n cp, v2]).run Tryz.prog w = .ok v' w' ∧ OwnI base w' v' (L ++ L2) ∧ But g w w' := by
  obtain ⟨i0, hi, hz0, hz1, hz2⟩ := info_parts info_int3
  rcases h2.2 with ⟨rfl, hn2⟩ | ⟨g2, cap2, cur, rfl, -⟩
  · have hL2 : L2 = [] := List.eq_nil_of_length_eq_zero hn2
    subst hL2
    have hr := run_append_owned_none (P := Tryz.prog) (w := w) base 26 26 TI i0 1 Tryz.underlying26 hi (.slice (some ⟨g, 0, none⟩) n cp) L.length (intsV L) hown
    exact ⟨_, w, hr, by rw [List.append_nil]; exact hown, But.refl _ _⟩
  · obtain ⟨v', w', hr, h3, h4, h5⟩ := run_append_own (P := Tryz.prog) w base 26 26 TI i0 (.int .i64 0) 1 8 Tryz.underlying26 hi hz0 hz1 hz2 rfl (by decide) (.slice (some ⟨g, 0, none⟩) n cp) L.length (intsV L) hown ⟨g2, 0, none⟩ L2.length cap2 (intsV L2) (by rw [intsV_len, Nat.mul_one])
      (World.ownsRow.cells h2 (g := g2) rfl)
      (by
        intro u hu
        unfold intsV at hu
        obtain ⟨x, -, rfl⟩ := List.mem_map.1 hu
        rfl) (by unfold maxLen; omega) (by omega) hb
    refine ⟨v', w', hr, ?_, ⟨h4.os, h4.tape, h4.output, h4.size, fun k hk hne => h4.block k hk (by simpa [Value.ownBlock] using hne)⟩⟩
    show w'.ownsRow base TI 1 v' (L ++ L2).length (intsV (L ++ L2))
    rw [intsV_app, List.length_append]
    exact h3
end Go.Proofs.YtnilepaicnnbhaaGreatDoor
