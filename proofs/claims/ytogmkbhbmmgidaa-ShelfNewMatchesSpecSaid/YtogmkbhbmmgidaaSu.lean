/- shelf.Up, want. -/
import Derived.Test.YtogmkbhbmmgidaaSa
namespace Go.Proofs.Ytogmkbhbmmgidaa
open Go.RowKit Go.Sl Go.ChangeMaps

set_option maxHeartbeats 400000 in
theorem up_any (p : Nat) (S : ShelfM) (F : HProp) (w : World) (hS : Sat w (shelfAt SH p S * F)) :
    Calls Try.prog 20 #[.pointer (some ⟨p, 0, none⟩)] w fun e w' => e = .returned (.bool (!S.off)) ∧ w = w' := by
  obtain ⟨vb, vi, ps, qs, ⟨_, h1, h2⟩, hs⟩ := shelfAt_iff.1 hS
  obtain ⟨⟨q6, q7, q8, q9, q10⟩, hp, hfp, hra⟩ := shelf_cells hs
  clear hs hS hfp hra h1 h2
  go_enter Try.func20, Try.ntmps20
  go_wp2
  go_ret
  exact ⟨rfl, rfl⟩

set_option maxHeartbeats 400000 in
theorem want_any (p : Nat) (S : ShelfM) (F : HProp) (d : Int) (inn : Bool) (er : Int) (w : World) (hS : Sat w (shelfAt SH p S * F)) :
    Calls Try.prog 55 #[.pointer (some ⟨p, 0, none⟩), .int .i64 d, .bool inn, .int .i64 er] w fun e w' => e = .returned (.int .i64 (S.want d inn er)) ∧ w = w' := by
  have hacc : S.want d inn er = if S.state d = 0 then 1 else if decide (S.state d = 1) ≠ inn then er else 0 := rfl
  rw [hacc]
  have hst := state_any p S F d w hS
  generalize S.state d = st at *
  clear hS hacc
  by_cases h0 : st = 0
  · subst h0
    go_enter Try.func55, Try.ntmps55
    go_wp2_with (go_at_call 16; refine hst.mono ?_; rintro e w' ⟨rfl, rfl⟩)
    go_ret
    exact ⟨rfl, rfl⟩
  · have hb : (st == 0) = false := by simp [h0]
    rw [if_neg h0]
    by_cases h1 : st = 1
    · subst h1
      clear h0 hb
      cases inn
      · go_enter Try.func55, Try.ntmps55
        go_wp2_with (go_at_call 16; refine hst.mono ?_; rintro e w' ⟨rfl, rfl⟩)
        go_ret
        exact ⟨rfl, rfl⟩
      · go_enter Try.func55, Try.ntmps55
        go_wp2_with (go_at_call 16; refine hst.mono ?_; rintro e w' ⟨rfl, rfl⟩)
        go_ret
        exact ⟨rfl, rfl⟩
    · have hb1 : (st == 1) = false := by simp [h1]
      rw [decide_eq_false h1]
      clear h0 h1
      cases inn
      · go_enter Try.func55, Try.ntmps55
        go_wp2_with (go_at_call 16; refine hst.mono ?_; rintro e w' ⟨rfl, rfl⟩)
        go_ret
        exact ⟨rfl, rfl⟩
      · go_enter Try.func55, Try.ntmps55
        go_wp2_with (go_at_call 16; refine hst.mono ?_; rintro e w' ⟨rfl, rfl⟩)
        go_ret
        exact ⟨rfl, rfl⟩

end Go.Proofs.Ytogmkbhbmmgidaa
