/- design.Check. -/
import Derived.Test.YtogmkbhbmmgidaaSa
namespace Go.Proofs.Ytogmkbhbmmgidaa
open Go.RowKit Go.Sl Go.ChangeMaps

set_option maxHeartbeats 400000 in
theorem within_any (n lo hi : Int) (w : World) : Calls Try.prog 56 #[.int .i64 n, .int .i64 lo, .int .i64 hi] w fun e w' => e = .returned (.bool (inB n lo hi)) ∧ w = w' := by
  by_cases h : lo ≤ n
  · have hb : inB n lo hi = decide (n ≤ hi) := by unfold inB; rw [decide_eq_true h]; rfl
    rw [hb]
    have hd : decide (lo ≤ n) = true := decide_eq_true h
    clear h hb
    go_enter Try.func56, Try.ntmps56
    go_wp2
    go_ret
    exact ⟨rfl, rfl⟩
  · have hb : inB n lo hi = false := by unfold inB; rw [decide_eq_false h]; rfl
    rw [hb]
    have hd : decide (lo ≤ n) = false := decide_eq_false h
    clear h hb
    go_enter Try.func56, Try.ntmps56
    go_wp2
    go_ret
    exact ⟨rfl, rfl⟩

set_option maxHeartbeats 8000000 in
theorem check_any (c : CfgM) (w : World) : Calls Try.prog 30 #[.agg (cfgA c)] w fun e w' => e = .returned (.int .i64 (if c.ok = true then 0 else 1)) ∧ Below w.heap.size w w' := by
  have hok : c.ok = (inB c.disks 1 64 && inB c.racks 1 8 && inB c.rows 1 4096 && inB c.spare 0 (c.disks - 1) && inB c.log 1 65536 && inB c.image 1 65536 && decide (c.disks % c.racks = 0)) := rfl
  cases h1 : inB c.disks 1 64
  case false =>
    have he : c.ok = false := by rw [hok]; simp [h1]
    rw [he]
    clear he hok
    go_enter Try.func30, Try.ntmps30
    go_wp2_with (go_at_call 56; refine (within_any _ _ _ _).mono ?_; rintro e w' ⟨rfl, rfl⟩)
    go_ret
    exact ⟨rfl, (Below.refl _ _).alloc (Nat.le_refl _) _⟩
  have hd := h1; unfold inB at hd; simp only [Bool.and_eq_true, decide_eq_true_eq] at hd
  have hd1 := hd.1; have hd2 := hd.2; clear hd
  cases h2 : inB c.racks 1 8
  case false =>
    have he : c.ok = false := by rw [hok]; simp [h2]
    rw [he]
    clear he hok
    go_enter Try.func30, Try.ntmps30
    go_wp2_with (go_at_call 56; refine (within_any _ _ _ _).mono ?_; rintro e w' ⟨rfl, rfl⟩)
    go_ret
    exact ⟨rfl, (Below.refl _ _).alloc (Nat.le_refl _) _⟩
  have hr := h2; unfold inB at hr; simp only [Bool.and_eq_true, decide_eq_true_eq] at hr
  have hr1 := hr.1; have hr2 := hr.2; clear hr
  cases h3 : inB c.rows 1 4096
  case false =>
    have he : c.ok = false := by rw [hok]; simp [h3]
    rw [he]
    clear he hok
    go_enter Try.func30, Try.ntmps30
    go_wp2_with (go_at_call 56; refine (within_any _ _ _ _).mono ?_; rintro e w' ⟨rfl, rfl⟩)
    go_ret
    exact ⟨rfl, (Below.refl _ _).alloc (Nat.le_refl _) _⟩
  cases h4 : inB c.spare 0 (c.disks - 1)
  case false =>
    have he : c.ok = false := by rw [hok]; simp [h4]
    rw [he]
    clear he hok
    go_enter Try.func30, Try.ntmps30
    go_wp2_with (go_at_call 56; refine (within_any _ _ _ _).mono ?_; rintro e w' ⟨rfl, rfl⟩)
    go_ret
    exact ⟨rfl, (Below.refl _ _).alloc (Nat.le_refl _) _⟩
  cases h5 : inB c.log 1 65536
  case false =>
    have he : c.ok = false := by rw [hok]; simp [h5]
    rw [he]
    clear he hok
    go_enter Try.func30, Try.ntmps30
    go_wp2_with (go_at_call 56; refine (within_any _ _ _ _).mono ?_; rintro e w' ⟨rfl, rfl⟩)
    go_ret
    exact ⟨rfl, (Below.refl _ _).alloc (Nat.le_refl _) _⟩
  cases h6 : inB c.image 1 65536
  case false =>
    have he : c.ok = false := by rw [hok]; simp [h6]
    rw [he]
    clear he hok
    go_enter Try.func30, Try.ntmps30
    go_wp2_with (go_at_call 56; refine (within_any _ _ _ _).mono ?_; rintro e w' ⟨rfl, rfl⟩)
    go_ret
    exact ⟨rfl, (Below.refl _ _).alloc (Nat.le_refl _) _⟩
  by_cases h7 : c.disks % c.racks = 0
  · have he : c.ok = true := by rw [hok]; simp [h1, h2, h3, h4, h5, h6, h7]
    rw [he]
    have h7' : (c.disks % c.racks != 0) = false := by simp [h7]
    clear he hok h7
    go_enter Try.func30, Try.ntmps30
    go_wp2_with (go_at_call 56; refine (within_any _ _ _ _).mono ?_; rintro e w' ⟨rfl, rfl⟩)
    go_ret
    exact ⟨rfl, (Below.refl _ _).alloc (Nat.le_refl _) _⟩
  · have he : c.ok = false := by rw [hok]; simp [h1, h2, h3, h4, h5, h6, h7]
    rw [he]
    have h7' : (c.disks % c.racks != 0) = true := by simp [h7]
    clear he hok h7
    go_enter Try.func30, Try.ntmps30
    go_wp2_with (go_at_call 56; refine (within_any _ _ _ _).mono ?_; rintro e w' ⟨rfl, rfl⟩)
    go_ret
    exact ⟨rfl, (Below.refl _ _).alloc (Nat.le_refl _) _⟩

end Go.Proofs.Ytogmkbhbmmgidaa
