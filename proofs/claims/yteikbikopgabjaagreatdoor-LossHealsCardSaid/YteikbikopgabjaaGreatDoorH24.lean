import Derived.Test.YteikbikopgabjaaGreatDoorH20
import Derived.Test.YteikbikopgabjaaGreatDoorH21
import Derived.Test.YteikbikopgabjaaGreatDoorH23
import Derived.Test.YteikbikopgabjaaGreatDoorH01
import Derived.RegionTactic
import Derived.BigRegion
/- Part 24 of a proof; the last part says what is proved. -/
namespace Go.Sl
open Go Go.RowKit Go.GF
def bigs : Nat → (Nat → HProp) → HProp
 | 0, _ => emp
 | n + 1, P => P n * bigs n P
def hole (P : Nat → HProp) (i : Nat) : Nat → HProp := fun k => if k = i then emp else P k
theorem bigs_congr : ∀ {n : Nat} {P Q : Nat → HProp}, (∀ k, k < n → P k = Q k) → bigs n P = bigs n Q
 | 0, _, _, _ => rfl
 | n + 1, P, Q, h => by
  unfold bigs
  rw [h n (by omega), bigs_congr fun k hk => h k (by omega)]
theorem bigs_pick : ∀ {n i : Nat} (_ : i < n) (P : Nat → HProp), bigs n P = P i * bigs n (hole P i)
 | n + 1, i, h, P => by
  by_cases e : i = n
  ·subst e
   show P i * bigs i P = P i * (hole P i i * bigs i (hole P i))
   rw [show hole P i i = emp by unfold hole; rw [if_pos rfl], emp_star, bigs_congr (Q := P) (P := hole P i) fun k hk => by unfold hole; rw [if_neg (by omega)]]
  ·show P n * bigs n P = P i * (hole P i n * bigs n (hole P i))
   rw [bigs_pick (show i < n by omega) P, show hole P i n = P n by unfold hole; rw [if_neg (Ne.symm e)]]
   ac_rfl
theorem bigs_upd {n i : Nat} (h : i < n) {P Q : Nat → HProp} (hq : ∀ k, k ≠ i → Q k = P k) : bigs n Q = Q i * bigs n (hole P i) := by
 rw [bigs_pick h Q, bigs_congr (P := hole Q i) (Q := hole P i) fun k _ => by
  unfold hole
  by_cases e : k = i
  ·rw [if_pos e, if_pos e]
  ·rw [if_neg e, if_neg e, hq k e]]
def hdrV (C : Nat) (g : Nat × Nat) : Value := .slice (some ⟨g.1, 0, none⟩) C g.2
def rowS (T : TypeId) (g : Nat × Nat) (C : Nat) (f : Nat → Nat) : HProp :=
 ex fun c : Array Value => lift (C ≤ g.2 ∧ g.2 ≤ maxLen ∧ c.size = g.2 ∧ ∀ j, j < C → c[j]? = some (.int .i64 ((f j : Nat) : Int))) * pts g.1 (.cells c T (0, 0))
def hdrS (T : TypeId) (ga cap R C : Nat) (g : Nat → Nat × Nat) : HProp :=
 ex fun c : Array Value => lift (R ≤ cap ∧ cap ≤ maxLen ∧ c.size = cap ∧ ∀ i, i < R → c[i]? = some (hdrV C (g i))) * pts ga (.cells c T (0, 0))
def sysS (TS TR TI : TypeId) (gs m ga cap R C : Nat) (g : Nat → Nat × Nat) (M : Mat) : HProp :=
 pts gs (.cells #[.int .i64 (m : Int), .slice (some ⟨ga, 0, none⟩) R cap] TS (0, 0)) * (hdrS TR ga cap R C g * bigs R fun i => rowS TI (g i) C (M i))
section
variable {w : World} {F : HProp} {T TS TR TI : TypeId} {gs m ga cap R C : Nat} {g : Nat → Nat × Nat} {M : Mat}
theorem rowS_iff {g : Nat × Nat} {f : Nat → Nat} : Sat w (rowS T g C f * F) ↔ ∃ c : Array Value, (C ≤ g.2 ∧ g.2 ≤ maxLen ∧ c.size = g.2 ∧ ∀ j, j < C → c[j]? = some (.int .i64 ((f j : Nat) : Int))) ∧ Sat w (pts g.1 (.cells c T (0, 0)) * F) := by
 unfold rowS
 rw [Sat.ex]
 refine exists_congr fun c => ?_
 rw [star_assoc, Sat.lift]
theorem rowS_congr {g : Nat × Nat} {f f' : Nat → Nat} (h : ∀ j, j < C → f j = f' j) : rowS T g C f = rowS T g C f' := by
 unfold rowS
 congr 1
 funext c
 congr 2
 apply propext
 refine and_congr_right fun _ => and_congr_right fun _ => and_congr_right fun _ => forall_congr' fun j => forall_congr' fun hj => by rw [h j hj]
theorem sysS_congr {M' : Mat} (h : ∀ i, i < R → ∀ j, j < C → M i j = M' i j) : sysS TS TR TI gs m ga cap R C g M = sysS TS TR TI gs m ga cap R C g M' := by
 unfold sysS
 rw [bigs_congr fun k hk => rowS_congr (h k hk)]
theorem sys_pick {i : Nat} (hi : i < R) : sysS TS TR TI gs m ga cap R C g M * F = rowS TI (g i) C (M i) * (pts gs (.cells #[.int .i64 (m : Int), .slice (some ⟨ga, 0, none⟩) R cap] TS (0, 0)) * (hdrS TR ga cap R C g * (bigs R (hole (fun i => rowS TI (g i) C (M i)) i) * F))) := by
 unfold sysS
 rw [bigs_pick hi]
 ac_rfl
theorem sys_set (h : Sat w (sysS TS TR TI gs m ga cap R C g M * F)) {i j : Nat} (hi : i < R) (hj : j < C) (x : Nat) : Sat (w.setCell ⟨(g i).1, j, none⟩ (.int .i64 (x : Int))) (sysS TS TR TI gs m ga cap R C g (setM M i j x) * F) := by
 obtain ⟨c, ⟨h1, h2, h3, h4⟩, hs⟩ := rowS_iff.1 (h.perm (sys_pick hi))
 refine Sat.perm (rowS_iff.2 ⟨_, ⟨h1, h2, by simpa using h3, fun j' hj' => ?_⟩, hs.setCell (i := j) (.int .i64 (x : Int))⟩) (show rowS TI (g i) C (setM M i j x i) * _ = _ from ?_)
 ·unfold setM
  by_cases e : j' = j
  ·subst e
   rw [if_pos ⟨rfl, rfl⟩, Array.getElem?_setIfInBounds_self_of_lt (by omega)]
  ·rw [if_neg (fun h => e h.2), Array.getElem?_setIfInBounds_ne (Ne.symm e)]
   exact h4 j' hj'
 ·unfold sysS
  rw [bigs_upd (Q := fun k => rowS TI (g k) C (setM M i j x k)) (P := fun k => rowS TI (g k) C (M k)) hi fun k hk => by
   show rowS TI (g k) C (setM M i j x k) = rowS TI (g k) C (M k)
   congr 1
   funext j'
   unfold setM
   rw [if_neg (fun h => hk h.1)]]
  ac_rfl
end
end Go.Sl
namespace Go.GF
open Go
end Go.GF
namespace Go.Proofs.YteikbikopgabjaaGreatDoor
open Go.RowKit Go.GF Go.Sl
abbrev TSy : TypeId := 234
abbrev TRo : TypeId := 36
structure SysW (w0 : World) (gs m ga cap R C : Nat) (g : Nat → Nat × Nat) (M : Mat) (F : HProp) (w : World) : Prop where
 same : Same w0 w
 sat : Sat w (sysS TSy TRo TI gs m ga cap R C g M * F)
section
variable {w0 w w' : World} {gs m ga cap R C : Nat} {g : Nat → Nat × Nat} {M : Mat} {F : HProp}
theorem SysW.below (h : SysW w0 gs m ga cap R C g M F w) (hb : Below w.heap.size w w') : SysW w0 gs m ga cap R C g M F w' := ⟨h.same.below hb, h.sat.below hb⟩
theorem SysW.drew (h : SysW w0 gs m ga cap R C g M F w) : SysW w0 gs m ga cap R C g M F w.drew := ⟨h.same.drew, h.sat.drew⟩
theorem SysW.congr {M' : Mat} (h : SysW w0 gs m ga cap R C g M F w) (he : ∀ i, i < R → ∀ j, j < C → M i j = M' i j) : SysW w0 gs m ga cap R C g M' F w := ⟨h.same, h.sat.perm (by rw [sysS_congr he])⟩
theorem SysW.set (h : SysW w0 gs m ga cap R C g M F w) {i j : Nat} (hi : i < R) (hj : j < C) (x : Nat) : SysW w0 gs m ga cap R C g (setM M i j x) F (w.setCell ⟨(g i).1, j, none⟩ (.int .i64 (x : Int))) := ⟨h.same.setCell _ _, sys_set h.sat hi hj x⟩
end
end Go.Proofs.YteikbikopgabjaaGreatDoor
