/- A region that draws its order: the ways through it meet at its end. It speaks of no program. -/
import Derived.Test.YtnilepaicnnbhaaGreatDoorRs
namespace Go.Sl
open Go Go.RowKit
section
variable {P : Program} {ops : Array Oper} {Q Q1 Q2 : Exit → Act → World → Prop} {S : World → Prop}
theorem upon_weak {o : Oper} {a : Act} {K1 K2 : Act → World → Prop} (hP : ∀ c a w, Q1 (.panic c) a w → Q2 (.panic c) a w) (hL : LetsOut Q1 → LetsOut Q2) (hK : ∀ a w, K1 a w → K2 a w) {r : Result Next} (h : o.upon P a K1 Q1 r) : o.upon P a K2 Q2 r := by
  cases r with
  | ok x w' =>
    cases x <;> simp only [Oper.upon] at h ⊢ <;> first
      | exact hK _ _ h
      | exact Calls.mono h (fun e w'' he => by cases e <;> first | exact hK _ _ he | exact hP _ _ _ he | exact hL he)
      | exact Rows.mono h (fun _ _ he => hK _ _ he)
  | halt x w' =>
    cases x <;> simp only [Oper.upon] at h ⊢
    exact hP _ _ _ h
theorem wpOp_weak {i : Nat} {a : Act} {w : World} {K1 K2 : Act → World → Prop} (hP : ∀ c a w, Q1 (.panic c) a w → Q2 (.panic c) a w) (hL : LetsOut Q1 → LetsOut Q2) (hK : ∀ a w, K1 a w → K2 a w) (h : wpOp P ops Q1 i K1 a w) : wpOp P ops Q2 i K2 a w := by
  unfold wpOp at *
  split
  · next ho => rw [ho] at h; exact hK _ _ h
  · next o ho =>
    rw [ho] at h
    simp only at h
    split
    · next hw =>
      rw [if_pos hw] at h
      rcases h with h | h
      · left; unfold Oper.wp at *; exact upon_weak hP hL hK h
      · right; exact ⟨h.1, hL h.2⟩
    · next hw => rw [if_neg hw] at h; exact hK _ _ h
theorem wpAnyG_weak (hN : ∀ a w, Q1 .normal a w → Q2 .normal a w) (hP : ∀ c a w, Q1 (.panic c) a w → Q2 (.panic c) a w) (hL : LetsOut Q1 → LetsOut Q2) : ∀ (fuel : Nat) (listed : Array Bool) (a : Act) (w : World), wpAnyG P ops Q1 S fuel listed a w → wpAnyG P ops Q2 S fuel listed a w
  | 0, _, _, _, h => ⟨h.1, hN _ _ h.2⟩
  | fuel + 1, _, _, _, h => ⟨fun h0 => hN _ _ (h.1 h0), fun i hi => wpOp_weak hP hL (fun a' w' h' => ⟨h'.1, wpAnyG_weak hN hP hL fuel _ a' w' h'.2⟩) (h.2 i hi)⟩
/-- What holds at a region's end, and Q at every other way out. -/
def atEnd (Q : Exit → Act → World → Prop) (R : Array Value → List Deferred → World → Prop) : Exit → Act → World → Prop
  | .normal, a, w => R a.tmps a.defers w
  | e, a, w => Q e a w
end
section
variable {P : Program} {ops : Array Oper} {Q : Exit → Act → World → Prop} {S : World → Prop} {fuel : Nat} {listed : Array Bool} {t : Array Value} {df : List Deferred} {w : World}
/-- The ways meet. -/
theorem reg_cut (R : Array Value → List Deferred → World → Prop) (h : Reg P ops (atEnd Q R) S fuel listed t df w) (k : ∀ t' df' w', R t' df' w' → Q .normal ⟨t', df'⟩ w') : Reg P ops Q S fuel listed t df w :=
  ⟨fun hc => wpAnyG_weak (Q1 := NoPanic (atEnd Q R)) (Q2 := NoPanic Q) (fun a w (h : R a.tmps a.defers w) => (k _ _ _ h : Q .normal ⟨a.tmps, a.defers⟩ w)) (fun _ _ _ h => h) (fun ⟨a, w, h⟩ => ⟨a, w, h⟩) _ _ _ _ (h.out hc)⟩
theorem reg_cutT {T : Nat → Array Value × List Deferred} (K : Nat → World → Prop) (h : Reg P ops (atEnd Q fun t' df' w' => ∃ g, (t', df') = T g ∧ K g w') S fuel listed t df w) (k : ∀ g w', K g w' → Q .normal ⟨(T g).1, (T g).2⟩ w') : Reg P ops Q S fuel listed t df w :=
  reg_cut _ h fun t' df' w' ⟨g, hT, hK⟩ => by
    have h1 := congrArg Prod.fst hT
    have h2 := congrArg Prod.snd hT
    simp only at h1 h2
    subst h1 h2
    exact k g w' hK
end
end Go.Sl
