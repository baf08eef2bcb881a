/- A range over a function whose body holds an assertion of separation: the law for the loop, out of the iterator's. -/
import Derived.RangeFuncWrites
import Derived.Test.YtbegomjbakidmaaSl
namespace Go.Sl
open Go Go.RowKit

/-- An iterator that yields the list xs, one after the other; Bx: what it holds itself. What the rounds hold is theirs alone. -/
def SeqSat {α : Type} (F : Fence) (n : Nat) (P : Program) (gf : Nat) (lb : Array Value) (encs : α → Array Value) (xs : List α) (Bx : HProp) (w0 : World) : Prop :=
  ∀ (l : Nat) (J : Nat → HProp) (Jx : HProp) (W : World),
    (∀ i x W1 G, xs[i]? = some x → Same w0 W1 → Sat W1 (J i * (Bx * G)) → YieldAt F (n - 1) P l (encs x) W1 fun e W' =>
      (e = .returned (.bool true) ∧ Same w0 W' ∧ Sat W' (J (i + 1) * (Bx * G))) ∨ (e = .returned (.bool false) ∧ Same w0 W' ∧ Sat W' (Jx * (Bx * G)))) →
    Same w0 W → Sat W (J 0 * Bx) →
    CallsIn F n P gf (#[.func (.yield l) #[] #[]] ++ lb) W fun e W' => (∃ v, e = .returned v) ∧ ((Same w0 W' ∧ Sat W' (J xs.length * Bx)) ∨ (Same w0 W' ∧ Sat W' (Jx * Bx)))
/-- How the body of a round may be left. -/
def satPost (w0 : World) (R : HProp) (Rx : Code → HProp) (G : HProp) : Exit → Act → World → Prop
  | .normal, _, W' => Same w0 W' ∧ Sat W' (R * G)
  | .ret, _, W' => Same w0 W' ∧ Sat W' (Rx .ret * G)
  | .exit id, _, W' => Same w0 W' ∧ Sat W' (Rx (.exit id) * G)
  | .goto t, _, W' => Same w0 W' ∧ Sat W' (Rx (.goto t) * G)
  | .panic _, _, _ => False
  | .outgrown, _, _ => False

theorem wpIn_rangeFunc_sat {α : Type} {F : Fence} {n : Nat} {P : Program} {g : Operand} {ps : Array Tmp} {assign body : Code} {Q : Exit → Act → World → Prop} {a : Act} {w : World}
    (hro : F.round = none) (h1 : 1 ≤ n) {gf : Nat} {lb : Array Value} (hg : a.eval g = .func (.func gf) #[] lb) (hFg : F.fn gf) (eg : ∀ args w, (callFunc gf args).run P w = .ok (.enter gf args) w)
    {encs : α → Array Value} {xs : List α} {Bx : HProp} {w0 : World} (hseq : SeqSat F (n - 1) P gf lb encs xs Bx w0) (hps : ∀ x, (encs x).size = ps.size)
    (R : Nat → HProp) (Rx : Code → HProp) (hsm : Same w0 w) (h0 : Sat w (R 0 * Bx)) (a₁ : α → Act)
    (hassign : ∀ (l : Nat) (x : α) (W : World) (K : Act → World → Prop), K (a₁ x) W →
      assign.wpIn (F.inRound l) (n - 1 - 1) P (Exit.then K (fun _ _ _ => False)) { tmps := (ps.zip (encs x)).foldl (fun t (p, v) => t.setIfInBounds p v) a.tmps, defers := [] } W)
    (hbody : ∀ (l i : Nat) (x : α) (G : HProp) (W : World), xs[i]? = some x → Same w0 W → Sat W (R i * G) → body.wpIn (F.inRound l) (n - 1 - 1) P (satPost w0 (R (i + 1)) Rx G) (a₁ x) W)
    (hdone : ∀ (D : Nat) (W : World), Same w0 W → Sat W (R xs.length * (pts D (.deferred (some [])) * Bx)) → Q .normal { a with defers := { target := .collected D, args := #[] } :: a.defers } W)
    (hstop : ∀ (D : Nat) (c : Code) (W : World), Same w0 W → Sat W (Rx c * (pts D (.deferred (some [])) * Bx)) → c.wpIn F n P Q { a with defers := { target := .collected D, args := #[] } :: a.defers } W) :
    (Code.rangeFunc g ps assign body).wpIn F n P Q a w := by
  refine wpIn_rangeFunc ?_
  intro fn hfn
  rw [hro]
  obtain ⟨rec, hrec⟩ : ∃ rec : LoopState → Option Code → Loop, rec = fun st pe => { state := st, pending := pe, fn, tmps := a.tmps, params := ps, assign, body, defers := w.heap.size } := ⟨_, rfl⟩
  obtain ⟨W1, hW1⟩ : ∃ W1, (w.alloc (.deferred (some []))).alloc (.loop (rec .ready none)) = W1 := ⟨_, rfl⟩
  have hS1 : Sat W1 (pts (w.heap.size + 1) (.loop (rec .ready none)) * (pts w.heap.size (.deferred (some [])) * (R 0 * Bx))) := by
    have h := (h0.alloc (.deferred (some []))).alloc (.loop (rec .ready none))
    rw [World.size_alloc, hW1] at h
    exact h
  have hM1 : Same w0 W1 := by rw [← hW1]; exact (hsm.alloc _).alloc _
  refine ⟨w.heap.size + 1, [{ target := .collected w.heap.size, args := #[] }], W1, { target := .fn (.func gf) lb, args := #[.func (.yield (w.heap.size + 1)) #[] #[]] }, W1, gf,
    #[.func (.yield (w.heap.size + 1)) #[] #[]] ++ lb, W1, ?_, ?_, ?_, ?_, fun _ => h1, ?_⟩
  · rw [← hW1, hrec]; exact run_enterLoop_outer _ _ _ _ _
  · simp only [resolve, hg]
    simp [go_sem]
  · intro f' hf'; simp [Target.leads] at hf'; subst hf'; exact hFg
  · simp [invoke, go_sem, eg]
  · generalize w.heap.size = D at hS1 hrec ⊢
    refine (hseq (D + 1) (fun i => R i * (pts (D + 1) (.loop (rec .ready none)) * pts D (.deferred (some [])))) (ex fun c => Rx c * (pts (D + 1) (.loop (rec .done (some c))) * pts D (.deferred (some []))))
      W1 ?_ hM1 (hS1.perm (by ac_rfl))).mono ?_
    · rintro i x W G' hx hm hs
      have hsl : Sat W (pts (D + 1) (.loop (rec .ready none)) * (R i * (pts D (.deferred (some [])) * (Bx * G')))) := hs.perm (by ac_rfl)
      have hl := hsl.block
      have hy := run_yield (P := P) (args := encs x) hl (by rw [hrec]; exact hps x)
      rw [hrec] at hy
      refine ⟨fn, _, assign, body, hy, roundIn_of_wpIn hfn (hassign _ x W _ ⟨_, run_beginRound hl (by rw [hrec]), ?_⟩)⟩
      have hs2 : Sat (W.putObj (D + 1) (.loop { rec .ready none with state := .busy })) (pts (D + 1) (.loop { rec .ready none with state := .busy }) * (R i * (pts D (.deferred (some [])) * (Bx * G')))) := hsl.putObj
      have hm2 : Same w0 (W.putObj (D + 1) (.loop { rec .ready none with state := .busy })) := hm.putObj _ _
      refine wpIn_mono (hbody _ i x (pts (D + 1) (.loop { rec .ready none with state := .busy }) * (pts D (.deferred (some [])) * (Bx * G'))) _ hx hm2 (hs2.perm (by ac_rfl))) ?_
      have fin : ∀ (jump : Option Code) (W3 : World) (X : HProp), Same w0 W3 → Sat W3 (X * (pts (D + 1) (.loop { rec .ready none with state := .busy }) * (pts D (.deferred (some [])) * (Bx * G')))) →
          (Instr.endRound (D + 1) jump).run P W3 = .ok (.bool jump.isNone) (W3.putObj (D + 1) (.loop (rec (if jump.isNone then .ready else .done) jump))) ∧
          Same w0 (W3.putObj (D + 1) (.loop (rec (if jump.isNone then .ready else .done) jump))) ∧
          Sat (W3.putObj (D + 1) (.loop (rec (if jump.isNone then .ready else .done) jump))) (X * (pts (D + 1) (.loop (rec (if jump.isNone then .ready else .done) jump)) * pts D (.deferred (some []))) * (Bx * G')) := fun jump W3 X hm3 hs3 => by
        have hs4 : Sat W3 (pts (D + 1) (.loop { rec .ready none with state := .busy }) * (X * (pts D (.deferred (some [])) * (Bx * G')))) := hs3.perm (by ac_rfl)
        have hl3 := hs4.block
        have := run_endRound (P := P) jump hl3
        rw [hrec] at this ⊢
        refine ⟨this, hm3.putObj _ _, ?_⟩
        have h5 := hs4.putObj (o' := .loop (rec (if jump.isNone then .ready else .done) jump))
        rw [hrec] at h5
        exact Sat.perm h5 (by ac_rfl)
      rintro e a3 W3 hp
      cases e with
      | normal =>
        obtain ⟨hm3, hs3⟩ := hp
        obtain ⟨hr, hm4, hs4⟩ := fin none W3 _ hm3 hs3
        exact ⟨_, _, hr, .inl ⟨rfl, hm4, hs4⟩⟩
      | ret =>
        obtain ⟨hm3, hs3⟩ := hp
        obtain ⟨hr, hm4, hs4⟩ := fin (some .ret) W3 _ hm3 hs3
        exact ⟨_, _, hr, .inr ⟨rfl, hm4, Sat.ex.2 ⟨.ret, hs4⟩⟩⟩
      | exit id =>
        obtain ⟨hm3, hs3⟩ := hp
        obtain ⟨hr, hm4, hs4⟩ := fin (some (.exit id)) W3 _ hm3 hs3
        exact ⟨_, _, hr, .inr ⟨rfl, hm4, Sat.ex.2 ⟨.exit id, hs4⟩⟩⟩
      | goto t =>
        obtain ⟨hm3, hs3⟩ := hp
        obtain ⟨hr, hm4, hs4⟩ := fin (some (.goto t)) W3 _ hm3 hs3
        exact ⟨_, _, hr, .inr ⟨rfl, hm4, Sat.ex.2 ⟨.goto t, hs4⟩⟩⟩
      | panic ch => exact hp.elim
      | outgrown => exact hp.elim
    · rintro e W2 ⟨⟨v, rfl⟩, (⟨hm, hs⟩ | ⟨hm, hs⟩)⟩
      · have hsl : Sat W2 (pts (D + 1) (.loop (rec .ready none)) * (R xs.length * (pts D (.deferred (some [])) * Bx))) := hs.perm (by ac_rfl)
        exact ⟨none, _, by have := run_endLoop (P := P) hsl.block (by rw [hrec]; simp); rw [hrec] at this; exact this, hdone D _ (hm.putObj _ _) ((hsl.putObj (o' := _)).right)⟩
      · obtain ⟨c, hc⟩ := Sat.ex.1 hs
        have hsl : Sat W2 (pts (D + 1) (.loop (rec .done (some c))) * (Rx c * (pts D (.deferred (some [])) * Bx))) := hc.perm (by ac_rfl)
        exact ⟨some c, _, by have := run_endLoop (P := P) hsl.block (by rw [hrec]; simp); rw [hrec] at this; exact this, hstop D c _ (hm.putObj _ _) ((hsl.putObj (o' := _)).right)⟩
end Go.Sl
