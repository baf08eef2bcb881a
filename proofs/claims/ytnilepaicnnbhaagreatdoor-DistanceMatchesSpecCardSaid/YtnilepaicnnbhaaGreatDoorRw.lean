/- A range over a function that hands out values which lie in memory: the law for the loop, out of the iterator's. It speaks of no program. -/
import Derived.RangeFuncWrites
import Derived.RangeFuncLeaves
import Derived.Test.YtnilepaicnnbhaaGreatDoorRh
namespace Go.Sl
open Go Go.RowKit

/-- What lies below B is kept, and every block of cells. -/
structure KpB (B : Nat) (A C : World) : Prop where
  bl : Below B A C
  cells : ∀ (k : Nat) (c : Array Value) (t : TypeId) (f : Nat × Nat), A.heap[k]? = some (.cells c t f) → C.heap[k]? = A.heap[k]?
theorem KpB.refl (B : Nat) (A : World) : KpB B A A := ⟨Below.refl _ _, fun _ _ _ _ _ => rfl⟩
theorem KpB.trans {B : Nat} {X Y Z : World} (h : KpB B X Y) (k : KpB B Y Z) : KpB B X Z :=
  ⟨h.bl.trans k.bl, fun i c t f hi => by
    have h1 := h.cells i c t f hi
    rw [k.cells i c t f (h1.trans hi), h1]⟩
theorem KpB.mono {B B' : Nat} {X Y : World} (h : KpB B X Y) (hB : B' ≤ B) : KpB B' X Y := ⟨h.bl.mono hB, h.cells⟩
theorem KpB.of {B : Nat} {A C : World} (h : Below A.heap.size A C) (hB : B ≤ A.heap.size) : KpB B A C :=
  ⟨h.mono hB, fun k _ _ _ hk => h.block k (Array.getElem?_eq_some_iff.1 hk).1⟩
theorem KpB.putObj {B : Nat} {W : World} {l : Nat} {o o' : Obj} (hl : B ≤ l) (h : W.heap[l]? = some o) (hn : o.isCells = false) : KpB B W (W.putObj l o') :=
  ⟨(Below.refl B W).grown (grownBy_putObj' W l o') (by have := (Array.getElem?_eq_some_iff.1 h).1; omega) (fun k e => by cases e; omega),
    fun k c t f hk => World.putObj_heap_other (fun e => by
      subst e
      rw [h] at hk
      cases hk
      cases hn)⟩
theorem KpB.cell {B : Nat} {A C : World} (h : KpB B A C) {p : Addr} {v : Value} (hp : A.cell? p = some v) : C.cell? p = some v := by
  unfold World.cell? at hp ⊢
  cases hh : A.heap[p.block]? with
  | none => rw [hh] at hp; cases hp
  | some o =>
    cases o <;> rw [hh] at hp <;> first | cases hp | skip
    all_goals
      rename_i c t f
      rw [h.cells _ c t f hh, hh]
      exact hp
/-- What a round that goes on keeps, and how the body of a round may be left. -/
def rowsPost (B : Nat) (Kp : World → World → Prop) (I : Nat → World → Prop) (Ix : Code → World → Prop) (i : Nat) (W : World) : Exit → Act → World → Prop
  | .normal, _, W' => KeepsFrom B W W' ∧ Kp W W' ∧ I i W'
  | .ret, _, W' => KeepsFrom B W W' ∧ Ix .ret W'
  | .exit id, _, W' => KeepsFrom B W W' ∧ Ix (.exit id) W'
  | .goto t, _, W' => KeepsFrom B W W' ∧ Ix (.goto t) W'
  | .panic _, _, _ => False
  | .outgrown, _, _ => False
/-- An iterator of N rounds; the value of round i meets R i; Kp: what a round that goes on must keep. -/
def SeqRows (F : Fence) (n : Nat) (P : Program) (gf : Nat) (lb : Array Value) (N : Nat) (R : Nat → Value → World → Prop) (Kp : World → World → Prop) (w0 : World) : Prop :=
  ∀ (l : Nat) (J : Nat → World → Prop) (Jx : World → Prop) (W : World), Below w0.heap.size w0 W →
    (∀ i A B, J i A → W.heap.size ≤ A.heap.size → KpB W.heap.size A B → J i B) →
    (∀ A B, Jx A → Below A.heap.size A B → Jx B) →
    (∀ i v W1, i < N → J i W1 → W.heap.size ≤ W1.heap.size → R i v W1 → YieldAt F (n - 1) P l #[v] W1 fun e W' =>
      (e = .returned (.bool true) ∧ J (i + 1) W' ∧ Kp W1 W') ∨ (e = .returned (.bool false) ∧ Jx W')) →
    J 0 W →
    CallsIn F n P gf (#[.func (.yield l) #[] #[]] ++ lb) W fun e W' => (∃ v, e = .returned v) ∧ (J N W' ∨ Jx W')

/-- It stands in every later world. -/
theorem SeqRows.later {F : Fence} {n : Nat} {P : Program} {gf : Nat} {lb : Array Value} {N : Nat} {R : Nat → Value → World → Prop} {Kp : World → World → Prop} {w0 w1 : World} (h : SeqRows F n P gf lb N R Kp w0) (hb : Below w0.heap.size w0 w1) : SeqRows F n P gf lb N R Kp w1 :=
  fun l J Jx W hW hJ hJx hY h0 => h l J Jx W (hb.trans (hW.mono hb.size)) hJ hJx hY h0

theorem wpIn_rangeFunc_rows {F : Fence} {n : Nat} {P : Program} {g : Operand} {ps : Array Tmp} {assign body : Code} {Q : Exit → Act → World → Prop} {a : Act} {w : World}
    (hro : F.round = none) (h1 : 1 ≤ n) {gf : Nat} {lb : Array Value} (hg : a.eval g = .func (.func gf) #[] lb) (hFg : F.fn gf) (eg : ∀ args w, (callFunc gf args).run P w = .ok (.enter gf args) w)
    {N : Nat} {R : Nat → Value → World → Prop} {Kp : World → World → Prop} {w0 : World} (hseq : SeqRows F (n - 1) P gf lb N R Kp w0) (hKt : ∀ A B C, Kp A B → Kp B C → Kp A C) (hKb : ∀ W W', KpB w.heap.size W W' → Kp W W') (hb0 : Below w0.heap.size w0 w) (hps : ps.size = 1)
    (hR : ∀ i x A B, R i x A → KpB 0 A B → R i x B)
    (I : Nat → World → Prop) (Ix : Code → World → Prop) (hI : ∀ i A B, I i A → w.heap.size ≤ A.heap.size → KpB w.heap.size A B → I i B) (hIx : ∀ c A B, Ix c A → w.heap.size ≤ A.heap.size → KpB w.heap.size A B → Ix c B)
    (h0 : I 0 w) (a₁ : Value → Act)
    (hassign : ∀ (l : Nat) (x : Value) (W : World) (K : Act → World → Prop), K (a₁ x) W →
      assign.wpIn (F.inRound l) (n - 1 - 1) P (Exit.then K (fun _ _ _ => False)) { tmps := (ps.zip #[x]).foldl (fun t (p, v) => t.setIfInBounds p v) a.tmps, defers := [] } W)
    (hbody : ∀ (l i : Nat) (x : Value) (W : World), i < N → I i W → w.heap.size ≤ W.heap.size → R i x W → body.wpIn (F.inRound l) (n - 1 - 1) P (rowsPost w.heap.size Kp I Ix (i + 1) W) (a₁ x) W)
    (hdone : ∀ (D : Nat) (W : World), w.heap.size ≤ D → I N W → W.heap[D]? = some (.deferred (some [])) → Q .normal { a with defers := { target := .collected D, args := #[] } :: a.defers } W)
    (hstop : ∀ (D : Nat) (c : Code) (W : World), w.heap.size ≤ D → Ix c W → W.heap[D]? = some (.deferred (some [])) → c.wpIn F n P Q { a with defers := { target := .collected D, args := #[] } :: a.defers } W) :
    (Code.rangeFunc g ps assign body).wpIn F n P Q a w := by
  refine wpIn_rangeFunc ?_
  intro fn hfn
  rw [hro]
  obtain ⟨rec, hrec⟩ : ∃ rec : LoopState → Option Code → Loop, rec = fun st pe => { state := st, pending := pe, fn, tmps := a.tmps, params := ps, assign, body, defers := w.heap.size } := ⟨_, rfl⟩
  obtain ⟨W1, hW1⟩ : ∃ W1, (w.alloc (.deferred (some []))).alloc (.loop (rec .ready none)) = W1 := ⟨_, rfl⟩
  have hL1 : W1.heap[w.heap.size + 1]? = some (.loop (rec .ready none)) := by
    rw [← hW1]; have := World.alloc_heap_new (w.alloc (.deferred (some []))) (.loop (rec .ready none)); rwa [World.size_alloc] at this
  have hK1 : W1.heap[w.heap.size]? = some (.deferred (some [])) := by
    rw [← hW1]; exact (Below.heap_alloc _ _ _ (by simp)).trans (World.alloc_heap_new w _)
  have hw1 : Below w.heap.size w W1 := by
    rw [← hW1]; exact ((Below.refl _ w).alloc (Nat.le_refl _) _).alloc (by simp) _
  have hs1 : W1.heap.size = w.heap.size + 2 := by rw [← hW1]; simp
  have hI1 : I 0 W1 := hI 0 w W1 h0 (Nat.le_refl _) (KpB.of hw1 (Nat.le_refl _))
  have hb1 : Below w0.heap.size w0 W1 := hb0.trans (hw1.mono hb0.size)
  refine ⟨w.heap.size + 1, [{ target := .collected w.heap.size, args := #[] }], W1, { target := .fn (.func gf) lb, args := #[.func (.yield (w.heap.size + 1)) #[] #[]] }, W1, gf,
    #[.func (.yield (w.heap.size + 1)) #[] #[]] ++ lb, W1, ?_, ?_, ?_, ?_, fun _ => h1, ?_⟩
  · rw [← hW1, hrec]; exact run_enterLoop_outer _ _ _ _ _
  · simp only [resolve, hg]
    simp [go_sem]
  · intro f' hf'; simp [Target.leads] at hf'; subst hf'; exact hFg
  · simp [invoke, go_sem, eg]
  · refine (hseq (w.heap.size + 1)
      (fun i W => I i W ∧ W1.heap.size ≤ W.heap.size ∧ W.heap[w.heap.size + 1]? = some (.loop (rec .ready none)) ∧ W.heap[w.heap.size]? = some (.deferred (some [])))
      (fun W => ∃ c, Ix c W ∧ w.heap.size ≤ W.heap.size ∧ W.heap[w.heap.size + 1]? = some (.loop (rec .done (some c))) ∧ W.heap[w.heap.size]? = some (.deferred (some [])))
      W1 hb1
      (fun i A B hs hA hAB => ⟨hI i A B hs.1 (by omega) (hAB.mono (by omega)), Nat.le_trans hs.2.1 hAB.bl.size, (hAB.bl.block _ (by omega)).trans hs.2.2.1, (hAB.bl.block _ (by omega)).trans hs.2.2.2⟩)
      (fun A B hs hAB => by
        obtain ⟨c, hc, hz, hl, hk⟩ := hs
        have hl1 := (Array.getElem?_eq_some_iff.1 hl).1
        exact ⟨c, hIx c A B hc hz (KpB.of hAB hz), Nat.le_trans hz hAB.size, (hAB.block _ hl1).trans hl, (hAB.block _ (by omega)).trans hk⟩)
      ?_ ⟨hI1, Nat.le_refl _, hL1, hK1⟩).mono ?_
    · rintro i x W hiN ⟨hi, hz, hl, hk⟩ - hRx
      have hlt : w.heap.size + 1 < W.heap.size := (Array.getElem?_eq_some_iff.1 hl).1
      have hy := run_yield (P := P) (args := #[x]) hl (by rw [hrec]; exact hps.symm)
      rw [hrec] at hy
      refine ⟨fn, _, assign, body, hy, roundIn_of_wpIn hfn (hassign _ x W _ ⟨_, run_beginRound hl (by rw [hrec]), ?_⟩)⟩
      have hl2 : (W.putObj (w.heap.size + 1) (.loop { rec .ready none with state := .busy })).heap[w.heap.size + 1]? = some (.loop { rec .ready none with state := .busy }) := World.putObj_heap_same hlt
      have hk2 : (W.putObj (w.heap.size + 1) (.loop { rec .ready none with state := .busy })).heap[w.heap.size]? = some (.deferred (some [])) := (World.putObj_heap_other (by omega)).trans hk
      have hw2 : KpB w.heap.size W (W.putObj (w.heap.size + 1) (.loop { rec .ready none with state := .busy })) := KpB.putObj (by omega) hl rfl
      have hzW : w.heap.size ≤ W.heap.size := by omega
      refine wpIn_mono (hbody _ i x _ hiN (hI i _ _ hi (by omega) hw2) (Nat.le_trans hzW hw2.bl.size) (hR i x _ _ hRx (hw2.mono (Nat.zero_le _)))) ?_
      have fin : ∀ (jump : Option Code) (W3 : World), KeepsFrom w.heap.size (W.putObj (w.heap.size + 1) (.loop { rec .ready none with state := .busy })) W3 →
          (Instr.endRound (w.heap.size + 1) jump).run P W3 = .ok (.bool jump.isNone) (W3.putObj (w.heap.size + 1) (.loop (rec (if jump.isNone then .ready else .done) jump))) ∧
          W3.heap[w.heap.size + 1]? = some (.loop { rec .ready none with state := .busy }) ∧
          (W3.putObj (w.heap.size + 1) (.loop (rec (if jump.isNone then .ready else .done) jump))).heap[w.heap.size + 1]? = some (.loop (rec (if jump.isNone then .ready else .done) jump)) ∧
          (W3.putObj (w.heap.size + 1) (.loop (rec (if jump.isNone then .ready else .done) jump))).heap[w.heap.size]? = some (.deferred (some [])) := fun jump W3 hk3 => by
        have hl3 := hk3.same _ _ (by omega) hl2 rfl
        have := run_endRound (P := P) jump hl3
        rw [hrec] at this ⊢
        exact ⟨this, by rw [hrec] at hl3; exact hl3, World.putObj_heap_same (Array.getElem?_eq_some_iff.1 hl3).1, (World.putObj_heap_other (by omega)).trans (hk3.same _ _ (Nat.le_refl _) hk2 rfl)⟩
      rintro e a3 W3 hp
      cases e with
      | normal =>
        obtain ⟨hk3, hkp3, hi3⟩ := hp
        obtain ⟨hr, hl3, hl4, hk4⟩ := fin none W3 hk3
        have hz3 : w.heap.size ≤ W3.heap.size := Nat.le_trans (Nat.le_trans hzW hw2.bl.size) hk3.size
        have hw4 : KpB w.heap.size W3 (W3.putObj (w.heap.size + 1) (.loop (rec .ready none))) := KpB.putObj (by omega) hl3 rfl
        exact ⟨_, _, hr, .inl ⟨rfl, ⟨hI (i + 1) _ _ hi3 (by omega) hw4, Nat.le_trans (Nat.le_trans (Nat.le_trans hz hw2.bl.size) hk3.size) hw4.bl.size, hl4, hk4⟩, hKt _ _ _ (hKt _ _ _ (hKb _ _ hw2) hkp3) (hKb _ _ hw4)⟩⟩
      | ret =>
        obtain ⟨hk3, hi3⟩ := hp
        obtain ⟨hr, hl3, hl4, hk4⟩ := fin (some .ret) W3 hk3
        have hz3 : w.heap.size ≤ W3.heap.size := Nat.le_trans (Nat.le_trans hzW hw2.bl.size) hk3.size
        have hw4 := KpB.putObj (o' := .loop (rec (if (some Code.ret).isNone then .ready else .done) (some .ret))) (show w.heap.size ≤ w.heap.size + 1 by omega) hl3 rfl
        exact ⟨_, _, hr, .inr ⟨rfl, .ret, hIx _ _ _ hi3 (by omega) hw4, Nat.le_trans hz3 hw4.bl.size, hl4, hk4⟩⟩
      | exit id =>
        obtain ⟨hk3, hi3⟩ := hp
        obtain ⟨hr, hl3, hl4, hk4⟩ := fin (some (.exit id)) W3 hk3
        have hz3 : w.heap.size ≤ W3.heap.size := Nat.le_trans (Nat.le_trans hzW hw2.bl.size) hk3.size
        have hw4 := KpB.putObj (o' := .loop (rec (if (some (Code.exit id)).isNone then .ready else .done) (some (.exit id)))) (show w.heap.size ≤ w.heap.size + 1 by omega) hl3 rfl
        exact ⟨_, _, hr, .inr ⟨rfl, .exit id, hIx _ _ _ hi3 (by omega) hw4, Nat.le_trans hz3 hw4.bl.size, hl4, hk4⟩⟩
      | goto t =>
        obtain ⟨hk3, hi3⟩ := hp
        obtain ⟨hr, hl3, hl4, hk4⟩ := fin (some (.goto t)) W3 hk3
        have hz3 : w.heap.size ≤ W3.heap.size := Nat.le_trans (Nat.le_trans hzW hw2.bl.size) hk3.size
        have hw4 := KpB.putObj (o' := .loop (rec (if (some (Code.goto t)).isNone then .ready else .done) (some (.goto t)))) (show w.heap.size ≤ w.heap.size + 1 by omega) hl3 rfl
        exact ⟨_, _, hr, .inr ⟨rfl, .goto t, hIx _ _ _ hi3 (by omega) hw4, Nat.le_trans hz3 hw4.bl.size, hl4, hk4⟩⟩
      | panic ch => exact hp.elim
      | outgrown => exact hp.elim
    · rintro e W2 ⟨⟨v, rfl⟩, (⟨hi, hz, hl, hk⟩ | ⟨c, hi, hz, hl, hk⟩)⟩
      · have hw4 := KpB.putObj (o' := .loop { rec .ready none with state := .done }) (show w.heap.size ≤ w.heap.size + 1 by omega) hl rfl
        exact ⟨none, _, by have := run_endLoop (P := P) hl (by rw [hrec]; simp); rw [hrec] at this; exact this, hdone _ _ (Nat.le_refl _) (hI N _ _ hi (by omega) (KpB.putObj (by omega) hl rfl)) ((World.putObj_heap_other (by omega)).trans hk)⟩
      · exact ⟨some c, _, by have := run_endLoop (P := P) hl (by rw [hrec]; simp); rw [hrec] at this; exact this, hstop _ c _ (Nat.le_refl _) (hIx c _ _ hi hz (KpB.putObj (by omega) hl rfl)) ((World.putObj_heap_other (by omega)).trans hk)⟩
/-- A function leaves with the marks of its ranges over functions. -/
theorem leaves_marks {F : Fence} {n : Nat} {P : Program} {fn : Func} {tmps : Array Value} {R : Ending → World → Prop} {B : Nat} : ∀ (Ds : List Nat) (w : World), Ds.Nodup → (∀ D ∈ Ds, B ≤ D ∧ w.heap[D]? = some (.deferred (some []))) →
    (∀ w', KpB B w w' → ∃ v, (results fn tmps).run P w' = .ok v w' ∧ R (.returned v) w') → LeavesInM F n P fn tmps R (Ds.map fun D => ({ target := .collected D, args := #[] } : Deferred)) .returning w
  | [], w, _, _, h => h w (KpB.refl _ _)
  | D :: Ds, w, hn, hD, h => by
    obtain ⟨h1, h2⟩ := hD D (by simp)
    have hk : KpB B w (w.putObj D (.deferred none)) := KpB.putObj h1 h2 rfl
    refine ⟨by simp, .inl ⟨D, _, rfl, run_takeDeferred h2, ?_⟩⟩
    refine leaves_marks Ds _ (List.nodup_cons.1 hn).2 (fun E hE => ?_) (fun w' hw' => h w' (hk.trans hw'))
    obtain ⟨h3, h4⟩ := hD E (by simp [hE])
    exact ⟨h3, (World.putObj_heap_other (fun e => (List.nodup_cons.1 hn).1 (by rw [← e]; exact hE))).trans h4⟩
end Go.Sl
