/- A region that draws its order, inside a fence that bars nothing. It speaks of no program. -/
import Derived.OrdersIn
import Derived.Test.YtnilepaicnnbhaaGreatDoorRq
namespace Go.Sl
open Go Go.RowKit

/-- A fence that bars nothing. -/
structure Free (F : Fence) (P : Program) : Prop where
  round : F.round = none
  depth : F.depth = none
  fn : ∀ f, F.fn f
  calls : ∀ (n : Nat) (f : FuncId) (args : Array Value) (w : World) (R : Ending → World → Prop), Calls P f args w R → CallsIn F n P f args w R
theorem free_wide (P : Program) : Free Fence.wide P := ⟨rfl, rfl, fun _ => trivial, fun _ _ _ _ _ h => callsIn_wide.2 h⟩
theorem Free.callsR {F : Fence} {P : Program} (h : Free F P) (l n : Nat) {f : FuncId} {args : Array Value} {w : World} {R : Ending → World → Prop} (hc : Calls P f args w R) : CallsIn (F.inRound l) n P f args w R := h.calls n f args w R hc
theorem Free.ask {F : Fence} {P : Program} (h : Free F P) (k : Nat) : (F.depth.isSome = true → 1 ≤ k) := fun h2 => by rw [h.depth] at h2; cases h2

section
variable {F : Fence} {n : Nat} {P : Program} {ops : Array Oper} {Q : Exit → Act → World → Prop} {S : World → Prop}
theorem YieldsIf.wpOpI (hF : Free F P) {i : Nat} {o : Oper} {v : Value} {a : Act} (hi : ops[i]? = some o) (hy : YieldsIf P ops S o v a) {K : Act → World → Prop} {w : World} (hS : S w) (h : K (a.put o.dst v) w) : wpOpIn F n P ops Q i K a w := by
  unfold Go.wpOpIn
  simp only [hi]
  rcases hy with ⟨hw, hv⟩ | ⟨hw, rfl⟩
  · simp only [hw, if_true, Oper.wpIn, hF.round, Oper.semAt_none, hv w hS, Oper.uponIn]; exact ⟨fun _ _ => hF.fn _, h⟩
  · simp only [hw, Bool.false_eq_true, if_false]; exact ⟨fun _ _ => hF.fn _, h⟩
theorem wpOpI_put (hF : Free F P) {j : Nat} {oi oj : Oper} {v : Value} (hj : ops[j]? = some oj) (hap : oi.apart ops oj = true) (hsi : ∀ cs b, oi.op ≠ .select cs b) (hsj : ∀ cs b, oj.op ≠ .select cs b)
    (hQ : ∀ c a w, Q (.panic c) (a.put oi.dst v) w → Q (.panic c) a w) {K : Act → World → Prop} {a : Act} {w : World} (hy : YieldsIf P ops S oi v a) (h : wpOpIn F n P ops Q j K (a.put oi.dst v) w) :
    wpOpIn F n P ops Q j (fun a' w' => YieldsIf P ops S oi v a' ∧ K (a'.put oi.dst v) w') a w := by
  obtain ⟨h1, h2, h3⟩ := Oper.apart_spec hap
  have keep : ∀ b : Act, YieldsIf P ops S oi v b → ∀ u, YieldsIf P ops S oi v (b.put oj.dst u) := fun b hb u => hb.of_same (execOp_put oi hsi b oj.dst u h3) (wanted_put oi b oj.dst u h3)
  unfold wpOpIn at *
  simp only [hj] at *
  rw [wanted_put oj a oi.dst v h1] at h
  cases hw : Region.wanted oj (yielded ops a.tmps) with
  | false =>
    simp only [hw, Bool.false_eq_true, if_false] at h ⊢
    exact ⟨fun _ _ => hF.fn _, keep a hy _, by rw [← Act.put_comm a v undef h2]; exact h.2⟩
  | true =>
    simp only [hw, if_true] at h ⊢
    unfold Oper.wpIn at *
    refine ⟨fun _ _ => hF.fn _, ?_⟩
    have h := h.2
    rw [hF.round, Oper.semAt_none, execOp_put oj hsj a oi.dst v h1] at h
    rw [hF.round, Oper.semAt_none]
    cases hr : (execOp a.eval oj).run P w with
    | ok x w' =>
      rw [hr] at h
      cases x <;> simp only [Oper.uponIn] at h ⊢
      case value u => exact ⟨keep a hy u, by rw [← Act.put_comm a v u h2]; exact h⟩
      case skip => exact ⟨keep a hy _, by rw [← Act.put_comm a v undef h2]; exact h⟩
      case defer d =>
        refine ⟨keep ⟨a.tmps, d :: a.defers⟩ (hy.of_same rfl rfl) _, ?_⟩
        rw [← Act.put_comm _ v undef h2, ← Act.put_defers]
        exact h
      case enter f args =>
        refine ⟨h.1, CallsIn.mono h.2 fun e w'' he => ?_⟩
        cases e with
        | returned u => exact ⟨keep a hy u, by rw [← Act.put_comm a v u h2]; exact he⟩
        | panicked c => exact hQ _ _ _ he
        | outgrown => exact he
      case row row args => exact ⟨h.1, RowsIn.mono h.2 fun u w'' he => ⟨keep a hy u, by rw [← Act.put_comm a v u h2]; exact he⟩⟩
      case round l f tmps assign body =>
        refine ⟨h.1, RoundIn.mono h.2 fun e w'' he => ?_⟩
        cases e with
        | returned u => exact ⟨keep a hy u, by rw [← Act.put_comm a v u h2]; exact he⟩
        | panicked c => exact hQ _ _ _ he
        | outgrown => exact he
    | halt x w' =>
      rw [hr] at h
      cases x <;> simp only [Oper.uponIn] at h ⊢
      exact hQ _ _ _ h

/-- The operation waits for every other one of its region, or that one for it. -/
def pivB (ops : Array Oper) (j : Nat) : Bool := (List.range ops.size).all fun i => i == j || reachB ops 12 j i || reachB ops 12 i j
theorem not_piv {i j : Nat} {listed : Array Bool} (hc : Closed ops listed) (hi : i ∈ Region.ready .any ops listed) (hj : j ∈ Region.ready .any ops listed) (hne : j ≠ i) : pivB ops j = false := by
  obtain ⟨hiun, oi, hoi, halli⟩ := mem_ready.1 hi
  obtain ⟨hjun, oj, hoj, hall⟩ := mem_ready.1 hj
  cases ht : pivB ops j with
  | false => rfl
  | true =>
    exfalso
    unfold pivB at ht
    have hisz : i < ops.size := (Array.getElem?_eq_some_iff.1 hoi).1
    have h1 := List.all_eq_true.1 ht i (by simp [hisz])
    have h2 : (i == j) = false := by simp; exact Ne.symm hne
    rw [h2, Bool.false_or, Bool.or_eq_true] at h1
    rcases h1 with h1 | h1
    · have h3 := hc.reach _ j i oj hoj hall h1
      rcases Nat.lt_or_ge i listed.size with h' | h'
      · simp [h'] at hiun h3; rw [hiun] at h3; cases h3
      · simp [Array.getElem?_eq_none h'] at h3
    · have h3 := hc.reach _ i j oi hoi halli h1
      rcases Nat.lt_or_ge j listed.size with h' | h'
      · simp [h'] at hjun h3; rw [hjun] at h3; cases h3
      · simp [Array.getElem?_eq_none h'] at h3
/-- Whatever order is picked from here on, and S holds behind every operation that is carried out, but for the last one that waits for all. -/
def wpAnyGI (F : Fence) (n : Nat) (P : Program) (ops : Array Oper) (Q : Exit → Act → World → Prop) (S : World → Prop) : Nat → Array Bool → Act → World → Prop
  | 0, listed, a, w => Region.ready .any ops listed = [] ∧ Q .normal a w
  | fuel + 1, listed, a, w =>
    (Region.ready .any ops listed = [] → Q .normal a w) ∧
    ∀ i ∈ Region.ready .any ops listed, wpOpIn F n P ops Q i (fun a' w' => (pivB ops i = true ∨ S w') ∧ wpAnyGI F n P ops Q S fuel (listed.setIfInBounds i true) a' w') a w
theorem wpAnyIn_of_GI : ∀ (fuel : Nat) (listed : Array Bool) (a : Act) (w : World), wpAnyGI F n P ops Q S fuel listed a w → wpAnyIn F n P .any ops Q fuel listed a w
  | 0, _, _, _, h => h
  | fuel + 1, _, _, _, h => ⟨h.1, fun i hi => wpOpIn_mono (fun a' w' h' => wpAnyIn_of_GI fuel _ a' w' h'.2) (h.2 i hi)⟩
theorem wpAnyGI_first (hF : Free F P) {i : Nat} {oi : Oper} {v : Value} (hi : ops[i]? = some oi) (hsel : ∀ (j : Nat) (o : Oper) cs b, ops[j]? = some o → o.op ≠ .select cs b)
    (hQ : ∀ c a w, Q (.panic c) (a.put oi.dst v) w → Q (.panic c) a w) :
    ∀ (fuel : Nat) (listed : Array Bool) (a : Act) (w : World), Closed ops listed →
      (∀ j oj, ops[j]? = some oj → j ≠ i → listed.getD j true = false → (∀ e ∈ oj.after, Region.binds .any e = true → e.on ≠ i) → oi.apart ops oj = true) →
      i ∈ Region.ready .any ops listed → YieldsIf P ops S oi v a → S w →
      wpAnyGI F n P ops Q S fuel (listed.setIfInBounds i true) (a.put oi.dst v) w → wpAnyGI F n P ops Q S (fuel + 1) listed a w := by
  intro fuel
  induction fuel with
  | zero =>
    intro listed a w _ _ hr hy hS H
    refine ⟨fun h => (by rw [h] at hr; cases hr), fun j hj => ?_⟩
    by_cases hji : j = i
    · subst hji; exact YieldsIf.wpOpI hF hi hy hS ⟨.inr hS, H⟩
    · have := ready_mono hj hji
      rw [H.1] at this
      cases this
  | succ fuel ih =>
    intro listed a w hc hfree hr hy hS H
    refine ⟨fun h => (by rw [h] at hr; cases hr), fun j hj => ?_⟩
    by_cases hji : j = i
    · subst hji; exact YieldsIf.wpOpI hF hi hy hS ⟨.inr hS, H⟩
    · have h1 := H.2 j (ready_mono hj hji)
      obtain ⟨hjun, oj, hoj, hall⟩ := mem_ready.1 hj
      have hnot : ∀ e ∈ oj.after, Region.binds .any e = true → e.on ≠ i := fun e he hb heq => by
        have h1 := hall e he hb
        have h0 := (mem_ready.1 hr).1
        rw [heq] at h1
        rcases Nat.lt_or_ge i listed.size with h' | h'
        · simp [h'] at h0 h1; rw [h0] at h1; cases h1
        · simp [Array.getElem?_eq_none h'] at h1
      have h2 := wpOpI_put hF hoj (hfree j oj hoj hji hjun hnot) (fun cs b => hsel i oi cs b hi) (fun cs b => hsel j oj cs b hoj) hQ hy h1
      have hfree' : ∀ k ok, ops[k]? = some ok → k ≠ i → (listed.setIfInBounds j true).getD k true = false →
          (∀ e ∈ ok.after, Region.binds .any e = true → e.on ≠ i) → oi.apart ops ok = true := fun k ok hk hki hun hno => by
        refine hfree k ok hk hki ?_ hno
        by_cases hjk : j = k
        · subst hjk; exact hjun
        · rw [getD_set_ne true hjk] at hun; exact hun
      have hnt := not_piv hc hr hj hji
      refine wpOpIn_mono (fun a' w' h3 => ?_) h2
      have hS' : S w' := by
        rcases h3.2.1 with h | h
        · rw [hnt] at h; cases h
        · exact h
      refine ⟨.inr hS', ih (listed.setIfInBounds j true) a' w' (hc.set hj) hfree' (ready_mono hr (Ne.symm hji)) h3.1 hS' ?_⟩
      rw [Array.setIfInBounds_comm _ _ hji]
      exact h3.2.2
end

/-- The walk through a region from a state on, inside a fence. -/
structure RegI (F : Fence) (n : Nat) (P : Program) (ops : Array Oper) (Q : Exit → Act → World → Prop) (S : World → Prop) (fuel : Nat) (listed : Array Bool) (t : Array Value) (df : List Deferred) (w : World) : Prop where
  out : Closed ops listed → wpAnyGI F n P ops (NoPanic Q) S fuel listed ⟨t, df⟩ w
section
variable {F : Fence} {n : Nat} {P : Program} {ops : Array Oper} {Q : Exit → Act → World → Prop} {S : World → Prop} {fuel : Nat} {listed : Array Bool} {t : Array Value} {df : List Deferred} {w : World}
theorem regi_begin (S : World → Prop) {id : Nat} (hm : P.follows .mixedOrders = true) (h : RegI F n P ops Q S ops.size (Array.replicate ops.size false) t df w.drew) : (Code.region id ops true).wpIn F n P Q ⟨t, df⟩ w :=
  wpIn_mono (wpIn_region_any hm (wpAnyIn_of_GI _ _ _ _ (h.out (Closed.init ops)))) NoPanic.imp
theorem regi_take (hF : Free F P) (i : Nat) {o : Oper} {d : Tmp} {v : Value} (ho : ops[i]? = some o) (hd : o.dst = some d) (hck : takeOK ops listed i = true) (hw : Region.wanted o (yielded ops t) = true)
    (hr : ∀ w', S w' → (execOp (Act.eval ⟨t, df⟩) o).run P w' = .ok (.value v) w') (hS : S w)
    (k : RegI F n P ops Q S fuel (listed.setIfInBounds i true) (t.setIfInBounds d v) df w) : RegI F n P ops Q S (fuel + 1) listed t df w := by
  simp only [takeOK, Bool.and_eq_true] at hck
  exact ⟨fun hc => wpAnyGI_first hF ho (Region.noSelect_spec hck.1.1) (fun _ _ _ h => h) _ _ _ _ hc (Region.free_spec ho hck.1.2) (by simpa using hck.2) (.inl ⟨hw, hr⟩) hS (by rw [hd]; exact k.out (hc.set (by simpa using hck.2)))⟩
/-- An operation that is passed over. -/
theorem regi_skip (hF : Free F P) (i : Nat) {o : Oper} {d : Tmp} (ho : ops[i]? = some o) (hd : o.dst = some d) (hck : takeOK ops listed i = true) (hw : Region.wanted o (yielded ops t) = false) (hS : S w)
    (k : RegI F n P ops Q S fuel (listed.setIfInBounds i true) (t.setIfInBounds d undef) df w) : RegI F n P ops Q S (fuel + 1) listed t df w := by
  simp only [takeOK, Bool.and_eq_true] at hck
  exact ⟨fun hc => wpAnyGI_first hF ho (Region.noSelect_spec hck.1.1) (fun _ _ _ h => h) _ _ _ _ hc (Region.free_spec ho hck.1.2) (by simpa using hck.2) (.inr ⟨hw, rfl⟩) hS (by rw [hd]; exact k.out (hc.set (by simpa using hck.2)))⟩
theorem regi_op (hF : Free F P) (i : Nat) {o : Oper} (ho : ops[i]? = some o) (hck : aloneOK ops listed i = true) (hw : Region.wanted o (yielded ops t) = true)
    (k : o.uponIn F n P ⟨t, df⟩ (fun a' w' => S w' ∧ RegI F n P ops Q S fuel (listed.setIfInBounds i true) a'.tmps a'.defers w') (NoPanic Q) ((execOp (Act.eval ⟨t, df⟩) o).run P w)) : RegI F n P ops Q S (fuel + 1) listed t df w := by
  have hck' : Region.ready .any ops listed = [i] := by simpa [aloneOK] using hck
  constructor
  intro hc
  have hci : Closed ops (listed.setIfInBounds i true) := hc.set (by rw [hck']; simp)
  refine ⟨fun h => (by rw [hck'] at h; cases h), fun j hj => ?_⟩
  rw [hck'] at hj
  obtain rfl : j = i := by simpa using hj
  unfold wpOpIn
  simp only [ho, hw, if_true]
  refine Oper.wpIn_mono (K := fun a' w' => S w' ∧ RegI F n P ops Q S fuel (listed.setIfInBounds j true) a'.tmps a'.defers w') (fun a' w' h => ⟨.inr h.1, h.2.out hci⟩) ?_
  unfold Oper.wpIn
  rw [hF.round, Oper.semAt_none]
  exact ⟨fun _ _ => hF.fn _, k⟩
/-- One that every other one waits for, or that waits for it: S need not hold behind it. -/
theorem regi_piv (hF : Free F P) (i : Nat) {o : Oper} (ho : ops[i]? = some o) (hck : aloneOK ops listed i = true) (hp : pivB ops i = true) (hw : Region.wanted o (yielded ops t) = true)
    (k : o.uponIn F n P ⟨t, df⟩ (fun a' w' => RegI F n P ops Q S fuel (listed.setIfInBounds i true) a'.tmps a'.defers w') (NoPanic Q) ((execOp (Act.eval ⟨t, df⟩) o).run P w)) : RegI F n P ops Q S (fuel + 1) listed t df w := by
  have hck' : Region.ready .any ops listed = [i] := by simpa [aloneOK] using hck
  constructor
  intro hc
  have hci : Closed ops (listed.setIfInBounds i true) := hc.set (by rw [hck']; simp)
  refine ⟨fun h => (by rw [hck'] at h; cases h), fun j hj => ?_⟩
  rw [hck'] at hj
  obtain rfl : j = i := by simpa using hj
  unfold wpOpIn
  simp only [ho, hw, if_true]
  refine Oper.wpIn_mono (K := fun a' w' => RegI F n P ops Q S fuel (listed.setIfInBounds j true) a'.tmps a'.defers w') (fun a' w' h => ⟨.inl hp, h.out hci⟩) ?_
  unfold Oper.wpIn
  rw [hF.round, Oper.semAt_none]
  exact ⟨fun _ _ => hF.fn _, k⟩
/-- A call inside the fence. -/
theorem regi_callP (hF : Free F P) (i : Nat) {o : Oper} {d : Tmp} {f : FuncId} {args : Array Value} {R : Value → World → Prop} (ho : ops[i]? = some o) (hd : o.dst = some d) (hck : aloneOK ops listed i = true) (hp : pivB ops i = true) (hw : Region.wanted o (yielded ops t) = true)
    (hr : (execOp (Act.eval ⟨t, df⟩) o).run P w = .ok (.enter f args) w) (hc : CallsIn F (n - 1) P f args w fun e w' => ∃ v, e = .returned v ∧ R v w')
    (k : ∀ v w', R v w' → RegI F n P ops Q S fuel (listed.setIfInBounds i true) (t.setIfInBounds d v) df w') : RegI F n P ops Q S (fuel + 1) listed t df w :=
  regi_piv hF i ho hck hp hw (by
    rw [hr]
    refine ⟨hF.ask _, hc.mono ?_⟩
    rintro e w' ⟨v, rfl, h⟩
    simp only [hd, put_some]
    exact k v w' h)
theorem regi_runP (hF : Free F P) (i : Nat) {o : Oper} {d : Tmp} (v : Value) (ho : ops[i]? = some o) (hd : o.dst = some d) (hck : aloneOK ops listed i = true) (hp : pivB ops i = true) (hw : Region.wanted o (yielded ops t) = true)
    (hr : (execOp (Act.eval ⟨t, df⟩) o).run P w = .ok (.value v) w)
    (k : RegI F n P ops Q S fuel (listed.setIfInBounds i true) (t.setIfInBounds d v) df w) : RegI F n P ops Q S (fuel + 1) listed t df w :=
  regi_piv hF i ho hck hp hw (by rw [hr]; simp only [Oper.uponIn, hd, put_some]; exact k)
theorem regi_run (hF : Free F P) (i : Nat) {o : Oper} {d : Tmp} (v : Value) (w' : World) (ho : ops[i]? = some o) (hd : o.dst = some d) (hck : aloneOK ops listed i = true) (hw : Region.wanted o (yielded ops t) = true)
    (hr : (execOp (Act.eval ⟨t, df⟩) o).run P w = .ok (.value v) w') (hS : S w')
    (k : RegI F n P ops Q S fuel (listed.setIfInBounds i true) (t.setIfInBounds d v) df w') : RegI F n P ops Q S (fuel + 1) listed t df w :=
  regi_op hF i ho hck hw (by rw [hr]; simp only [Oper.uponIn, hd, put_some]; exact ⟨hS, k⟩)
theorem regi_call (hF : Free F P) (i : Nat) {o : Oper} {d : Tmp} {f : FuncId} {args : Array Value} {R : Value → World → Prop} (ho : ops[i]? = some o) (hd : o.dst = some d) (hck : aloneOK ops listed i = true) (hw : Region.wanted o (yielded ops t) = true)
    (hr : (execOp (Act.eval ⟨t, df⟩) o).run P w = .ok (.enter f args) w) (hc : Calls P f args w fun e w' => ∃ v, e = .returned v ∧ R v w')
    (k : ∀ v w', R v w' → S w' ∧ RegI F n P ops Q S fuel (listed.setIfInBounds i true) (t.setIfInBounds d v) df w') : RegI F n P ops Q S (fuel + 1) listed t df w :=
  regi_op hF i ho hck hw (by
    rw [hr]
    refine ⟨hF.ask _, (hF.calls _ _ _ _ _ hc).mono ?_⟩
    rintro e w' ⟨v, rfl, h⟩
    simp only [hd, put_some]
    exact k v w' h)
/-- A call of the function that a range over a function lays: a round of its body. -/
theorem regi_round (hF : Free F P) (i : Nat) {o : Oper} {d l : Nat} {f : FuncId} {tmps : Array Value} {assign body : Code} {w1 : World} {R : Value → World → Prop} (ho : ops[i]? = some o) (hd : o.dst = some d) (hck : aloneOK ops listed i = true) (hw : Region.wanted o (yielded ops t) = true)
    (hr : (execOp (Act.eval ⟨t, df⟩) o).run P w = .ok (.round l f tmps assign body) w1) (hc : RoundIn F (n - 1) P l f tmps assign body w1 fun e w' => ∃ v, e = .returned v ∧ R v w')
    (k : ∀ v w', R v w' → S w' ∧ RegI F n P ops Q S fuel (listed.setIfInBounds i true) (t.setIfInBounds d v) df w') : RegI F n P ops Q S (fuel + 1) listed t df w :=
  regi_op hF i ho hck hw (by
    rw [hr]
    refine ⟨hF.ask _, hc.mono ?_⟩
    rintro e w' ⟨v, rfl, h⟩
    simp only [hd, put_some]
    exact k v w' h)
theorem regi_done (hr : (Region.ready .any ops listed).isEmpty = true) (h : Q .normal ⟨t, df⟩ w) : RegI F n P ops Q S fuel listed t df w := by
  have hr' : Region.ready .any ops listed = [] := by simpa using hr
  constructor
  intro _
  cases fuel with
  | zero => exact ⟨hr', NoPanic.normal h⟩
  | succ n => exact ⟨fun _ => NoPanic.normal h, fun j hj => by rw [hr'] at hj; cases hj⟩
end
end Go.Sl
