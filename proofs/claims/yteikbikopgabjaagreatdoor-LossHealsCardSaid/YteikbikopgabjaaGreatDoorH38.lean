import Derived.Test.YteikbikopgabjaaGreatDoorH02
import Derived.Test.YteikbikopgabjaaGreatDoorH06
import Derived.Test.YteikbikopgabjaaGreatDoorH26
import Derived.Test.YteikbikopgabjaaGreatDoorH37
import Derived.Lib.SliceRun
/- Part 38 of a proof; the last part says what is proved. -/
section
namespace Go.Sl
open Go Go.RowKit
abbrev MkSt := Nat → Option Value
def updM (σ : MkSt) (i : Nat) (v : Value) : MkSt := fun j => if j = i then some v else σ j
theorem updM_ne {σ : MkSt} {i j : Nat} {v : Value} (h : j ≠ i) : updM σ i v j = σ j := if_neg h
def mkT (σ : MkSt) (t : Array Value) : List (Nat × Tmp) → Array Value
 | [] => t
 | p :: M => match σ p.1 with
  | some v => (mkT σ t M).setIfInBounds p.2 v
  | none => mkT σ t M
def mkH (σ : MkSt) (A : Nat → Value → HProp) : List (Nat × Tmp) → HProp
 | [] => emp
 | p :: M => (match σ p.1 with | some v => A p.1 v | none => emp) * mkH σ A M
def setL (listed : Array Bool) (D : List Nat) : Array Bool := D.foldr (fun i l => l.setIfInBounds i true) listed
def subsB : List Nat → List (List Nat)
 | [] => [[]]
 | i :: l => (subsB l).map (i :: ·) ++ subsB l
def makersOK (ops : Array Oper) (listed : Array Bool) (ms req : List Nat) : Bool := (subsB ms).all fun D => (req.all fun i => D.contains i) || Region.ready .any ops (setL listed D) == ms.filter fun i => !D.contains i
def doneL (σ : MkSt) (ms : List Nat) : List Nat := ms.filter fun i => (σ i).isSome
theorem doneL_mem (σ : MkSt) : ∀ ms : List Nat, doneL σ ms ∈ subsB ms
 | [] => by simp [doneL, subsB]
 | i :: l => by
  have h := doneL_mem σ l
  unfold doneL at h ⊢
  unfold subsB
  rw [List.filter_cons]
  split
  ·exact List.mem_append_left _ (List.mem_map.2 ⟨_, h, rfl⟩)
  ·exact List.mem_append_right _ h
theorem mkT_none {t : Array Value} : ∀ {M : List (Nat × Tmp)} {σ : MkSt}, (∀ p ∈ M, σ p.1 = none) → mkT σ t M = t
 | [], _, _ => rfl
 | p :: M, σ, h => by
  unfold mkT
  rw [h p List.mem_cons_self]
  exact mkT_none fun q hq => h q (List.mem_cons_of_mem _ hq)
theorem mkT_congr {t : Array Value} : ∀ {M : List (Nat × Tmp)} {σ τ : MkSt}, (∀ p ∈ M, σ p.1 = τ p.1) → mkT σ t M = mkT τ t M
 | [], _, _, _ => rfl
 | p :: M, σ, τ, h => by
  unfold mkT
  rw [h p List.mem_cons_self, mkT_congr fun q hq => h q (List.mem_cons_of_mem _ hq)]
theorem mkH_congr {A : Nat → Value → HProp} : ∀ {M : List (Nat × Tmp)} {σ τ : MkSt}, (∀ p ∈ M, σ p.1 = τ p.1) → mkH σ A M = mkH τ A M
 | [], _, _, _ => rfl
 | p :: M, σ, τ, h => by
  unfold mkH
  rw [h p List.mem_cons_self, mkH_congr fun q hq => h q (List.mem_cons_of_mem _ hq)]
theorem mkT_upd {t : Array Value} {σ : MkSt} {v : Value} : ∀ {M : List (Nat × Tmp)} {p : Nat × Tmp}, p ∈ M → (M.map Prod.fst).Nodup → (M.map Prod.snd).Nodup → σ p.1 = none → mkT (updM σ p.1 v) t M = (mkT σ t M).setIfInBounds p.2 v
 | q :: M, p, hp, h1, h2, hn => by
  rw [List.map_cons, List.nodup_cons] at h1 h2
  rcases List.mem_cons.1 hp with rfl | hp
  ·unfold mkT
   rw [hn, show updM σ p.1 v p.1 = some v from if_pos rfl]
   rw [mkT_congr (τ := σ) fun q hq => updM_ne (i := p.1) fun (e : q.1 = p.1) => h1.1 (e ▸ List.mem_map.2 ⟨q, hq, rfl⟩)]
  ·have hne : q.1 ≠ p.1 := fun e => h1.1 (e ▸ List.mem_map.2 ⟨p, hp, rfl⟩)
   have hne2 : q.2 ≠ p.2 := fun e => h2.1 (e ▸ List.mem_map.2 ⟨p, hp, rfl⟩)
   unfold mkT
   rw [show updM σ p.1 v q.1 = σ q.1 from if_neg hne, mkT_upd hp h1.2 h2.2 hn]
   cases σ q.1 with
   | none => rfl
   | some u => exact Array.setIfInBounds_comm _ _ (Ne.symm hne2)
theorem mkH_upd {A : Nat → Value → HProp} {σ : MkSt} {v : Value} : ∀ {M : List (Nat × Tmp)} {p : Nat × Tmp}, p ∈ M → (M.map Prod.fst).Nodup → σ p.1 = none → mkH (updM σ p.1 v) A M = A p.1 v * mkH σ A M
 | q :: M, p, hp, h1, hn => by
  rw [List.map_cons, List.nodup_cons] at h1
  rcases List.mem_cons.1 hp with rfl | hp
  ·unfold mkH
   rw [hn, show updM σ p.1 v p.1 = some v from if_pos rfl]
   rw [mkH_congr (τ := σ) fun q hq => updM_ne (i := p.1) fun (e : q.1 = p.1) => h1.1 (e ▸ List.mem_map.2 ⟨q, hq, rfl⟩)]
   show A p.1 v * mkH σ A M = A p.1 v * (emp * mkH σ A M)
   rw [emp_star]
  ·have hne : q.1 ≠ p.1 := fun e => h1.1 (e ▸ List.mem_map.2 ⟨p, hp, rfl⟩)
   unfold mkH
   rw [show updM σ p.1 v q.1 = σ q.1 from if_neg hne, mkH_upd hp h1.2 hn]
   ac_rfl
theorem mkT_other {t : Array Value} {σ : MkSt} {x : Nat} : ∀ {M : List (Nat × Tmp)}, x ∉ M.map Prod.snd → (mkT σ t M).getD x undef = t.getD x undef
 | [], _ => rfl
 | p :: M, h => by
  rw [List.map_cons, List.mem_cons, not_or] at h
  have ih := mkT_other (t := t) (σ := σ) h.2
  unfold mkT
  cases σ p.1 with
  | none => exact ih
  | some v =>
   rw [← ih, Array.getD_eq_getD_getElem?, Array.getD_eq_getD_getElem?]
   dsimp only
   rw [Array.getElem?_setIfInBounds_ne (Ne.symm h.1)]
theorem mk_eval {t : Array Value} {σ : MkSt} {x : Nat} {M : List (Nat × Tmp)} {df : List Deferred} {v : Value} (h : x ∉ M.map Prod.snd) (hv : t.getD x undef = v) : Act.eval ⟨mkT σ t M, df⟩ (.tmp x) = v := (mkT_other h).trans hv
theorem setL_done (listed : Array Bool) (σ : MkSt) (i : Nat) (v : Value) : ∀ (ms : List Nat), i ∈ ms → ms.Nodup → σ i = none → setL listed (doneL (updM σ i v) ms) = (setL listed (doneL σ ms)).setIfInBounds i true
 | j :: ms, hi, hn, h0 => by
  rw [List.nodup_cons] at hn
  rcases List.mem_cons.1 hi with rfl | hi
  ·have e : doneL (updM σ i v) ms = doneL σ ms := List.filter_congr fun x hx => by
    have hne : x ≠ i := fun e => hn.1 (e ▸ hx)
    rw [updM_ne hne]
   unfold doneL at e ⊢
   rw [List.filter_cons, List.filter_cons, e, show updM σ i v i = some v from if_pos rfl, h0]
   rfl
  ·have hne : j ≠ i := fun e => hn.1 (e ▸ hi)
   have ih := setL_done listed σ i v ms hi hn.2 h0
   unfold doneL at ih ⊢
   rw [List.filter_cons, List.filter_cons, show updM σ i v j = σ j from if_neg hne]
   cases hj : (σ j).isSome with
   | false => exact ih
   | true =>
    simp only [if_true]
    show (setL listed _).setIfInBounds j true = ((setL listed _).setIfInBounds j true).setIfInBounds i true
    rw [ih]
    exact Array.setIfInBounds_comm _ _ (Ne.symm hne)
section
variable {P : Program} {ops : Array Oper} {Q : Exit → Act → World → Prop} {S : World → Prop} {fuel : Nat} {listed : Array Bool} {t : Array Value} {df : List Deferred} {w : World}
theorem rstep_wp {i : Nat} {o : Oper} {d : Tmp} (ho : ops[i]? = some o) (hck : (Region.ready .any ops listed).contains i = true) (hg : o.guard = none) {K : Value → World → Prop}
  (h : o.wp P ⟨t, df⟩ w (fun a' w' => ∃ v, a' = ⟨t.setIfInBounds d v, df⟩ ∧ K v w') (NoPanic Q)) (k : ∀ v w', K v w' → S w' ∧ Reg P ops Q S fuel (listed.setIfInBounds i true) (t.setIfInBounds d v) df w') : RStep P ops Q S fuel listed t df w i :=
 rstep_op ho hck (by simp [Region.wanted, hg]) (Oper.wp_mono (fun a' w' ⟨v, e, hK⟩ => by subst e; exact k v w' hK) h)
theorem rstep_do {i : Nat} {o : Oper} (w' : World) (ho : ops[i]? = some o) (hd : o.dst = none) (hck : (Region.ready .any ops listed).contains i = true) (hw : Region.wanted o (yielded ops t) = true)
  (hr : (execOp (Act.eval ⟨t, df⟩) o).run P w = .ok .skip w') (hS : S w') (k : Reg P ops Q S fuel (listed.setIfInBounds i true) t df w') : RStep P ops Q S fuel listed t df w i :=
 rstep_op ho hck hw (by unfold Oper.wp; rw [hr]; simp only [Oper.upon, hd, Act.put]; exact ⟨hS, k⟩)
theorem reg_makersR (M : List (Nat × Tmp)) (req : List Nat) (A : Nat → Value → HProp) (base : HProp) (hck : makersOK ops listed (M.map Prod.fst) req = true) (hnd : (M.map Prod.fst).Nodup ∧ (M.map Prod.snd).Nodup ∧ ∀ i ∈ req, i ∈ M.map Prod.fst) (hop : ∀ p ∈ M, ∃ o, ops[p.1]? = some o ∧ o.guard = none)
  (hS : ∀ W X, Same w W → Sat W (X * base) → S W) (h0 : Sat w base)
  (hstep : ∀ p ∈ M, ∀ o, ops[p.1]? = some o → ∀ (σ : MkSt) W X, Same w W → Sat W (X * base) →
   o.wp P ⟨mkT σ t M, df⟩ W (fun a' W' => ∃ v, a' = ⟨(mkT σ t M).setIfInBounds p.2 v, df⟩ ∧ Same W W' ∧ Sat W' (A p.1 v * (X * base))) (NoPanic Q))
  (k : ∀ (σ : MkSt) W, (∀ i ∈ req, (σ i).isSome = true) → Same w W → Sat W (mkH σ A M * base) → Reg P ops Q S (fuel + (M.filter fun p => !(σ p.1).isSome).length) (setL listed (doneL σ (M.map Prod.fst))) (mkT σ t M) df W) : Reg P ops Q S (fuel + M.length) listed t df w := by
 have key : ∀ (n : Nat) (σ : MkSt) (W : World), (M.filter fun p => !(σ p.1).isSome).length = n → Same w W → Sat W (mkH σ A M * base) → Reg P ops Q S (fuel + n) (setL listed (doneL σ (M.map Prod.fst))) (mkT σ t M) df W := by
  intro n
  induction n with
  | zero =>
   intro σ W hn hsm hs
   have hall : ∀ p ∈ M, (σ p.1).isSome = true := fun p hp => by
    have := List.eq_nil_of_length_eq_zero hn
    have h2 := List.filter_eq_nil_iff.1 this p hp
    cases hσ : (σ p.1).isSome with
    | true => rfl
    | false => rw [hσ] at h2; exact absurd rfl h2
   have h3 := k σ W (fun i hi => by
    obtain ⟨p, hp, rfl⟩ := List.mem_map.1 (hnd.2.2 i hi)
    exact hall p hp) hsm hs
   rw [hn] at h3
   exact h3
  | succ n ih =>
   intro σ W hn hsm hs
   by_cases hreq : ∀ i ∈ req, (σ i).isSome = true
   ·have h3 := k σ W hreq hsm hs
    rw [hn] at h3
    exact h3
   have hr : Region.ready .any ops (setL listed (doneL σ (M.map Prod.fst))) = (M.map Prod.fst).filter fun i => !(doneL σ (M.map Prod.fst)).contains i := by
    have h1 := List.all_eq_true.1 hck _ (doneL_mem σ (M.map Prod.fst))
    rw [Bool.or_eq_true] at h1
    rcases h1 with h1 | h1
    ·exfalso
     apply hreq
     intro i hi
     have h2 := List.all_eq_true.1 h1 i hi
     have h3 : i ∈ doneL σ (M.map Prod.fst) := by simpa using h2
     exact (List.mem_filter.1 h3).2
    ·simpa using h1
   have hready : ∀ i, i ∈ Region.ready .any ops (setL listed (doneL σ (M.map Prod.fst))) ↔ ∃ p ∈ M, p.1 = i ∧ σ i = none := fun i => by
    rw [hr, List.mem_filter]
    constructor
    ·rintro ⟨h1, h2⟩
     obtain ⟨p, hp, rfl⟩ := List.mem_map.1 h1
     refine ⟨p, hp, rfl, ?_⟩
     cases hσ : σ p.1 with
     | none => rfl
     | some v =>
      exfalso
      have : p.1 ∈ doneL σ (M.map Prod.fst) := List.mem_filter.2 ⟨h1, by rw [hσ]; rfl⟩
      simp [this] at h2
    ·rintro ⟨p, hp, rfl, hσ⟩
     refine ⟨List.mem_map.2 ⟨p, hp, rfl⟩, ?_⟩
     have : p.1 ∉ doneL σ (M.map Prod.fst) := fun hm => by
      have := (List.mem_filter.1 hm).2
      rw [hσ] at this
      simp at this
     simpa using this
   constructor
   intro hc
   refine ⟨fun h => ?_, fun i hi => ?_⟩
   ·exfalso
    have h4 : (M.filter fun p => !(σ p.1).isSome) = [] := List.filter_eq_nil_iff.2 fun p hp hσ => by
     have h5 : σ p.1 = none := by simpa using hσ
     have := (hready p.1).2 ⟨p, hp, rfl, h5⟩
     rw [h] at this
     simp at this
    rw [h4] at hn
    simp at hn
   ·obtain ⟨p, hp, rfl, hσ⟩ := (hready i).1 hi
    obtain ⟨o, ho, hg⟩ := hop p hp
    refine (rstep_wp (P := P) (Q := Q) (S := S) (fuel := fuel + n) (d := p.2) ho (by simpa using hi) hg (hstep p hp o ho σ W (mkH σ A M) hsm hs) ?_).out hc
    rintro v W' ⟨h1, h2⟩
    have h3 : Sat W' (mkH (updM σ p.1 v) A M * base) := by
     rw [mkH_upd hp hnd.1 hσ]
     exact h2.perm (star_assoc _ _ _).symm
    have hlen : (M.filter fun q => !((updM σ p.1 v) q.1).isSome).length = n := by
     have h5 : (M.filter fun q => !(σ q.1).isSome) = M.filter fun q => !((updM σ p.1 v) q.1).isSome || q.1 == p.1 := List.filter_congr fun q _ => by
      unfold updM
      by_cases e : q.1 = p.1
      ·simp [e, hσ]
      ·simp [e]
     have key2 : ∀ (l : List (Nat × Tmp)), (l.map Prod.fst).Nodup → p ∈ l → (l.filter fun q => !((updM σ p.1 v) q.1).isSome || q.1 == p.1).length = (l.filter fun q => !((updM σ p.1 v) q.1).isSome).length + 1 := by
      intro l
      induction l with
      | nil => intro _ h; simp at h
      | cons q l ih2 =>
       intro hnd2 hpl
       rw [List.map_cons, List.nodup_cons] at hnd2
       rw [List.filter_cons, List.filter_cons]
       rcases List.mem_cons.1 hpl with rfl | hpl
       ·have e1 : (updM σ p.1 v) p.1 = some v := if_pos rfl
        have e2 : (l.filter fun q => !((updM σ p.1 v) q.1).isSome || q.1 == p.1) = l.filter fun q => !((updM σ p.1 v) q.1).isSome := List.filter_congr fun q hq => by
         have : q.1 ≠ p.1 := fun e => hnd2.1 (e ▸ List.mem_map.2 ⟨q, hq, rfl⟩)
         simp [this]
        rw [e2]
        simp [e1]
       ·have hne : q.1 ≠ p.1 := fun e => hnd2.1 (e ▸ List.mem_map.2 ⟨p, hpl, rfl⟩)
        have ih3 := ih2 hnd2.2 hpl
        have e3 : (q.1 == p.1) = false := by simp [hne]
        rw [e3, Bool.or_false]
        cases hq : !((updM σ p.1 v) q.1).isSome with
        | true => simp only [if_true, List.length_cons, ih3]
        | false => simp only [Bool.false_eq_true, if_false, ih3]
     rw [h5, key2 M hnd.1 hp] at hn
     omega
    refine ⟨hS W' _ (hsm.trans h1) h3, ?_⟩
    have h6 := ih (updM σ p.1 v) W' hlen (hsm.trans h1) h3
    rw [setL_done listed σ p.1 v _ (List.mem_map.2 ⟨p, hp, rfl⟩) hnd.1 hσ, mkT_upd hp hnd.1 hnd.2.1 hσ] at h6
    exact h6
 have h1 := key M.length (fun _ => none) w (by simp) (Same.refl w) (by
  have e : ∀ l : List (Nat × Tmp), mkH (fun _ => none) A l = emp := by
   intro l
   induction l with
   | nil => rfl
   | cons p l ih => show emp * mkH _ A l = emp; rw [ih, emp_star]
  rw [e, emp_star]; exact h0)
 have e2 : doneL (fun _ => none) (M.map Prod.fst) = [] := List.filter_eq_nil_iff.2 fun _ _ => by simp
 rw [e2, mkT_none fun _ _ => rfl] at h1
 exact h1
theorem reg_cutT3 {α β γ : Type} {T : α → β → γ → Array Value × List Deferred} (K : α → β → γ → World → Prop) (h : Reg P ops (atEnd Q fun t' df' w' => ∃ a b c, (t', df') = T a b c ∧ K a b c w') S fuel listed t df w) (k : ∀ a b c w', K a b c w' → Q .normal ⟨(T a b c).1, (T a b c).2⟩ w') : Reg P ops Q S fuel listed t df w :=
 reg_cut _ h fun t' df' w' ⟨a, b, c, hT, hK⟩ => by
  have h1 := congrArg Prod.fst hT
  have h2 := congrArg Prod.snd hT
  simp only at h1 h2
  subst h1 h2
  exact k a b c w' hK
theorem reg_cutT4 {α β γ δ : Type} {T : α → β → γ → δ → Array Value × List Deferred} (K : α → β → γ → δ → World → Prop) (h : Reg P ops (atEnd Q fun t' df' w' => ∃ a b c d, (t', df') = T a b c d ∧ K a b c d w') S fuel listed t df w) (k : ∀ a b c d w', K a b c d w' → Q .normal ⟨(T a b c d).1, (T a b c d).2⟩ w') : Reg P ops Q S fuel listed t df w :=
 reg_cut _ h fun t' df' w' ⟨a, b, c, d, hT, hK⟩ => by
  have h1 := congrArg Prod.fst hT
  have h2 := congrArg Prod.snd hT
  simp only at h1 h2
  subst h1 h2
  exact k a b c d w' hK
end
end Go.Sl
end
section
namespace Go.Proofs.YteikbikopgabjaaGreatDoor
open Go.RowKit Go.Sl Go.GF
set_option maxRecDepth 20000 in
set_option maxHeartbeats 1000000 in
theorem cloneIO_any (v : Value) (L : List Int) (hn : L.length ≤ 100000) (F : HProp) (w : World) (hv : RowI w v (intsV L)) (hF : Sat w F) :
  Calls Tryz.prog 144 #[v] w fun e w' => ∃ v', e = .returned v' ∧ Same w w' ∧ Sat w' (ownAt TI 1 v' L.length (intsV L) * F) := by
 obtain ⟨ti, hti, hz0, hts, hz2⟩ := info_parts info_int3
 have hv0 := hv
 obtain ⟨ao, cp, rfl, -, -, hrow⟩ := hv
 rw [intsV_len] at *
 cases ao with
 | none =>
  have h0 : L.length = 0 := by
   rcases Nat.eq_zero_or_pos L.length with h0 | h0
   ·exact h0
   ·obtain ⟨b, off, hb, -⟩ := hrow h0
    cases hb
  obtain rfl : L = [] := List.eq_nil_of_length_eq_zero h0
  have HF := Lib.hid hF
  clear hrow h0 hn hv0 hF
  have hq : ∀ w, (binOp .eql 36 (.slice none 0 cp) (.slice none 0 0)).run Tryz.prog w = .ok (.bool true) w := fun w => Lib.run_eql_slice_nil w _ _ _ 0 cp 0 0 Tryz.underlying36
  go_enter Tryz.func144, Tryz.ntmps144
  go_wp2
  go_ret
  exact ⟨_, rfl, Same.refl w, ownAt_nil.2 HF.out⟩
 | some ad =>
  have hb0 := al_below w (.cells #[] TI)
  have H1 := Lib.hid (And.intro ((Same.refl w).alloc (.cells #[] TI)) (And.intro (show Sat (w.alloc (.cells #[] TI)) (ownAt TI 1 (.slice (some ⟨w.heap.size, 0, none⟩) 0 0) 0 [] * F) from ownAt_iff.2 (.inr ⟨w.heap.size, 0, #[], ⟨rfl, Nat.le_refl _, Nat.zero_le _, by simp, by simp, by simp⟩, hF.alloc _⟩)) (hv0.below hb0)))
  have hq : ∀ w, (binOp .eql 36 (.slice (some ad) L.length cp) (.slice none 0 0)).run Tryz.prog w = .ok (.bool false) w := fun w => Lib.run_eql_slice_nil w _ _ _ L.length cp 0 0 Tryz.underlying36
  have HL := Lib.hid (show (intsV L).length = L.length from intsV_len L)
  have HO := Lib.hid (show ∀ u ∈ intsV L, Value.oneCell' u = true from fun u hu => by
   obtain ⟨x, _, rfl⟩ := List.mem_map.1 hu
   rfl)
  clear hrow hF hv0 hb0
  go_enter Tryz.func144, Tryz.ntmps144
  go_wp2_with (at_builtin; refine wpList_append_ri (F := F) rfl _ _ 36 TI rfl ti _ Tryz.underlying36 hti hz0 hts hz2 rfl H1.out.2.1 (intsV L) rfl rfl H1.out.2.2 HO.out (by rw [HL.out]; unfold maxLen; omega) (by rw [HL.out]; omega) ?_; intro v' w' h2 h3)
  go_ret
  rw [Nat.zero_add, List.nil_append, HL.out] at h3
  exact ⟨_, rfl, H1.out.1.trans h2, h3⟩
theorem clone_row (k : Nat) (t : Nat → Nat) (hk0 : 0 < k) (hk : k ≤ 1000) (v : Value) (F : HProp) (w : World) (hv : RowI w v (intsV (lineI t k))) (hF : Sat w F) :
  Calls Tryz.prog 144 #[v] w fun e w' => ∃ g, e = .returned (hdrV k g) ∧ Same w w' ∧ Sat w' (rowS TI g k t * F) := by
 refine (cloneIO_any v (lineI t k) (by rw [lineI_len]; omega) F w hv hF).mono ?_
 rintro e w' ⟨v', rfl, h1, h2⟩
 rw [lineI_len] at h2
 obtain ⟨x, rfl, h3⟩ := row_of_own hk0 h2
 exact ⟨x, rfl, h1, h3⟩
theorem zero_row (n : Nat) (F : HProp) (w : World) (hn : n ≤ 1000) (hF : Sat w F) : Sat (w.alloc (.cells (zeroA n) TI)) (rowS TI (w.heap.size, n) n (fun _ => 0) * F) :=
 rowS_iff.2 ⟨zeroA n, ⟨Nat.le_refl _, by unfold maxLen; omega, by unfold zeroA; simp, fun j hj => by unfold zeroA; simp [hj]⟩, hF.alloc _⟩
structure RdM where
 row : RowF
 coef : Nat → Nat
def rdE (k nb : Nat) (gr gc : Nat → Nat × Nat) (rs : List RdM) : List Value := rs.zipIdx.flatMap fun q => (rdA q.1.row.1 k nb (gr q.2) (gc q.2)).toList
def rdB (k nb : Nat) (gr gc : Nat → Nat × Nat) (rs : List RdM) : HProp := bigs rs.length fun i => match rs[i]? with
 | some r => rowS TI (gr i) k r.row.2 * rowS TI (gc i) nb r.coef
 | none => emp
def redAll (c : CodeM) (rs : List RdM) (s : (Nat → Nat) × (Nat → Nat)) : (Nat → Nat) × (Nat → Nat) := rs.foldl (fun s r => (stepF c s.1 r.row, coefF c.m (s.1 r.row.1) s.2 r.coef)) s
theorem redAll_row (c : CodeM) : ∀ (rs : List RdM) (s : (Nat → Nat) × (Nat → Nat)), (redAll c rs s).1 = redF c (rs.map RdM.row) s.1
 | [], _ => rfl
 | _ :: rs, _ => redAll_row c rs _
theorem redAll_succ (c : CodeM) {rs : List RdM} {i : Nat} {r : RdM} (h : rs[i]? = some r) (s : (Nat → Nat) × (Nat → Nat)) : redAll c (rs.take (i + 1)) s = (stepF c (redAll c (rs.take i) s).1 r.row, coefF c.m ((redAll c (rs.take i) s).1 r.row.1) (redAll c (rs.take i) s).2 r.coef) := by
 unfold redAll
 rw [List.take_add_one, h, List.foldl_append]
 rfl
def RdsOk (c : CodeM) (nb : Nat) (rs : List RdM) : Prop := ∀ r ∈ rs, (r.row.1 < c.k ∧ ∀ i, i < c.k → r.row.2 i < 2 ^ c.m) ∧ ∀ i, i < nb → r.coef i < 2 ^ c.m
theorem redAll_bnd {c : CodeM} (hc : c.Ok) {nb : Nat} : ∀ {rs : List RdM} {s : (Nat → Nat) × (Nat → Nat)}, RdsOk c nb rs → BndF c s.1 → (∀ i, i < nb → s.2 i < 2 ^ c.m) → BndF c (redAll c rs s).1 ∧ ∀ i, i < nb → (redAll c rs s).2 i < 2 ^ c.m
 | [], _, _, h1, h2 => ⟨h1, h2⟩
 | r :: rs, s, h, h1, h2 => by
  have ho := opsC hc.fld
  have hr := h r List.mem_cons_self
  exact redAll_bnd hc (rs := rs) (fun x hx => h x (List.mem_cons_of_mem _ hx)) (stepF_bnd hc hr.1 h1) fun i hi => ho.xor_lt (h2 i hi) (ho.lt _ _ (h1 _ hr.1.1) (hr.2 i hi))
end Go.Proofs.YteikbikopgabjaaGreatDoor
end
