import Derived.Test.YteikbikopgabjaaGreatDoorV49
/- Part 54 of a proof; the last part says what is proved. -/
namespace Go.Proofs.YteikbikopgabjaaGreatDoor
open Go.RowKit Go.Sha Go.Sl Go.GF Go.Vol Go.Loss
theorem wpList_append_rO {ops : Array Oper} {rest : List Oper} {o : Oper} {a : Act} {Q : Exit → Act → World → Prop} {F : HProp} {w : World} (hg : o.guard = none) (s x : Operand) (t e : TypeId)
    (ho : o.op = .call { callee := .builtin .append, args := #[s, x], argTypes := #[t, t] }) (i : TypeInfo) (z : Value) (ht : Tryz.prog.underlying t = some (.slice e)) (hi : Tryz.prog.info? e = some i) (hz : i.zero = some z) {sz by_ : Nat} (hsz : i.size = sz) (hby : i.bytes = by_) (hzs : z.cells.size = sz)
    {v : Value} {n : Nat} {xs : List Value} (h : Sat w (ownAt e sz v n xs * F)) {y : Value} {m : Nat} (news : List Value) (hs : a.eval s = v) (hx : a.eval x = y) (hr : RowsO w y m news)
    (hl : news.length = m * sz) (h1 : ∀ u ∈ news, u.oneCell' = true) (h63 : n + m ≤ maxLen) (hbytes : (n + m) * by_ ≤ 140737488355328)
    (k : ∀ v' w', Hid (Same w w' ∧ Sat w' (ownAt e sz v' (n + m) (xs ++ news) * F)) → wpList Tryz.prog ops Q rest (a.put o.dst v') w') : wpList Tryz.prog ops Q (o :: rest) a w := by
  obtain ⟨ao, cap, rfl, hmax, h4⟩ := hr
  by_cases hm : m = 0
  · subst hm
    have hnil : news = [] := List.eq_nil_of_length_eq_zero (by simpa using hl)
    subst hnil
    have hle : ∃ bo cp, v = .slice bo n cp ∧ n ≤ cp := by
      rcases ownAt_iff.1 h with ⟨rfl, rfl, _, _⟩ | ⟨g, cap, cur, ⟨rfl, h1, _⟩, _⟩
      · exact ⟨_, _, rfl, Nat.le_refl _⟩
      · exact ⟨_, _, rfl, h1⟩
    obtain ⟨bo, cp, rfl, hnc⟩ := hle
    have hrun := run_append_r0 (P := Tryz.prog) (w := w) t o.type e i ht hi bo ao n cp cap hnc
    refine wpList_run hg (v := .slice bo n cp) (w' := w) ?_ (k _ w ⟨Same.refl w, by simpa using h⟩)
    unfold execOp
    simp only [ho, resolve, invoke, builtin, Sem.run_bind, Sem.run_pure, Result.andThen_ok, List.map_toArray, List.map_cons, List.map_nil, hs, hx, hrun]
  · obtain ⟨b, off, rfl, hb, hc⟩ := h4 (by omega)
    exact wpList_append_ownAt hg s x t e ho i z ht hi hz hsz hby hzs h news hs hx hl (fun j u hu => by rw [Addr.add_mid]; exact hc j u hu) h1 h63 hbytes k
def mvC (k i : Nat) (x : ItM) : ChM := if i < k then ⟨x.1, false, rowK (200 + i)⟩ else chI i x
def lsC (k i : Nat) (x : ItM) : ChM := if i < k then ⟨x.1, true, zUK⟩ else ⟨x.1, false, rowK (200 + i)⟩
def mkI (k i : Nat) (x : ItM) : ItM := if i < k then (x.1, true) else x
def idxL {β : Type} (f : Nat → ItM → β) (l : List ItM) : List β := l.zipIdx.map fun q => f q.2 q.1
section
variable {β : Type} {f g : Nat → ItM → β} {l : List ItM}
theorem idxL_len (f : Nat → ItM → β) (l : List ItM) : (idxL f l).length = l.length := by unfold idxL; simp
theorem idxL_at {k : Nat} {x : ItM} (h : l[k]? = some x) : (idxL f l)[k]? = some (f k x) := by
  unfold idxL
  rw [List.getElem?_map, List.getElem?_zipIdx, h]
  simp
theorem idxL_ext (h : ∀ i x, l[i]? = some x → f i x = g i x) : idxL f l = idxL g l := by
  apply List.ext_getElem?
  intro i
  cases hx : l[i]? with
  | none =>
    have := List.getElem?_eq_none_iff.1 hx
    rw [List.getElem?_eq_none (by rw [idxL_len]; exact this), List.getElem?_eq_none (by rw [idxL_len]; exact this)]
  | some x => rw [idxL_at hx, idxL_at hx, h i x hx]
theorem idxL_set {k : Nat} {x : ItM} (hx : l[k]? = some x) (y : β) (h1 : g k x = y) (h2 : ∀ i x, i ≠ k → f i x = g i x) : (idxL f l).set k y = idxL g l := by
  apply List.ext_getElem?
  intro i
  rw [List.getElem?_set, idxL_len]
  by_cases e : k = i
  · subst e
    rw [if_pos rfl, if_pos (List.getElem?_eq_some_iff.1 hx).1, idxL_at hx, h1]
  · rw [if_neg e]
    cases hx : l[i]? with
    | none =>
      have := List.getElem?_eq_none_iff.1 hx
      rw [List.getElem?_eq_none (by rw [idxL_len]; exact this), List.getElem?_eq_none (by rw [idxL_len]; exact this)]
    | some x => rw [idxL_at hx, idxL_at hx, h2 i x (Ne.symm e)]
end
theorem mv_zero (l : List ItM) : idxL (mvC 0) l = chunksM l := idxL_ext (f := mvC 0) (g := chI) fun i x _ => by unfold mvC; rw [if_neg (by omega)]
theorem mv_set {l : List ItM} {k : Nat} {x : ItM} (hx : l[k]? = some x) : (idxL (mvC k) l).set k ⟨x.1, false, rowK (200 + k)⟩ = idxL (mvC (k + 1)) l :=
  idxL_set hx _ (by unfold mvC; rw [if_pos (by omega)]) fun i x hi => by
    unfold mvC
    by_cases h : i < k
    · rw [if_pos h, if_pos (by omega)]
    · rw [if_neg h, if_neg (by omega)]
theorem mv_all (l : List ItM) : idxL (mvC l.length) l = idxL (lsC 0) l := idxL_ext fun i x hx => by
  have := (List.getElem?_eq_some_iff.1 hx).1
  unfold mvC lsC
  rw [if_pos this, if_neg (by omega)]
theorem ls_set {l : List ItM} {k : Nat} {x : ItM} (hx : l[k]? = some x) : (idxL (lsC k) l).set k ⟨x.1, true, zUK⟩ = idxL (lsC (k + 1)) l :=
  idxL_set hx _ (by unfold lsC; rw [if_pos (by omega)]) fun i x hi => by
    unfold lsC
    by_cases h : i < k
    · rw [if_pos h, if_pos (by omega)]
    · rw [if_neg h, if_neg (by omega)]
theorem mk_zero (l : List ItM) : idxL (mkI 0) l = l := by
  apply List.ext_getElem?
  intro i
  cases hx : l[i]? with
  | none =>
    have := List.getElem?_eq_none_iff.1 hx
    rw [List.getElem?_eq_none (by rw [idxL_len]; exact this)]
  | some x => rw [idxL_at hx]; unfold mkI; rw [if_neg (by omega)]
theorem lost_mv (l : List ItM) (c : Int) : lostC (idxL (lsC 0) l) c = none := by
  unfold lostC
  split
  · cases h : l[(c - 1).toNat]? with
    | none => rw [List.getElem?_eq_none (by rw [idxL_len]; exact List.getElem?_eq_none_iff.1 h)]
    | some x => rw [idxL_at h]; unfold lsC; rw [if_neg (by omega)]; rfl
  · rfl
theorem lost_ls (l : List ItM) (c : Int) : lostC (idxL (lsC l.length) l) c = lostU (idxL (mkI l.length) l) c := by
  unfold lostC lostU
  split
  · cases h : l[(c - 1).toNat]? with
    | none => rw [List.getElem?_eq_none (by rw [idxL_len]; exact List.getElem?_eq_none_iff.1 h), List.getElem?_eq_none (by rw [idxL_len]; exact List.getElem?_eq_none_iff.1 h)]
    | some x =>
      have := (List.getElem?_eq_some_iff.1 h).1
      rw [idxL_at h, idxL_at h]; unfold lsC mkI; rw [if_pos this, if_pos this]; rfl
  · rfl
theorem visL_none {fl : Bool} {id ten : Int} {L : List ChM} (h : ∀ c, lostC L c = none) (its : List (Nat × Int)) : visL fl id ten L its = [] := by
  unfold visL
  rw [List.filterMap_eq_nil_iff]
  intro m _
  rw [h]; rfl
theorem each_none {S : SpaceM} {L : List ChM} (h : ∀ c, lostC L c = none) : eachL S L = [] := by
  unfold eachL
  rw [List.append_eq_nil_iff, List.flatMap_eq_nil_iff, List.flatMap_eq_nil_iff]
  exact ⟨fun p _ => visL_none h _, fun p _ => visL_none h _⟩
theorem wait_none : ∀ {L : List ChM}, (∀ x ∈ L, x.lost = false) → waitL L = []
  | [], _ => rfl
  | x :: L, h => by
    have ih := wait_none (L := L) fun y hy => h y (List.mem_cons_of_mem _ hy)
    unfold waitL at ih ⊢
    rw [List.foldl_cons, show addW [] x = [] by unfold addW; rw [if_neg]; rintro ⟨h1, _⟩; rw [h x List.mem_cons_self] at h1; cases h1]
    exact ih
theorem wait_mv (l : List ItM) : waitL (idxL (lsC 0) l) = [] := wait_none fun x hx => by
  unfold idxL at hx
  obtain ⟨q, _, rfl⟩ := List.mem_map.1 hx
  unfold lsC
  rw [if_neg (by omega)]
theorem itE_set (k : Nat) (l : List ItM) {x : ItM} (hx : l[k]? = some x) : ((idxL (mkI k) l).flatMap itE).set (k * 2 + 1) (.bool true) = (idxL (mkI (k + 1)) l).flatMap itE := by
  have h1 : (idxL (mkI k) l).set k (x.1, true) = idxL (mkI (k + 1)) l := idxL_set hx _ (by unfold mkI; rw [if_pos (by omega)]) fun i x hi => by
    unfold mkI
    by_cases h : i < k
    · rw [if_pos h, if_pos (by omega)]
    · rw [if_neg h, if_neg (by omega)]
  have h2 : (idxL (mkI k) l)[k]? = some x := by rw [idxL_at hx]; unfold mkI; rw [if_neg (by omega)]
  rw [← h1]
  generalize idxL (mkI k) l = L at h2
  clear h1 hx
  induction L generalizing k with
  | nil => simp at h2
  | cons y L ih =>
    cases k with
    | zero =>
      simp only [List.getElem?_cons_zero, Option.some.injEq] at h2
      subst h2
      simp [itE]
    | succ k =>
      rw [List.getElem?_cons_succ] at h2
      rw [List.set_cons_succ, List.flatMap_cons, List.flatMap_cons, List.set_append_right _ _ (by rw [itE_len]; omega), itE_len, show (k + 1) * 2 + 1 - 2 = k * 2 + 1 by omega, ih k h2]
end Go.Proofs.YteikbikopgabjaaGreatDoor
