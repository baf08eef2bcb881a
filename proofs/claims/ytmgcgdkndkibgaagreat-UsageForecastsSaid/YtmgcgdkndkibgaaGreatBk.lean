/- How the operations on a space change what the tenants use: plain. -/
import Derived.Test.YtmgcgdkndkibgaaGreatBd
namespace Go.Proofs.YtmgcgdkndkibgaaGreat
open Go.RowKit Go.Vol Go.Sl

theorem sumU_one (x : PartM) (L : List PartM) (t : Int) : sumU (x :: L) t = (if x.tenant = t then (cnt x.m : Int) else 0) + sumU L t := by
  unfold sumU
  rw [List.filter_cons]
  by_cases h : x.tenant = t
  · rw [if_pos h, if_pos (beq_iff_eq.2 h), List.map_cons, List.sum_cons]
  · rw [if_neg h, if_neg (by simpa using h)]; omega
theorem sumU_insert (q : PartM) (t : Int) : ∀ (L : List PartM) (i : Nat), i ≤ L.length → sumU (L.insertIdx i q) t = sumU L t + if q.tenant = t then (cnt q.m : Int) else 0
  | [], 0, _ => by rw [List.insertIdx_zero, sumU_one]; omega
  | [], i + 1, h => by simp at h
  | p :: r, 0, _ => by rw [List.insertIdx_zero, sumU_one]; omega
  | p :: r, i + 1, h => by
    rw [List.insertIdx_succ_cons, sumU_one, sumU_one p r, sumU_insert q t r i (by simpa using h)]; omega
theorem sumU_set (q : PartM) (t : Int) : ∀ (L : List PartM) (i : Nat) (p : PartM), L[i]? = some p → sumU (L.set i q) t + (if p.tenant = t then (cnt p.m : Int) else 0) = sumU L t + if q.tenant = t then (cnt q.m : Int) else 0
  | [], i, p, h => by simp at h
  | x :: r, 0, p, h => by
    simp only [List.getElem?_cons_zero, Option.some.injEq] at h
    subst h
    rw [List.set_cons_zero, sumU_one, sumU_one x r]; omega
  | x :: r, i + 1, p, h => by
    simp only [List.getElem?_cons_succ] at h
    rw [List.set_cons_succ, sumU_one, sumU_one x r]
    have := sumU_set q t r i p h
    omega
/-- The tenant of the volume that is found last, as the law looks for it. -/
def ownK (L : List PartM) (v : Int) : Int := L.foldl (fun o p => if p.id == v then p.tenant else o) (-1)
theorem ownK_take {L : List PartM} {k : Nat} {x : PartM} (h : L[k]? = some x) (v : Int) : ownK (L.take (k + 1)) v = if x.id == v then x.tenant else ownK (L.take k) v := by
  unfold ownK
  rw [List.take_add_one, h, List.foldl_append]; rfl
theorem own_none {L : List PartM} {v : Int} (h : ∀ p ∈ L, p.id ≠ v) : ∀ o : Int, L.foldl (fun o p => if p.id == v then p.tenant else o) o = o := by
  induction L with
  | nil => intro o; rfl
  | cons q r ih =>
    intro o
    rw [List.foldl_cons, if_neg (by simpa using h q (by simp))]
    exact ih (fun p hp => h p (by simp [hp])) o
theorem own_vol {L : List PartM} {v : Int} {p : PartM} : ∀ {a : Int}, Incr L a → L.find? (fun p => p.id == v) = some p → ∀ o : Int, L.foldl (fun o p => if p.id == v then p.tenant else o) o = p.tenant := by
  induction L with
  | nil => intro a _ h; cases h
  | cons q r ih =>
    intro a hi hf o
    rw [List.foldl_cons]
    rw [List.find?_cons] at hf
    by_cases hq : q.id = v
    · rw [show (q.id == v) = true from beq_iff_eq.2 hq] at hf
      simp only [Option.some.injEq] at hf
      subst hf
      rw [if_pos (beq_iff_eq.2 hq)]
      refine own_none (fun x hx => ?_) _
      have := hi.2.le x hx
      omega
    · rw [show (q.id == v) = false from by simpa using hq] at hf
      rw [if_neg (by simpa using hq)]
      exact ih hi.2 hf o
theorem ownK_vol {S : SpaceM} (h : S.WF) {v : Int} {p : PartM} (hv : volF S v = some p) : ownK S.vols v = p.tenant := own_vol h.vols hv (-1)
theorem vol_at {S : SpaceM} {v : Int} {p : PartM} (hv : volF S v = some p) : S.vols[atN S.vols v]? = some p := by rw [atN_find]; exact hv
theorem snap_at {S : SpaceM} {v : Int} {p : PartM} (hv : snapF S v = some p) : S.snaps[atN S.snaps v]? = some p := by rw [atN_find]; exact hv
theorem contM_some {S : SpaceM} {v : Int} {p : PartM} (hv : volF S v = some p) : contM S v = (items p.m, 0) := by unfold contM; rw [hv]
theorem imageM_some {S : SpaceM} {v : Int} {p : PartM} (hv : snapF S v = some p) : imageM S v = (items p.m, 0) := by unfold imageM; rw [hv]
theorem contM_none {S : SpaceM} {v : Int} (hv : volF S v = none) : contM S v = ([], 12) := by unfold contM; rw [hv]
theorem imageM_none {S : SpaceM} {v : Int} (hv : snapF S v = none) : imageM S v = ([], 12) := by unfold imageM; rw [hv]
/-- What a tenant uses grows by dv and ds, what others use stays. -/
def Grows (S T : SpaceM) (ten dv ds : Int) : Prop := ∀ k : Nat, k < 16 → useOf T k = if (k : Int) = ten then ((useOf S k).1 + dv, (useOf S k).2 + ds) else useOf S k
theorem grows_of {S T : SpaceM} {ten dv ds : Int} (h1 : ∀ t, sumU T.vols t = sumU S.vols t + if ten = t then dv else 0) (h2 : ∀ t, sumU T.snaps t = sumU S.snaps t + if ten = t then ds else 0) : Grows S T ten dv ds := by
  intro k _
  unfold useOf
  rw [h1, h2]
  by_cases h : ten = (k : Int)
  · rw [if_pos h, if_pos h, if_pos h.symm]
  · rw [if_neg h, if_neg h, if_neg (fun e => h e.symm)]; simp
theorem step_link (S : SpaceM) (o : VOp) : (stepM S o).Link := by
  unfold stepM
  split
  · exact create_link _ _ _
  split
  · exact delete_link _ _
  split
  · exact change_link _ _ _ _
  split
  · exact change_link _ _ _ _
  split
  · exact change_link _ _ _ _
  split
  · exact snapshot_link _ _
  split
  · exact drop_link _ _
  split
  · exact clone_link _ _ _
  split
  · exact restore_link _ _ _
  exact .inl ⟨rfl, _, rfl⟩
theorem doM_sp {S : SpaceM} {o : VOp} {T : SpaceM} (h : (stepM S o).sp = some T) : doM S o = T := by unfold doM; rw [h]
theorem snap_grows {S : SpaceM} (hw : S.WF) {v : Int} {p : PartM} (hv : volF S v = some p) (he : (stepM S ⟨6, v, 0, 0⟩).e = 0) : Grows S (doM S ⟨6, v, 0, 0⟩) p.tenant 0 (cnt p.m) := by
  have e : stepM S ⟨6, v, 0, 0⟩ = S.snapshot v := by simp [stepM]
  rw [e] at he
  unfold SpaceM.snapshot at he
  rw [vol_at hv] at he
  simp only at he
  split at he
  · cases he
  · rename_i hlen
    have hT : (stepM S ⟨6, v, 0, 0⟩).sp = some { S with snaps := S.snaps.insertIdx (free S.snaps) ⟨free S.snaps, p.tenant, v, p.m⟩ } := by
      rw [e]; unfold SpaceM.snapshot; rw [vol_at hv]; simp only; rw [if_neg hlen]
    rw [doM_sp hT]
    have hf := free_le hw.snaps
    refine grows_of (fun t => ?_) (fun t => ?_)
    · show sumU S.vols t = _; split <;> omega
    · show sumU (S.snaps.insertIdx (free S.snaps) _) t = _
      rw [sumU_insert _ _ _ _ hf]
theorem create_grows {S : SpaceM} (hw : S.WF) {t : Int} {m : MapM} {T : SpaceM} (hT : (S.create t m).sp = some T) : Grows S T t (cnt m) 0 := by
  unfold SpaceM.create at hT
  split at hT
  · cases hT
  · split at hT
    · cases hT
    · simp only [Option.some.injEq] at hT
      subst hT
      have hf := free_le hw.vols
      refine grows_of (fun u => ?_) (fun u => ?_)
      · show sumU (S.vols.insertIdx (free S.vols) _) u = _
        rw [sumU_insert _ _ _ _ hf]
      · show sumU S.snaps u = _; split <;> omega
theorem sp_of {S : SpaceM} {o : VOp} (he : (stepM S o).e = 0) : ∃ T, (stepM S o).sp = some T := by
  rcases step_link S o with ⟨_, h⟩ | ⟨h, _⟩
  · exact h
  · exact absurd he h
theorem clone_grows {S : SpaceM} (hw : S.WF) {s t : Int} {p : PartM} (hv : snapF S s = some p) (he : (stepM S ⟨8, s, t, 0⟩).e = 0) : Grows S (doM S ⟨8, s, t, 0⟩) t (cnt p.m) 0 := by
  obtain ⟨T, hT⟩ := sp_of he
  rw [doM_sp hT]
  have e : stepM S ⟨8, s, t, 0⟩ = S.clone s t := by simp [stepM]
  rw [e] at hT
  unfold SpaceM.clone at hT
  rw [snap_at hv] at hT
  exact create_grows hw hT
/-- One volume takes another tree. -/
theorem set_grows {S : SpaceM} {i : Nat} {p : PartM} {m : MapM} (h : S.vols[i]? = some p) : Grows S { S with vols := S.vols.set i { p with m := m } } p.tenant ((cnt m : Int) - (cnt p.m : Int)) 0 := by
  refine grows_of (fun t => ?_) (fun t => ?_)
  · have h1 := sumU_set { p with m := m } t S.vols i p h
    show sumU (S.vols.set i { p with m := m }) t = _
    simp only at h1
    split at h1 <;> rename_i ht
    · rw [if_pos ht]; omega
    · rw [if_neg ht]; omega
  · show sumU S.snaps t = _; split <;> omega
theorem rest_grows {S : SpaceM} {v s : Int} {p q : PartM} (hv : volF S v = some p) (hs : snapF S s = some q) (he : (stepM S ⟨9, v, s, 0⟩).e = 0) : Grows S (doM S ⟨9, v, s, 0⟩) p.tenant ((cnt q.m : Int) - (cnt p.m : Int)) 0 := by
  obtain ⟨T, hT⟩ := sp_of he
  rw [doM_sp hT]
  have e : stepM S ⟨9, v, s, 0⟩ = S.restore v s := by simp [stepM]
  rw [e] at hT
  unfold SpaceM.restore at hT
  rw [snap_at hs] at hT
  simp only at hT
  unfold SpaceM.change at hT
  rw [vol_at hv] at hT
  simp only [if_true, Option.some.injEq] at hT
  subst hT
  exact set_grows (vol_at hv)
/-! ### mapping blocks one after the other -/
def mapsF (m : MapM) (l : List Int) : MapM := l.foldl (fun m b => Vol.upd m b.toNat (some 7)) m
theorem mapsF_snoc (m : MapM) (l : List Int) (b : Int) : mapsF m (l ++ [b]) = Vol.upd (mapsF m l) b.toNat (some 7) := by simp [mapsF]
theorem mapsF_some (m : MapM) (i : Nat) : ∀ l : List Int, (mapsF m l i).isSome = ((m i).isSome || l.any fun b => b.toNat == i) := by
  refine rev_ind ?_ ?_
  · simp [mapsF]
  · intro l b ih
    rw [mapsF_snoc, List.any_append]
    unfold Vol.upd
    by_cases h : i = b.toNat
    · rw [if_pos h]; simp [h]
    · rw [if_neg h, ih]
      have : (b.toNat == i) = false := by simpa using fun e => h e.symm
      simp [this]
theorem items_has (m : MapM) {i : Nat} (h : i < 4096) : ((items m).any fun y => (y.1 : Int) == (i : Int)) = (m i).isSome := by
  rw [Bool.eq_iff_iff, List.any_eq_true]
  constructor
  · rintro ⟨y, hy, he⟩
    unfold items itemsF at hy
    obtain ⟨j, _, hj⟩ := List.mem_filterMap.1 hy
    cases hm : m j with
    | none => rw [hm] at hj; cases hj
    | some c =>
      rw [hm] at hj
      simp only [Option.map_some, Option.some.injEq] at hj
      have e := eq_of_beq he
      rw [← hj] at e
      simp only at e
      have : j = i := by omega
      rw [← this, hm]; rfl
  · intro hm
    obtain ⟨c, hc⟩ := Option.isSome_iff_exists.1 hm
    refine ⟨(0 + i, c), ?_, by simp⟩
    unfold items itemsF
    exact List.mem_filterMap.2 ⟨i, List.mem_range.2 h, by rw [hc]; rfl⟩
theorem cntG_maps (m : MapM) (l : List Int) (hb : l.any badB = false) : ∀ k, k ≤ l.length → cnt (mapsF m (l.take k)) = cnt m + cntG l ((items m).map fun y => (y.1 : Int)) k
  | 0, _ => by simp [mapsF, cntG]
  | k + 1, hk => by
    have ih := cntG_maps m l hb k (by omega)
    obtain ⟨x, hx⟩ : ∃ x, l[k]? = some x := ⟨_, List.getElem?_eq_getElem (by omega)⟩
    have hxb : badB x = false := by
      rw [List.any_eq_false] at hb
      simpa using hb x (List.mem_of_getElem? hx)
    unfold badB at hxb
    rw [Bool.or_eq_false_iff, decide_eq_false_iff_not, decide_eq_false_iff_not] at hxb
    have hx1 : x.toNat < 4096 := by omega
    rw [List.take_add_one, hx]
    simp only [Option.toList_some]
    rw [mapsF_snoc, cnt_set 7 hx1, ih, mapsF_some]
    have e1 : ((l.take k).any fun b => b.toNat == x.toNat) = (l.take k).contains x := by
      rw [Bool.eq_iff_iff, List.any_eq_true, List.contains_iff_mem]
      constructor
      · rintro ⟨z, hz, he⟩
        have h1 := eq_of_beq he
        have hzb : badB z = false := by
          rw [List.any_eq_false] at hb
          simpa using hb z (List.mem_of_mem_take hz)
        unfold badB at hzb
        rw [Bool.or_eq_false_iff, decide_eq_false_iff_not, decide_eq_false_iff_not] at hzb
        have : z = x := by omega
        rw [← this]; exact hz
      · intro hz; exact ⟨x, hz, beq_self_eq_true _⟩
    have e2 : (m x.toNat).isSome = ((items m).map fun y => (y.1 : Int)).contains x := by
      rw [← items_has m hx1, Bool.eq_iff_iff, List.any_eq_true, List.contains_iff_mem, List.mem_map]
      have hxn : ((x.toNat : Nat) : Int) = x := by omega
      rw [hxn]
      constructor
      · rintro ⟨y, hy, he⟩; exact ⟨y, hy, eq_of_beq he⟩
      · rintro ⟨y, hy, he⟩; exact ⟨y, hy, beq_iff_eq.2 he⟩
    rw [e1, e2]
    have e3 : cntG l ((items m).map fun y => (y.1 : Int)) (k + 1) = cntG l ((items m).map fun y => (y.1 : Int)) k + if ((l.take k).contains x || ((items m).map fun y => (y.1 : Int)).contains x) = true then 0 else 1 := by
      show cntG l _ k + (if (match l[k]? with | some x => (l.take k).contains x || ((items m).map fun y => (y.1 : Int)).contains x | none => true) = true then 0 else 1) = _
      rw [hx]
    rw [e3, Bool.or_comm]
    omega
theorem maps_run {S : SpaceM} {v : Int} {p : PartM} (hv : volF S v = some p) (l : List Int) (hb : l.any badB = false) : ∀ k, k ≤ l.length →
    runU S ((l.take k).map fun b => ⟨4, v, b, 7⟩) = { S with vols := S.vols.set (atN S.vols v) { p with m := mapsF p.m (l.take k) } }
  | 0, _ => by
    have h := vol_at hv
    have e : S.vols.set (atN S.vols v) p = S.vols := by
      apply List.ext_getElem?
      intro i
      rw [List.getElem?_set]
      split
      · rename_i hi; subst hi
        split
        · exact h.symm
        · rename_i h2; rw [List.getElem?_eq_none (by omega)]
      · rfl
    show S = { S with vols := S.vols.set (atN S.vols v) p }
    rw [e]
  | k + 1, hk => by
    have ih := maps_run hv l hb k (by omega)
    obtain ⟨x, hx⟩ : ∃ x, l[k]? = some x := ⟨_, List.getElem?_eq_getElem (by omega)⟩
    have hxb : badB x = false := by
      rw [List.any_eq_false] at hb
      simpa using hb x (List.mem_of_getElem? hx)
    unfold badB at hxb
    rw [Bool.or_eq_false_iff, decide_eq_false_iff_not, decide_eq_false_iff_not] at hxb
    have e0 : runU S ((l.take (k + 1)).map fun b => ⟨4, v, b, 7⟩) = doM (runU S ((l.take k).map fun b => ⟨4, v, b, 7⟩)) ⟨4, v, x, 7⟩ := by
      rw [List.take_add_one, hx]
      simp only [Option.toList_some, List.map_append, List.map_cons, List.map_nil]
      unfold runU
      rw [List.foldl_append]; rfl
    rw [e0, ih]
    have hi := vol_at hv
    have hlt := (List.getElem?_eq_some_iff.1 hi).1
    have hid := atN_some hi
    generalize hj : atN S.vols v = i at hi hlt ⊢
    have hat : atN (S.vols.set i { p with m := mapsF p.m (l.take k) }) v = i := by
      rw [← hj]
      unfold atN
      unfold atN at hj
      have key : ∀ (L : List PartM) (i : Nat) (q : PartM), L.findIdx (fun p => p.id == v) = i → L[i]? = some p → q.id = p.id → (L.set i q).findIdx (fun p => p.id == v) = i := by
        intro L
        induction L with
        | nil => intro i q _ h; simp at h
        | cons y r ih =>
          intro i q hf h hq
          cases i with
          | zero =>
            simp only [List.getElem?_cons_zero, Option.some.injEq] at h
            subst h
            rw [List.set_cons_zero, List.findIdx_cons, show (q.id == v) = true from by rw [hq, hid]; exact beq_self_eq_true v]; rfl
          | succ i =>
            simp only [List.getElem?_cons_succ] at h
            rw [List.findIdx_cons] at hf
            cases hy : (y.id == v)
            · rw [hy] at hf
              simp only [cond_false] at hf
              rw [List.set_cons_succ, List.findIdx_cons, hy]
              simp only [cond_false]
              rw [ih i q (by omega) h hq]
            · rw [hy] at hf; simp at hf
      rw [hj]
      exact key S.vols i _ hj hi rfl
    have hgt : (S.vols.set i { p with m := mapsF p.m (l.take k) })[i]? = some { p with m := mapsF p.m (l.take k) } := by rw [List.getElem?_set_self hlt]
    have hst : (stepM { S with vols := S.vols.set i { p with m := mapsF p.m (l.take k) } } ⟨4, v, x, 7⟩).sp = some { S with vols := S.vols.set i { p with m := mapsF p.m (l.take (k + 1)) } } := by
      have e : ∀ U : SpaceM, stepM U ⟨4, v, x, 7⟩ = U.map v x 7 := fun U => by simp [stepM]
      rw [e]
      unfold SpaceM.map SpaceM.change
      simp only
      rw [hat, hgt]
      simp only
      have hok : (blkB x && chkB 7) = true := by
        unfold blkB chkB
        rw [decide_eq_true (show 0 ≤ x by omega), decide_eq_true (show x < 4096 by omega)]; rfl
      rw [if_pos hok]
      simp only [Option.some.injEq]
      congr 1
      rw [List.set_set]
      congr 2
      rw [List.take_add_one, hx]
      simp only [Option.toList_some]
      rw [mapsF_snoc]
    rw [doM_sp hst]
theorem maps_grows {S : SpaceM} {v : Int} {p : PartM} (hv : volF S v = some p) (l : List Int) (hb : l.any badB = false) :
    Grows S (runU S (l.map fun b => ⟨4, v, b, 7⟩)) p.tenant (cntG l ((items p.m).map fun y => (y.1 : Int)) l.length) 0 := by
  have h := maps_run hv l hb l.length (Nat.le_refl _)
  have h2 := cntG_maps p.m l hb l.length (Nat.le_refl _)
  rw [List.take_length] at h h2
  rw [h]
  have h3 := set_grows (m := mapsF p.m l) (vol_at hv)
  have e : ((cnt (mapsF p.m l) : Nat) : Int) - (cnt p.m : Int) = (cntG l ((items p.m).map fun y => (y.1 : Int)) l.length : Int) := by omega
  rw [e] at h3
  exact h3
theorem growM_ok {S : SpaceM} {v : Int} {l : List Int} (h : (growM S v l).2 = 0) : ∃ p, volF S v = some p ∧ l.any badB = false ∧ (growM S v l).1 = (cntG l ((items p.m).map fun y => (y.1 : Int)) l.length : Int) := by
  cases hv : volF S v with
  | none =>
    unfold growM at h
    rw [contM_none hv] at h
    simp at h
  | some p =>
    refine ⟨p, rfl, ?_⟩
    unfold growM at h ⊢
    rw [contM_some hv] at h ⊢
    simp only [ne_eq, not_true_eq_false, if_false] at h ⊢
    cases hb : l.any badB
    · refine ⟨rfl, ?_⟩; rw [if_neg (by simp)]
    · rw [hb, if_pos rfl] at h; simp at h
theorem imageM_ok {S : SpaceM} {v : Int} (h : (imageM S v).2 = 0) : ∃ p, snapF S v = some p := by
  unfold imageM at h
  split at h
  · cases h
  · rename_i p hp; exact ⟨p, hp⟩
theorem restM_ok {S : SpaceM} {v s : Int} (h : (restM S v s).2 = 0) : ∃ p q, volF S v = some p ∧ snapF S s = some q := by
  unfold restM at h
  split at h
  · cases h
  · rename_i hn
    have h1 : (contM S v).2 = 0 := Classical.byContradiction fun h1 => hn (.inl h1)
    have h2 : (imageM S s).2 = 0 := Classical.byContradiction fun h2 => hn (.inr h2)
    obtain ⟨p, hp⟩ := contM_ok h1
    obtain ⟨q, hq⟩ := imageM_ok h2
    exact ⟨p, q, hp, hq⟩
theorem rest_val {S : SpaceM} {v s : Int} {p q : PartM} (hv : volF S v = some p) (hs : snapF S s = some q) : (restM S v s).1 = (cnt q.m : Int) - (cnt p.m : Int) := by
  unfold restM
  rw [contM_some hv, imageM_some hs]
  simp [items_len]
end Go.Proofs.YtmgcgdkndkibgaaGreat
