import Derived.Test.YtmgcgdkndkibgaaGreatMr
import Derived.Test.YtmgcgdkndkibgaaGreatAu
import Derived.Test.YtmgcgdkndkibgaaGreatAq
import Derived.Test.YtmgcgdkndkibgaaGreatWe
import Derived.Test.YtmgcgdkndkibgaaGreatWk
import Derived.Test.YtmgcgdkndkibgaaGreatSo
import Derived.OwnWalkIn
import Derived.BigFrameIn
import Derived.Test.YtmgcgdkndkibgaaGreatAh
/- Maps of sets: a map with integer keys whose values are maps from integers to true, as blocks of the heap, and the plain list that stands for it. It speaks of no program. -/
namespace Go.Sl
open Go Go.RowKit Go.ChangeMaps

/-- A key, the members of its set, and the block of the set. -/
abbrev Sets := List (Int × List Int × Nat)
def setKV (T : List Int) : KV := T.map fun t => (t, Value.bool true)
def outKV (M : Sets) : KV := M.map fun x => (x.1, Value.map (some x.2.2))
def setAt (r : Nat) (T : List Int) : HProp := ex fun es => ex fun ck => lift (MapL es ck (setKV T)) * pts r (.map es ck)
def tens : Sets → HProp
  | [] => emp
  | x :: M => setAt x.2.2 x.2.1 * tens M
def setsAt (mb : Nat) (M : Sets) : HProp := ex fun es => ex fun ck => lift (MapL es ck (outKV M)) * (pts mb (.map es ck) * tens M)

theorem Sat.setAt_iff {w : World} {r : Nat} {T : List Int} {F : HProp} : Sat w (setAt r T * F) ↔ ∃ es ck, MapL es ck (setKV T) ∧ Sat w (pts r (.map es ck) * F) := by
  unfold setAt
  rw [Sat.ex]
  constructor
  · rintro ⟨es, h⟩
    rw [Sat.ex] at h
    obtain ⟨ck, h⟩ := h
    rw [star_assoc, Sat.lift] at h
    exact ⟨es, ck, h.1, h.2⟩
  · rintro ⟨es, ck, h1, h2⟩
    refine ⟨es, ?_⟩
    rw [Sat.ex]
    refine ⟨ck, ?_⟩
    rw [star_assoc, Sat.lift]
    exact ⟨h1, h2⟩
theorem Sat.setsAt_iff {w : World} {mb : Nat} {M : Sets} {F : HProp} : Sat w (setsAt mb M * F) ↔ ∃ es ck, MapL es ck (outKV M) ∧ Sat w (pts mb (.map es ck) * (tens M * F)) := by
  unfold setsAt
  rw [Sat.ex]
  constructor
  · rintro ⟨es, h⟩
    rw [Sat.ex] at h
    obtain ⟨ck, h⟩ := h
    rw [star_assoc, Sat.lift, star_assoc] at h
    exact ⟨es, ck, h.1, h.2⟩
  · rintro ⟨es, ck, h1, h2⟩
    refine ⟨es, ?_⟩
    rw [Sat.ex]
    refine ⟨ck, ?_⟩
    rw [star_assoc, Sat.lift, star_assoc]
    exact ⟨h1, h2⟩
theorem tens_append : ∀ A B : Sets, tens (A ++ B) = tens A * tens B
  | [], B => by rw [List.nil_append]; exact (emp_star _).symm
  | x :: A, B => by
    show setAt x.2.2 x.2.1 * tens (A ++ B) = setAt x.2.2 x.2.1 * tens A * tens B
    rw [tens_append A B]; ac_rfl
theorem tens_mid (A B : Sets) (x : Int × List Int × Nat) : tens (A ++ x :: B) = setAt x.2.2 x.2.1 * (tens A * tens B) := by
  rw [tens_append]
  show tens A * (setAt x.2.2 x.2.1 * tens B) = _
  ac_rfl
theorem lk_set (T : List Int) (t : Int) : lk (setKV T) t = if t ∈ T then some (.bool true) else none := by
  induction T with
  | nil => rfl
  | cons a T ih =>
    show (if t = a then some (Value.bool true) else lk (setKV T) t) = _
    rw [ih]
    by_cases h : t = a
    · subst h; simp
    · simp [h]
def insT (T : List Int) (t : Int) : List Int := if t ∈ T then T else T ++ [t]
theorem upd_set (T : List Int) (t : Int) : upd (setKV T) t (.bool true) = setKV (insT T t) := by
  induction T with
  | nil => rfl
  | cons a T ih =>
    show (if t = a then (a, Value.bool true) :: setKV T else (a, Value.bool true) :: upd (setKV T) t (.bool true)) = _
    unfold insT at *
    by_cases h : t = a
    · subst h; simp [setKV]
    · rw [if_neg h, ih]
      by_cases h2 : t ∈ T
      · simp [h, h2, setKV]
      · simp [h, h2, setKV]
theorem mem_insT {T : List Int} {t x : Int} : x ∈ insT T t ↔ x ∈ T ∨ x = t := by
  unfold insT
  split
  · constructor
    · exact .inl
    · rintro (h | rfl) <;> assumption
  · simp
theorem nodup_insT {T : List Int} (h : T.Nodup) (t : Int) : (insT T t).Nodup := by
  unfold insT
  split
  · exact h
  · rename_i ht
    rw [List.nodup_append]
    exact ⟨h, by simp, by intro a ha b hb; simp at hb; subst hb; rintro rfl; exact ht ha⟩
theorem out_keys (M : Sets) : (outKV M).map (·.1) = M.map (·.1) := by unfold outKV; rw [List.map_map]; rfl
theorem lk_out_none {M : Sets} {c : Int} (h : c ∉ M.map (·.1)) : lk (outKV M) c = none := lk_none_of_not_mem (by rw [out_keys]; exact h)
theorem lk_out {A B : Sets} {c : Int} {T : List Int} {r : Nat} (h : ((A ++ (c, T, r) :: B).map (·.1)).Nodup) : lk (outKV (A ++ (c, T, r) :: B)) c = some (.map (some r)) := by
  induction A with
  | nil => simp [outKV, lk]
  | cons x A ih =>
    simp only [List.cons_append, List.map_cons, List.nodup_cons] at h
    show (if c = x.1 then _ else lk (outKV (A ++ (c, T, r) :: B)) c) = _
    rw [if_neg (by rintro rfl; exact h.1 (by simp))]
    exact ih h.2
theorem upd_out_new {M : Sets} {c : Int} (h : c ∉ M.map (·.1)) (r : Nat) : upd (outKV M) c (.map (some r)) = outKV (M ++ [(c, [], r)]) := by
  induction M with
  | nil => rfl
  | cons x M ih =>
    simp only [List.map_cons, List.mem_cons, not_or] at h
    show (if c = x.1 then _ else (x.1, Value.map (some x.2.2)) :: upd (outKV M) c (.map (some r))) = _
    rw [if_neg h.1, ih h.2]; rfl
theorem out_same (A B : Sets) (c : Int) (T T' : List Int) (r : Nat) : outKV (A ++ (c, T, r) :: B) = outKV (A ++ (c, T', r) :: B) := by simp [outKV]
theorem split_key {M : Sets} {c : Int} (h : c ∈ M.map (·.1)) : ∃ A T r B, M = A ++ (c, T, r) :: B := by
  obtain ⟨x, hx, rfl⟩ := List.mem_map.1 h
  obtain ⟨A, B, rfl⟩ := List.append_of_mem hx
  exact ⟨A, x.2.1, x.2.2, B, rfl⟩

/-- The list says which pairs were noted. -/
structure SetsOk (M : Sets) (P : List (Int × Int)) : Prop where
  nodup : (M.map (·.1)).Nodup
  sets : ∀ x ∈ M, x.2.1.Nodup
  mem : ∀ c t, (c, t) ∈ P ↔ ∃ T r, (c, T, r) ∈ M ∧ t ∈ T
  len : M.length ≤ P.length
  keys : ∀ x ∈ M, ∃ t, (x.1, t) ∈ P
theorem SetsOk.nil : SetsOk [] [] := ⟨by simp, by simp, by simp, by simp, by simp⟩
theorem SetsOk.old {A B : Sets} {c t : Int} {T : List Int} {r : Nat} {P : List (Int × Int)} (h : SetsOk (A ++ (c, T, r) :: B) P) : SetsOk (A ++ (c, insT T t, r) :: B) (P ++ [(c, t)]) := by
  refine ⟨by simpa using h.nodup, ?_, ?_, ?_, ?_⟩
  · intro x hx
    simp only [List.mem_append, List.mem_cons] at hx
    rcases hx with hx | rfl | hx
    · exact h.sets x (by simp [hx])
    · exact nodup_insT (h.sets (c, T, r) (by simp)) t
    · exact h.sets x (by simp [hx])
  · intro c' t'
    rw [List.mem_append, h.mem]
    simp only [List.mem_append, List.mem_cons, Prod.mk.injEq, List.not_mem_nil, or_false]
    constructor
    · rintro (⟨T', r', h1 | ⟨rfl, rfl, rfl⟩ | h1, h2⟩ | ⟨rfl, rfl⟩)
      · exact ⟨T', r', .inl h1, h2⟩
      · exact ⟨_, _, .inr (.inl ⟨rfl, rfl, rfl⟩), mem_insT.2 (.inl h2)⟩
      · exact ⟨T', r', .inr (.inr h1), h2⟩
      · exact ⟨_, _, .inr (.inl ⟨rfl, rfl, rfl⟩), mem_insT.2 (.inr rfl)⟩
    · rintro ⟨T', r', h1 | ⟨rfl, rfl, rfl⟩ | h1, h2⟩
      · exact .inl ⟨T', r', .inl h1, h2⟩
      · rcases mem_insT.1 h2 with h2 | rfl
        · exact .inl ⟨T, r', .inr (.inl ⟨rfl, rfl, rfl⟩), h2⟩
        · exact .inr ⟨rfl, rfl⟩
      · exact .inl ⟨T', r', .inr (.inr h1), h2⟩
  · have := h.len
    simp only [List.length_append, List.length_cons, List.length_nil] at this ⊢
    omega
  · intro x hx
    simp only [List.mem_append, List.mem_cons] at hx
    rcases hx with hx | rfl | hx
    · obtain ⟨t', ht'⟩ := h.keys x (by simp [hx])
      exact ⟨t', by simp [ht']⟩
    · exact ⟨t, by simp⟩
    · obtain ⟨t', ht'⟩ := h.keys x (by simp [hx])
      exact ⟨t', by simp [ht']⟩
theorem SetsOk.new {M : Sets} {c t : Int} {r : Nat} {P : List (Int × Int)} (h : SetsOk M P) (hc : c ∉ M.map (·.1)) : SetsOk (M ++ [(c, [t], r)]) (P ++ [(c, t)]) := by
  refine ⟨?_, ?_, ?_, ?_, ?_⟩
  · rw [List.map_append, List.nodup_append]
    exact ⟨h.nodup, by simp, by intro a ha b hb; simp at hb; subst hb; rintro rfl; exact hc ha⟩
  · intro x hx
    simp only [List.mem_append, List.mem_cons, List.not_mem_nil, or_false] at hx
    rcases hx with hx | rfl
    · exact h.sets x hx
    · simp
  · intro c' t'
    rw [List.mem_append, h.mem]
    simp only [List.mem_append, List.mem_cons, Prod.mk.injEq, List.not_mem_nil, or_false]
    constructor
    · rintro (⟨T', r', h1, h2⟩ | ⟨rfl, rfl⟩)
      · exact ⟨T', r', .inl h1, h2⟩
      · exact ⟨_, _, .inr ⟨rfl, rfl, rfl⟩, by simp⟩
    · rintro ⟨T', r', h1 | ⟨rfl, rfl, rfl⟩, h2⟩
      · exact .inl ⟨T', r', h1, h2⟩
      · exact .inr ⟨rfl, by simpa using h2⟩
  · have := h.len
    simp only [List.length_append, List.length_cons, List.length_nil] at this ⊢
    omega
  · intro x hx
    simp only [List.mem_append, List.mem_cons, List.not_mem_nil, or_false] at hx
    rcases hx with hx | rfl
    · obtain ⟨t', ht'⟩ := h.keys x hx
      exact ⟨t', by simp [ht']⟩
    · exact ⟨t, by simp⟩

/-- 'delete(m, k)', told entry by entry. -/
theorem run_delete_born {P : Program} {w : World} {r clock : Nat} {es : Array MapEntry} {l : KV} {T K E : TypeId} {q : IntKind} (hT : P.underlying T = some (.map K E)) (hK : P.underlying K = some (.int q))
    (hb : w.heap[r]? = some (.map es clock)) (hl : MapL es clock l) (k : Int) (e : MapEntry) (he : e ∈ es.toList) (hk : e.key = .int .i64 k) :
    ∃ es' : Array MapEntry, (∀ ty, (Builtin.delete_ #[T, K] ty #[.map (some r), .int .i64 k]).run P w = .ok (.tuple #[]) (setBlock w r (.map es' clock))) ∧ MapL es' clock (del l k) ∧ (∀ x, x ∈ es'.toList ↔ x ∈ es.toList ∧ x.born ≠ e.born) := by
  cases hf : fidx l k 0 with
  | none =>
    exfalso
    have h1 : k ∈ l.map (·.1) := by
      have : (e.key, e.val) ∈ l.map fun p => (Value.int .i64 p.1, p.2) := by rw [← hl.ent]; exact List.mem_map_of_mem he
      obtain ⟨p, hp, hpe⟩ := List.mem_map.1 this
      rw [hk] at hpe
      simp only [Prod.mk.injEq, Value.int.injEq, true_and] at hpe
      rw [← hpe.1]; exact List.mem_map_of_mem hp
    obtain ⟨v, hv⟩ := lk_of_mem h1
    have := fidx_lk l k 0
    rw [hf, hv] at this; cases this
  | some p =>
    obtain ⟨i, x⟩ := p
    have hi := fidx_ge _ _ _ _ _ hf
    have hlen := hl.size
    have hkey : ∀ (l : KV) (es : List MapEntry) (i j : Nat), es.map (fun e => (e.key, e.val)) = l.map (fun p => (Value.int .i64 p.1, p.2)) → fidx l k i = some (i + j, x) → ∃ y, es[j]? = some y ∧ y.key = .int .i64 k := by
      intro l
      induction l with
      | nil => intro es i j _ h; simp [fidx] at h
      | cons p t ih =>
        obtain ⟨a, z⟩ := p
        intro es i j hes h
        cases es with
        | nil => simp at hes
        | cons y es =>
          simp only [List.map_cons, List.cons.injEq, Prod.mk.injEq] at hes
          unfold fidx at h
          by_cases hka : k = a
          · subst hka
            simp only [if_true, Option.some.injEq, Prod.mk.injEq] at h
            obtain rfl : j = 0 := by omega
            exact ⟨y, rfl, hes.1.1⟩
          · simp only [hka, if_false] at h
            have hge := fidx_ge _ _ _ _ _ h
            obtain ⟨j', rfl⟩ : ∃ j', j = j' + 1 := ⟨j - 1, by omega⟩
            obtain ⟨y', h1, h2⟩ := ih es (i + 1) j' hes.2 (by rw [h]; congr 2; omega)
            exact ⟨y', by simpa using h1, h2⟩
    obtain ⟨y, hy, hyk⟩ := hkey l es.toList 0 i hl.ent (by simpa using hf)
    have hkeys : (es.toList.map (·.key)).Nodup := by
      have h1 : es.toList.map (·.key) = (l.map (·.1)).map (Value.int .i64) := by
        have := congrArg (List.map Prod.fst) hl.ent
        simpa [List.map_map, Function.comp_def] using this
      rw [h1]
      refine List.Pairwise.map _ ?_ hl.nodup
      intro a b h h'; exact h (by simpa using h')
    have huniq : ∀ (L : List MapEntry), (L.map (·.key)).Nodup → ∀ a ∈ L, ∀ b ∈ L, a.key = b.key → a = b := by
      intro L
      induction L with
      | nil => intro _ a ha; simp at ha
      | cons z L ih =>
        intro hn a ha b hb hab
        simp only [List.map_cons, List.nodup_cons] at hn
        rcases List.mem_cons.1 ha with h1 | h1
        · rcases List.mem_cons.1 hb with h2 | h2
          · rw [h1, h2]
          · exact absurd (by rw [← h1, hab]; exact List.mem_map_of_mem h2) hn.1
        · rcases List.mem_cons.1 hb with h2 | h2
          · exact absurd (by rw [← h2, ← hab]; exact List.mem_map_of_mem h1) hn.1
          · exact ih hn.2 a h1 b h2 hab
    have hye : y = e := huniq _ hkeys y (List.mem_of_getElem? hy) e he (by rw [hyk, hk])
    subst hye
    refine ⟨es.eraseIdxIfInBounds i, ?_, ?_, ?_⟩
    · intro ty; simp [Builtin.delete_, run_underlying hT, MapKept.run_getObj_map hb, run_checkKey_int hK, run_findKey_int hK hl, hf, MapKept.run_setObj_map _ hb, setBlock]
    · have he : (es.eraseIdxIfInBounds i).toList = es.toList.eraseIdx i := by
        rw [Array.eraseIdxIfInBounds]; rw [dif_pos (by omega)]; simp
      refine ⟨?_, nodup_del hl.nodup k, ?_, ?_⟩
      · rw [he]; exact fidx_del (i := 0) (j := i) (x := x) hl.ent (by simpa using hf)
      · rw [he]
        exact ((List.eraseIdx_sublist es.toList i).map _).nodup hl.born
      · intro e h; rw [he] at h; exact hl.clock e ((List.eraseIdx_sublist es.toList i).mem h)
    · intro z
      have he' : (es.eraseIdxIfInBounds i).toList = es.toList.eraseIdx i := by
        rw [Array.eraseIdxIfInBounds]; rw [dif_pos (by omega)]; simp
      rw [he']
      have key : ∀ (L : List MapEntry) (i : Nat), (L.map (·.born)).Nodup → L[i]? = some y → ∀ z, z ∈ L.eraseIdx i ↔ z ∈ L ∧ z.born ≠ y.born := by
        intro L
        induction L with
        | nil => intro i _ h; simp at h
        | cons a L ih =>
          intro i hn h z
          simp only [List.map_cons, List.nodup_cons] at hn
          cases i with
          | zero =>
            simp only [List.getElem?_cons_zero, Option.some.injEq] at h
            subst h
            simp only [List.eraseIdx_zero, List.tail_cons, List.mem_cons]
            constructor
            · intro hz; exact ⟨.inr hz, fun hb => hn.1 (hb ▸ List.mem_map_of_mem hz)⟩
            · rintro ⟨rfl | hz, hb⟩
              · exact absurd rfl hb
              · exact hz
          | succ i =>
            simp only [List.getElem?_cons_succ] at h
            simp only [List.eraseIdx_cons_succ, List.mem_cons, ih i hn.2 h z]
            constructor
            · rintro (rfl | ⟨hz, hb⟩)
              · exact ⟨.inl rfl, fun hb => hn.1 (hb ▸ List.mem_map_of_mem (List.mem_of_getElem? h))⟩
              · exact ⟨.inr hz, hb⟩
            · rintro ⟨rfl | hz, hb⟩
              · exact .inl rfl
              · exact .inr ⟨hz, hb⟩
      exact key es.toList i hl.born hy z
end Go.Sl

/- Which tenants refer to which chunks, and the lists of chunks that follow from it: plain. -/
namespace Go.Vol
open Go Go.RowKit Go.Sl

/-- The references of a part: chunk and tenant. -/
def pairsP (p : PartM) : List (Int × Int) := (items p.m).map fun y => (y.2, p.tenant)
def pairsL (L : List PartM) : List (Int × Int) := L.flatMap pairsP
def pairsS (S : SpaceM) : List (Int × Int) := pairsL S.vols ++ pairsL S.snaps
def refB (S : SpaceM) (t c : Int) : Bool := (S.vols ++ S.snaps).any fun p => p.tenant == t && (items p.m).any fun y => y.2 == c
theorem mem_pairsP {p : PartM} {c t : Int} : (c, t) ∈ pairsP p ↔ p.tenant = t ∧ ∃ y ∈ items p.m, y.2 = c := by
  unfold pairsP
  simp only [List.mem_map, Prod.mk.injEq]
  constructor
  · rintro ⟨y, hy, h1, h2⟩; exact ⟨h2, y, hy, h1⟩
  · rintro ⟨h2, y, hy, h1⟩; exact ⟨y, hy, h1, h2⟩
theorem mem_pairsL {L : List PartM} {c t : Int} : (c, t) ∈ pairsL L ↔ ∃ p ∈ L, p.tenant = t ∧ ∃ y ∈ items p.m, y.2 = c := by
  unfold pairsL
  simp only [List.mem_flatMap, mem_pairsP]
theorem refB_iff {S : SpaceM} {t c : Int} : refB S t c = true ↔ (c, t) ∈ pairsS S := by
  unfold refB pairsS
  rw [List.any_eq_true, List.mem_append, mem_pairsL, mem_pairsL]
  constructor
  · rintro ⟨p, hp, h⟩
    rw [Bool.and_eq_true, List.any_eq_true] at h
    obtain ⟨h1, y, hy, h2⟩ := h
    rw [List.mem_append] at hp
    rcases hp with hp | hp
    · exact .inl ⟨p, hp, eq_of_beq h1, y, hy, eq_of_beq h2⟩
    · exact .inr ⟨p, hp, eq_of_beq h1, y, hy, eq_of_beq h2⟩
  · rintro (⟨p, hp, h1, y, hy, h2⟩ | ⟨p, hp, h1, y, hy, h2⟩)
    · exact ⟨p, List.mem_append.2 (.inl hp), by rw [Bool.and_eq_true, List.any_eq_true]; exact ⟨beq_iff_eq.2 h1, y, hy, beq_iff_eq.2 h2⟩⟩
    · exact ⟨p, List.mem_append.2 (.inr hp), by rw [Bool.and_eq_true, List.any_eq_true]; exact ⟨beq_iff_eq.2 h1, y, hy, beq_iff_eq.2 h2⟩⟩
theorem pairsL_take {L : List PartM} {k : Nat} {x : PartM} (h : L[k]? = some x) : pairsL (L.take (k + 1)) = pairsL (L.take k) ++ pairsP x := by
  unfold pairsL
  rw [List.take_add_one, h, List.flatMap_append]; simp
theorem pairsP_len (p : PartM) : (pairsP p).length ≤ 4096 := by unfold pairsP; rw [List.length_map]; exact Go.Proofs.YtmgcgdkndkibgaaGreat.items_le _
theorem pairsL_len : ∀ L : List PartM, (pairsL L).length ≤ 4096 * L.length
  | [] => by simp [pairsL]
  | p :: L => by
    have h1 := pairsP_len p
    have h2 := pairsL_len L
    show (pairsP p ++ pairsL L).length ≤ _
    rw [List.length_append, List.length_cons]; omega

/-- Strictly increasing. -/
def Up (l : List Int) : Prop := l.Pairwise (· < ·)
theorem up_unique : ∀ {a b : List Int}, Up a → Up b → (∀ x, x ∈ a ↔ x ∈ b) → a = b
  | [], [], _, _, _ => rfl
  | [], b :: bl, _, _, h => absurd ((h b).2 (by simp)) (by simp)
  | a :: al, [], _, _, h => absurd ((h a).1 (by simp)) (by simp)
  | a :: al, b :: bl, ha, hb, h => by
    unfold Up at ha hb
    rw [List.pairwise_cons] at ha hb
    have h1 := (h a).1 (by simp)
    have h2 := (h b).2 (by simp)
    have e : a = b := by
      rcases List.mem_cons.1 h1 with e | h1
      · exact e
      · rcases List.mem_cons.1 h2 with e | h2
        · exact e.symm
        · have := ha.1 b h2; have := hb.1 a h1; omega
    subst e
    rw [up_unique ha.2 hb.2 fun x => ?_]
    constructor
    · intro hx
      rcases List.mem_cons.1 ((h x).1 (by simp [hx])) with e | hx'
      · have := ha.1 x hx; omega
      · exact hx'
    · intro hx
      rcases List.mem_cons.1 ((h x).2 (by simp [hx])) with e | hx'
      · have := hb.1 x hx; omega
      · exact hx'
/-- How many lie ahead of a number. -/
def ahead (n : Int) : List Int → Nat
  | [] => 0
  | a :: l => if a < n then ahead n l + 1 else 0
theorem ahead_le (n : Int) : ∀ l : List Int, ahead n l ≤ l.length
  | [] => Nat.le_refl _
  | a :: l => by unfold ahead; split
                 · have := ahead_le n l; rw [List.length_cons]; omega
                 · omega
theorem ahead_step {n : Int} : ∀ {l : List Int} {k : Nat} {x : Int}, l[k]? = some x → k ≤ ahead n l → (x < n → k + 1 ≤ ahead n l) ∧ (¬ x < n → ahead n l = k)
  | [], k, x, h, _ => by simp at h
  | a :: l, 0, x, h, _ => by
    simp only [List.getElem?_cons_zero, Option.some.injEq] at h
    subst h
    unfold ahead
    constructor
    · intro hx; rw [if_pos hx]; omega
    · intro hx; rw [if_neg hx]
  | a :: l, k + 1, x, h, hk => by
    simp only [List.getElem?_cons_succ] at h
    unfold ahead at hk ⊢
    split at hk
    · rename_i han
      rw [if_pos han]
      have := ahead_step (n := n) h (by omega)
      constructor
      · intro hx; have := this.1 hx; omega
      · intro hx; have := this.2 hx; omega
    · omega
def insI (l : List Int) (n : Int) : List Int := if l[ahead n l]? = some n then l else l.take (ahead n l) ++ n :: l.drop (ahead n l)
theorem ahead_cons (n a : Int) (l : List Int) : ahead n (a :: l) = if a < n then ahead n l + 1 else 0 := rfl
theorem insI_cons_lt {a n : Int} {l : List Int} (h : a < n) : insI (a :: l) n = a :: insI l n := by
  unfold insI
  rw [ahead_cons, if_pos h]
  simp only [List.getElem?_cons_succ, List.take_succ_cons, List.drop_succ_cons]
  split <;> rfl
theorem insI_cons_eq {n : Int} {l : List Int} : insI (n :: l) n = n :: l := by
  unfold insI ahead
  rw [if_neg (Int.lt_irrefl n)]; simp
theorem insI_cons_gt {a n : Int} {l : List Int} (h : n < a) : insI (a :: l) n = n :: a :: l := by
  unfold insI
  rw [ahead_cons, if_neg (show ¬ a < n by omega)]
  simp only [List.getElem?_cons_zero, Option.some.injEq]
  rw [if_neg (by omega)]; rfl
theorem insI_mem {n x : Int} : ∀ {l : List Int}, x ∈ insI l n ↔ x ∈ l ∨ x = n
  | [] => by simp [insI, ahead]
  | a :: l => by
    rcases Int.lt_trichotomy a n with h | rfl | h
    · rw [insI_cons_lt h, List.mem_cons, insI_mem, List.mem_cons]
      constructor
      · rintro (h | h | h)
        · exact .inl (.inl h)
        · exact .inl (.inr h)
        · exact .inr h
      · rintro ((h | h) | h)
        · exact .inl h
        · exact .inr (.inl h)
        · exact .inr (.inr h)
    · rw [insI_cons_eq, List.mem_cons]
      constructor
      · exact .inl
      · rintro (h | h)
        · exact h
        · exact .inl h
    · rw [insI_cons_gt h, List.mem_cons]
      constructor
      · rintro (h | h)
        · exact .inr h
        · exact .inl h
      · rintro (h | h)
        · exact .inr h
        · exact .inl h
theorem insI_up {n : Int} : ∀ {l : List Int}, Up l → Up (insI l n)
  | [], _ => by simp [insI, ahead, Up]
  | a :: l, hl => by
    unfold Up at hl
    rw [List.pairwise_cons] at hl
    rcases Int.lt_trichotomy a n with h | rfl | h
    · rw [insI_cons_lt h]
      unfold Up
      rw [List.pairwise_cons]
      refine ⟨fun x hx => ?_, insI_up hl.2⟩
      rcases insI_mem.1 hx with hx | rfl
      · exact hl.1 x hx
      · exact h
    · rw [insI_cons_eq]; unfold Up; rw [List.pairwise_cons]; exact hl
    · rw [insI_cons_gt h]
      unfold Up
      rw [List.pairwise_cons, List.pairwise_cons]
      refine ⟨fun x hx => ?_, hl⟩
      rcases List.mem_cons.1 hx with rfl | hx
      · exact h
      · have := hl.1 x hx; omega
theorem insI_len (l : List Int) (n : Int) : (insI l n).length ≤ l.length + 1 := by
  unfold insI
  split
  · omega
  · have := ahead_le n l
    rw [List.length_append, List.length_cons, List.length_take, List.length_drop]; omega
def chunksF (P : List (Int × Int)) : List Int := P.foldl (fun l x => insI l x.1) []
theorem chunksF_snoc (P : List (Int × Int)) (x : Int × Int) : chunksF (P ++ [x]) = insI (chunksF P) x.1 := by simp [chunksF]
theorem chunksF_ok (P : List (Int × Int)) : Up (chunksF P) ∧ (∀ c, c ∈ chunksF P ↔ ∃ t, (c, t) ∈ P) ∧ (chunksF P).length ≤ P.length := by
  suffices h : ∀ (P : List (Int × Int)) (l : List Int), Up l → Up (P.foldl (fun l x => insI l x.1) l) ∧ (∀ c, c ∈ P.foldl (fun l x => insI l x.1) l ↔ c ∈ l ∨ ∃ t, (c, t) ∈ P) ∧ (P.foldl (fun l x => insI l x.1) l).length ≤ l.length + P.length by
    obtain ⟨h1, h2, h3⟩ := h P [] List.Pairwise.nil
    refine ⟨h1, fun c => ?_, by simpa [chunksF] using h3⟩
    rw [chunksF, h2]; simp
  intro P
  induction P with
  | nil => intro l hl; exact ⟨hl, fun c => by simp, by simp⟩
  | cons x P ih =>
    intro l hl
    obtain ⟨h1, h2, h3⟩ := ih (insI l x.1) (insI_up hl)
    refine ⟨h1, fun c => ?_, ?_⟩
    · rw [List.foldl_cons, h2, insI_mem]
      constructor
      · rintro ((h | rfl) | ⟨t, ht⟩)
        · exact .inl h
        · exact .inr ⟨x.2, by simp⟩
        · exact .inr ⟨t, by simp [ht]⟩
      · rintro (h | ⟨t, ht⟩)
        · exact .inl (.inl h)
        · rcases List.mem_cons.1 ht with e | ht
          · exact .inl (.inr (by rw [← e]))
          · exact .inr ⟨t, ht⟩
    · have := insI_len l x.1
      rw [List.foldl_cons, List.length_cons]; omega
def chunksM (S : SpaceM) : List Int := chunksF (pairsS S)
def aloneB (S : SpaceM) (t c : Int) : Bool := (List.range 16).all fun u => ((u : Int) == t) || !(refB S (u : Int) c)
def exclB (S : SpaceM) (t c : Int) : Bool := refB S t c && aloneB S t c
def sharB (S : SpaceM) (a b c : Int) : Bool := refB S a c && refB S b c
def exclM (S : SpaceM) (t : Int) : List Int := (chunksM S).filter (exclB S t)
def sharM (S : SpaceM) (a b : Int) : List Int := (chunksM S).filter (sharB S a b)
theorem chunksM_len {S : SpaceM} (h : S.WF) : (chunksM S).length ≤ 2000000 := by
  have h1 := (chunksF_ok (pairsS S)).2.2
  have h2 := pairsL_len S.vols
  have h3 := pairsL_len S.snaps
  have := h.vlen
  have := h.slen
  unfold chunksM
  unfold pairsS at h1 ⊢
  rw [List.length_append] at h1
  omega
theorem exclM_up (S : SpaceM) (t : Int) : Up (exclM S t) := List.Pairwise.filter _ (chunksF_ok _).1
theorem sharM_up (S : SpaceM) (a b : Int) : Up (sharM S a b) := List.Pairwise.filter _ (chunksF_ok _).1
theorem ten_of {S : SpaceM} (h : S.WF) {c t : Int} (ht : (c, t) ∈ pairsS S) : 0 ≤ t ∧ t < 16 := by
  unfold pairsS at ht
  rw [List.mem_append, mem_pairsL, mem_pairsL] at ht
  rcases ht with ⟨p, hp, rfl, _⟩ | ⟨p, hp, rfl, _⟩
  · exact (h.vp p hp).ten
  · exact (h.sp p hp).ten
theorem aloneB_iff {S : SpaceM} (h : S.WF) {t c : Int} : aloneB S t c = true ↔ ∀ u, (c, u) ∈ pairsS S → u = t := by
  unfold aloneB
  rw [List.all_eq_true]
  constructor
  · intro ha u hu
    obtain ⟨h0, h1⟩ := ten_of h hu
    have := ha u.toNat (by rw [List.mem_range]; omega)
    rw [Int.toNat_of_nonneg h0, Bool.or_eq_true, Bool.not_eq_true', beq_iff_eq] at this
    rcases this with e | e
    · exact e
    · rw [← Bool.not_eq_true, refB_iff] at e; exact absurd hu e
  · intro ha u _
    rw [Bool.or_eq_true, Bool.not_eq_true', beq_iff_eq]
    cases hr : refB S (u : Int) c with
    | false => exact .inr rfl
    | true => exact .inl (ha _ (refB_iff.1 hr))
theorem mem_exclM {S : SpaceM} (h : S.WF) {t c : Int} : c ∈ exclM S t ↔ (c, t) ∈ pairsS S ∧ ∀ u, (c, u) ∈ pairsS S → u = t := by
  unfold exclM exclB
  rw [List.mem_filter, Bool.and_eq_true, refB_iff, aloneB_iff h]
  unfold chunksM
  rw [(chunksF_ok _).2.1]
  exact ⟨fun h => h.2, fun h => ⟨⟨t, h.1⟩, h⟩⟩
theorem mem_sharM {S : SpaceM} {a b c : Int} : c ∈ sharM S a b ↔ (c, a) ∈ pairsS S ∧ (c, b) ∈ pairsS S := by
  unfold sharM sharB
  rw [List.mem_filter, Bool.and_eq_true, refB_iff, refB_iff]
  unfold chunksM
  rw [(chunksF_ok _).2.1]
  exact ⟨fun h => h.2, fun h => ⟨⟨a, h.1⟩, h⟩⟩
end Go.Vol

/- usage.owners: for each chunk, the tenants that refer to it. -/
namespace Go.Proofs.YtmgcgdkndkibgaaGreat
open Go.RowKit Go.Vol Go.Sl Go.ChangeMaps

abbrev TMM : TypeId := 136
abbrev TMB : TypeId := 98
theorem zeroMB (w : World) : (zeroValue TMB).run Tryz.prog w = .ok (.map none) w := by kernel_rfl
theorem zeroB (w : World) : (zeroValue 4).run Tryz.prog w = .ok (.bool false) w := by kernel_rfl
theorem eqlMap_none (w : World) : (binOp .eql TMB (.map none) (.map none)).run Tryz.prog w = .ok (.bool true) w := by kernel_rfl
theorem eqlMap_some (r : Nat) (w : World) : (binOp .eql TMB (.map (some r)) (.map none)).run Tryz.prog w = .ok (.bool false) w := by kernel_rfl
/-- The cells that were there are as they were. -/
def Kept (w wr : World) : Prop := ∀ a : Addr, a.block < w.heap.size → wr.cell? a = w.cell? a
def pairsT (t : Int) (l : List (Nat × Int)) : List (Int × Int) := l.map fun y => (y.2, t)
structure NtSt (w : World) (C mb : Nat) (P : List (Int × Int)) (t : Int) (l : List (Nat × Int)) (X : HProp) (i : Value) (wr : World) : Prop where
  st : ∃ (k : Nat) (M : Sets), k ≤ l.length ∧ i = .int .i64 (k : Int) ∧ SetsOk M (P ++ pairsT t (l.take k)) ∧ Hid ((Same w wr ∧ Sat wr (setsAt mb M * (pts C (.cells #[.map (some mb)] TMM (0, 0)) * X))) ∧ Kept w wr)
set_option maxRecDepth 20000 in
set_option maxHeartbeats 4000000 in
theorem note_any (C mb : Nat) (M : Sets) (P : List (Int × Int)) (t : Int) (v : Value) (l : List (Nat × Int)) (X : HProp) (w : World) (hS : Sat w (setsAt mb M * (pts C (.cells #[.map (some mb)] TMM (0, 0)) * X)))
    (hok : SetsOk M P) (hr : RowsAt w v l.length (l.flatMap refE)) (hl : l.length ≤ 4096) :
    Calls Tryz.prog 106 #[.int .i64 t, v, .pointer (some ⟨C, 0, none⟩)] w fun e w' => e = .returned (.tuple #[]) ∧ ∃ M', SetsOk M' (P ++ pairsT t l) ∧ Hid (Same w w' ∧ Sat w' (setsAt mb M' * (pts C (.cells #[.map (some mb)] TMM (0, 0)) * X))) := by
  obtain ⟨ao, cap, rfl, _⟩ := id hr
  have HR := Lib.hid hr
  have HS := Lib.hid (show (Same w w ∧ Sat w (setsAt mb M * (pts C (.cells #[.map (some mb)] TMM (0, 0)) * X))) ∧ Kept w w from ⟨⟨Same.refl w, hS⟩, fun _ _ => rfl⟩)
  have HO := Lib.hid hok
  clear hr hS hok
  have hmm := @run_makeMap Tryz.prog
  have hq0 := eqlMap_none
  have hq1 := eqlMap_some
  go_enter Tryz.func106, Tryz.ntmps106
  go_wp2
  go_loopw [9] (fun i wr => NtSt w C mb P t l X i wr) (fun i _ => l.length - (intOf i).toNat)
  case atStart => exact ⟨⟨0, M, Nat.zero_le _, rfl, by simpa [pairsT] using HO.out, HS.out⟩⟩
  case round =>
    clear HS HO
    obtain ⟨k, M, hk, rfl, hok, HX⟩ := hrel.st
    clear hrel
    by_cases hlt : k < l.length
    · have hltd : decide ((k : Int) < (l.length : Int)) = true := decide_eq_true (by omega)
      have hki : (k : Int) ≤ 4096 := by omega
      obtain ⟨x, hx⟩ : ∃ x, l[k]? = some x := ⟨_, List.getElem?_eq_getElem hlt⟩
      obtain ⟨b, rfl, hbl, e0, e1⟩ := ref_cells HR.out hx
      have e0 := (HX.out.2 ⟨b, k * 2, none⟩ hbl).trans e0
      have e1 := (HX.out.2 ⟨b, k * 2 + 1, none⟩ hbl).trans e1
      have hwk : IntKind.i64.wrap ((k : Int) + 1) = (k : Int) + 1 := IntWalk.i64_in _ (by omega)
      have htk : l.take (k + 1) = l.take k ++ [x] := by rw [List.take_add_one, hx]; rfl
      have HT := Lib.hid (show P ++ pairsT t (l.take (k + 1)) = (P ++ pairsT t (l.take k)) ++ [(x.2, t)] by rw [htk]; simp [pairsT])
      have HK := Lib.hid (And.intro hok htk)
      clear hok htk hx
      have c0 : wr.cell? ⟨C, 0, none⟩ = some (.map (some mb)) := cells_at HX.out.1.2.right.block 0
      go_upto_region 3 with (fail)
      clear c0 e0 e1
      have H1 := Lib.hid (And.intro (HX.out.1.1.alloc (.cells #[.int .i64 (x.1 : Int), .int .i64 x.2] 94)) (HX.out.1.2.alloc (.cells #[.int .i64 (x.1 : Int), .int .i64 x.2] 94)))
      have HQ := Lib.hid (show Kept w ((wr.alloc (.cells #[.int .i64 (x.1 : Int), .int .i64 x.2] 94))) from fun a ha => (World.cell?_of_block (Below.heap_alloc wr _ a.block (by have := HX.out.1.1.size; omega))).trans (HX.out.2 a ha))
      clear HX
      generalize wr.alloc (.cells #[.int .i64 (x.1 : Int), .int .i64 x.2] 94) = W at H1 HQ ⊢
      generalize wr.heap.size = m at H1 ⊢
      obtain ⟨es, ck, hML, hs⟩ := Sat.setsAt_iff.1 (H1.out.2.perm (show _ = setsAt mb M * (pts m (.cells #[.int .i64 (x.1 : Int), .int .i64 x.2] 94 (0, 0)) * (pts C (.cells #[.map (some mb)] TMM (0, 0)) * X)) from by ac_rfl))
      have H1 := Lib.hid (And.intro H1.out.1 hs)
      have HL := Lib.hid hML
      clear hML hs
      have hl0 := run_lookup_at (P := Tryz.prog) (w := W) Tryz.underlying136 Tryz.underlying3 (zeroMB W) H1.out.2.block HL.out x.2
      have c0 : W.cell? ⟨C, 0, none⟩ = some (.map (some mb)) := cells_at H1.out.2.right.right.right.block 0
      have c1 : W.cell? ⟨m, 1, none⟩ = some (.int .i64 x.2) := cells_at H1.out.2.right.right.block 1
      by_cases hc : x.2 ∈ M.map (·.1)
      · obtain ⟨A, T, r, B, rfl⟩ := split_key hc
        rw [lk_out HK.out.1.nodup] at hl0
        simp only [Option.getD_some] at hl0
        clear hc hmm
        go_upto_region 5 with (fail)
        clear hl0 c0 c1
        have H2 := Lib.hid (And.intro H1.out.1 (H1.out.2.perm (show _ = pts m (.cells #[.int .i64 (x.1 : Int), .int .i64 x.2] 94 (0, 0)) * (pts mb (.map es ck) * (setAt r T * (tens A * tens B * (pts C (.cells #[.map (some mb)] TMM (0, 0)) * X)))) from by rw [tens_mid]; ac_rfl)))
        clear H1
        obtain ⟨es5, ck5, hM5, hs5⟩ := Sat.setAt_iff.1 (H2.out.2.perm (show _ = setAt r T * (pts m (.cells #[.int .i64 (x.1 : Int), .int .i64 x.2] 94 (0, 0)) * (pts mb (.map es ck) * (tens A * tens B * (pts C (.cells #[.map (some mb)] TMM (0, 0)) * X)))) from by ac_rfl))
        have hl0 := run_lookup_at (P := Tryz.prog) (w := W) Tryz.underlying136 Tryz.underlying3 (zeroMB W) H2.out.2.right.block HL.out x.2
        rw [lk_out (out_keys _ ▸ HL.out.nodup)] at hl0
        simp only [Option.getD_some] at hl0
        obtain ⟨es6, ck6, hup, hM6⟩ := run_mapUpdate_kv (P := Tryz.prog) (w := W) Tryz.underlying98 Tryz.underlying3 hs5.block hM5 t (.bool true)
        have c0 : W.cell? ⟨C, 0, none⟩ = some (.map (some mb)) := cells_at hs5.right.right.right.right.block 0
        have c1 : W.cell? ⟨m, 1, none⟩ = some (.int .i64 x.2) := cells_at hs5.right.block 1
        have H3 := Lib.hid (And.intro (H2.out.1.setBlock (r := r) (.map es6 ck6)) (hs5.setBlock (o' := .map es6 ck6)))
        have H4 := Lib.hid (show Kept w ((setBlock W r (.map es6 ck6))) from fun a ha => (cell?_setMap hs5.block es6 ck6 a).trans (HQ.out a ha))
        rw [upd_set] at hM6
        have HM6 := Lib.hid hM6
        clear hM6 hM5 hs5
        go_wp2
        go_roundw
        case rel =>
          refine ⟨⟨k + 1, A ++ (x.2, insT T t, r) :: B, hlt, rfl, by rw [HT.out]; exact HK.out.1.old, ⟨H3.out.1, ?_⟩, H4.out⟩⟩
          refine Sat.setsAt_iff.2 ⟨es, ck, (out_same A B x.2 T (insT T t) r) ▸ HL.out, ?_⟩
          rw [tens_mid]
          have h9 := Sat.setAt_iff.2 ⟨es6, ck6, HM6.out, H3.out.2⟩
          exact Sat.right (P := pts m (.cells #[.int .i64 (x.1 : Int), .int .i64 x.2] 94 (0, 0))) (h9.perm (by ac_rfl))
        case measure => simp only [intOf]; omega
      · rw [lk_out_none hc] at hl0
        simp only [Option.getD_none] at hl0
        have HC := Lib.hid hc
        clear hc
        have hup := fun (W2 : World) (h : W2.heap[mb]? = some (.map es ck)) => run_mapUpdate_kv (P := Tryz.prog) (w := W2) Tryz.underlying136 Tryz.underlying3 h HL.out x.2 (.map (some W.heap.size))
        have hsa := H1.out.2.alloc (.map #[] 0)
        obtain ⟨es2, ck2, hup2, hM2⟩ := hup _ hsa.right.block
        clear hup
        have H2 := Lib.hid (And.intro ((H1.out.1.alloc (.map #[] 0)).setBlock (r := mb) (.map es2 ck2)) ((hsa.perm (show _ = pts mb (.map es ck) * (pts W.heap.size (.map #[] 0) * (tens M * (pts m (.cells #[.int .i64 (x.1 : Int), .int .i64 x.2] 94 (0, 0)) * (pts C (.cells #[.map (some mb)] TMM (0, 0)) * X)))) from by ac_rfl)).setBlock (o' := .map es2 ck2)))
        have HQ2 := Lib.hid (show Kept w ((setBlock (W.alloc (.map #[] 0)) mb (.map es2 ck2))) from fun a ha => (cell?_setMap hsa.right.block es2 ck2 a).trans ((World.cell?_of_block (Below.heap_alloc W _ a.block (by have := H1.out.1.size; omega))).trans (HQ.out a ha)))
        have HM2 := Lib.hid hM2
        clear hM2 hsa
        go_upto_region 5 with (fail)
        clear hl0 c0 c1 hup2 HQ H1 hmm
        have HQ := HQ2
        clear HQ2
        generalize setBlock (W.alloc (.map #[] 0)) mb (.map es2 ck2) = W3 at H2 HQ ⊢
        generalize W.heap.size = r at H2 HM2 ⊢
        have HZ := Lib.hid (show ∃ A T B es ck, MapL es ck (outKV (A ++ (x.2, T, r) :: B)) ∧ (∀ T', SetsOk (A ++ (x.2, insT T t, r) :: B) T' ↔ SetsOk (M ++ [(x.2, [t], r)]) T') ∧ Same w W3 ∧ Sat W3 (pts m (.cells #[.int .i64 (x.1 : Int), .int .i64 x.2] 94 (0, 0)) * (pts mb (.map es ck) * (setAt r T * (tens A * tens B * (pts C (.cells #[.map (some mb)] TMM (0, 0)) * X))))) from
          ⟨M, [], [], es2, ck2, by rw [← upd_out_new HC.out r]; exact HM2.out, fun _ => by simp [insT], H2.out.1, by
            have h9 := (Sat.setAt_iff (w := W3) (T := [])).2 ⟨#[], 0, MapL.empty 0, H2.out.2.perm (show _ = pts r (.map #[] 0) * (pts mb (.map es2 ck2) * (tens M * (pts m (.cells #[.int .i64 (x.1 : Int), .int .i64 x.2] 94 (0, 0)) * (pts C (.cells #[.map (some mb)] TMM (0, 0)) * X)))) from by ac_rfl)⟩
            exact h9.perm (show _ = _ from by rw [show tens ([] : Sets) = emp from rfl, star_emp]; ac_rfl)⟩)
        have HN := Lib.hid (HK.out.1.new (t := t) (r := r) HC.out)
        clear H2 HM2 HC
        obtain ⟨A, T, B, es, ck, hL, hOK, h1, h2⟩ := HZ.out
        have H2 := Lib.hid (And.intro h1 h2)
        have HL := Lib.hid hL
        have HN2 := Lib.hid ((hOK _).2 HN.out)
        clear HZ HN hL hOK h1 h2
        obtain ⟨es5, ck5, hM5, hs5⟩ := Sat.setAt_iff.1 (H2.out.2.perm (show _ = setAt r T * (pts m (.cells #[.int .i64 (x.1 : Int), .int .i64 x.2] 94 (0, 0)) * (pts mb (.map es ck) * (tens A * tens B * (pts C (.cells #[.map (some mb)] TMM (0, 0)) * X)))) from by ac_rfl))
        have hl0 := run_lookup_at (P := Tryz.prog) (w := W3) Tryz.underlying136 Tryz.underlying3 (zeroMB W3) H2.out.2.right.block HL.out x.2
        rw [lk_out (out_keys _ ▸ HL.out.nodup)] at hl0
        simp only [Option.getD_some] at hl0
        obtain ⟨es6, ck6, hup, hM6⟩ := run_mapUpdate_kv (P := Tryz.prog) (w := W3) Tryz.underlying98 Tryz.underlying3 hs5.block hM5 t (.bool true)
        have c0 : W3.cell? ⟨C, 0, none⟩ = some (.map (some mb)) := cells_at hs5.right.right.right.right.block 0
        have c1 : W3.cell? ⟨m, 1, none⟩ = some (.int .i64 x.2) := cells_at hs5.right.block 1
        have H3 := Lib.hid (And.intro (H2.out.1.setBlock (r := r) (.map es6 ck6)) (hs5.setBlock (o' := .map es6 ck6)))
        have H4 := Lib.hid (show Kept w ((setBlock W3 r (.map es6 ck6))) from fun a ha => (cell?_setMap hs5.block es6 ck6 a).trans (HQ.out a ha))
        rw [upd_set] at hM6
        have HM6 := Lib.hid hM6
        clear hM6 hM5 hs5
        go_wp2
        go_roundw
        case rel =>
          refine ⟨⟨k + 1, A ++ (x.2, insT T t, r) :: B, hlt, rfl, by rw [HT.out]; exact HN2.out, ⟨H3.out.1, ?_⟩, H4.out⟩⟩
          refine Sat.setsAt_iff.2 ⟨es, ck, (out_same A B x.2 T (insT T t) r) ▸ HL.out, ?_⟩
          rw [tens_mid]
          have h9 := Sat.setAt_iff.2 ⟨es6, ck6, HM6.out, H3.out.2⟩
          exact Sat.right (P := pts m (.cells #[.int .i64 (x.1 : Int), .int .i64 x.2] 94 (0, 0))) (h9.perm (by ac_rfl))
        case measure => simp only [intOf]; omega
    · obtain rfl : k = l.length := by omega
      have hltd : decide ((l.length : Int) < (l.length : Int)) = false := decide_eq_false (by omega)
      have hnlt : ¬ (l.length : Int) < (l.length : Int) := by omega
      rw [List.take_length] at hok
      have HK := Lib.hid hok
      clear hok
      go_wp2
      go_end0
      exact ⟨rfl, M, HK.out, HX.out.1⟩
theorem find_at28 {l : List PartM} {a : Int} (h : Incr l a) {k : Nat} {x : PartM} (hx : l[k]? = some x) : l.find? (fun p => p.id == x.id) = some x := by
  induction l generalizing a k with
  | nil => simp at hx
  | cons p r ih =>
    cases k with
    | zero => simp only [List.getElem?_cons_zero, Option.some.injEq] at hx
              subst hx; simp
    | succ k =>
      have hx' : r[k]? = some x := by simpa using hx
      have hle := h.2.le x (List.mem_of_getElem? hx')
      rw [List.find?_cons, show (p.id == x.id) = false from by simp; omega]
      exact ih h.2 hx'
theorem contM_at28 {S : SpaceM} (h : S.WF) {k : Nat} {x : PartM} (hx : S.vols[k]? = some x) : contM S x.id = (items x.m, 0) := by
  have e : volF S x.id = some x := by
    unfold volF
    exact find_at28 h.vols hx
  unfold contM; rw [e]
theorem imageM_at28 {S : SpaceM} (h : S.WF) {k : Nat} {x : PartM} (hx : S.snaps[k]? = some x) : imageM S x.id = (items x.m, 0) := by
  have e : snapF S x.id = some x := by
    unfold snapF
    exact find_at28 h.snaps hx
  unfold imageM; rw [e]

structure OwSt (w : World) (T : TypeId) (n : Nat) (C mb : Nat) (P : List (Int × Int)) (V : Value) (L : List PartM) (enc : PartM → List Value) (i : Value) (wr : World) : Prop where
  st : ∃ (k : Nat) (M : Sets), k ≤ L.length ∧ i = .int .i64 (k : Int) ∧ SetsOk M (P ++ pairsL (L.take k)) ∧ Hid (Same w wr ∧ Sat wr (setsAt mb M * (pts C (.cells #[.map (some mb)] TMM (0, 0)) * (ownAt T n V L.length (L.flatMap enc) * old w))))
set_option maxRecDepth 20000 in
set_option maxHeartbeats 4000000 in
theorem owners_any (p : Nat) (S : SpaceM) (w : World) (hS : SpaceAt TNode TSp w p S) (hwf : S.WF) :
    Calls Tryz.prog 72 #[.pointer (some ⟨p, 0, none⟩)] w fun e w' => ∃ mb M, e = .returned (.map (some mb)) ∧ SetsOk M (pairsS S) ∧ Hid (Same w w' ∧ Sat w' (setsAt mb M * old w)) := by
  have HV := Lib.hid (fun (W : World) (hb : Below w.heap.size w W) => volsO_any p S W (hS.below hb) hwf)
  have HN := Lib.hid (fun (W : World) (hb : Below w.heap.size w W) => snapsO_any p S W (hS.below hb) hwf)
  have HCO := Lib.hid (fun (W : World) (hb : Below w.heap.size w W) (v : Int) => contS_any p S v W (hS.below hb))
  have HIM := Lib.hid (fun (W : World) (hb : Below w.heap.size w W) (v : Int) => imgS_any p S v W (hS.below hb))
  have hvl := hwf.vlen
  have hsl := hwf.slen
  have HW := Lib.hid hwf
  clear hS hwf
  have hmm := @run_makeMap Tryz.prog
  go_enter Tryz.func72, Tryz.ntmps72
  go_upto_region 3 with (fail)
  have H0 := Lib.hid (And.intro (((Same.refl w).alloc (.map #[] 0)).alloc (.cells #[.map (some w.heap.size)] TMM)) ((Sat.setsAt_iff (M := [])).2 ⟨#[], 0, MapL.empty 0, (((Sat.old w).alloc (.map #[] 0)).alloc (.cells #[.map (some w.heap.size)] TMM)).perm (show _ = pts w.heap.size (.map #[] 0) * (tens [] * (pts (w.heap.size + 1) (.cells #[.map (some w.heap.size)] TMM (0, 0)) * old w)) from by rw [World.size_alloc, show tens ([] : Sets) = emp from rfl, emp_star]; ac_rfl)⟩))
  clear hmm
  generalize (w.alloc (.map #[] 0)).alloc (.cells #[.map (some w.heap.size)] TMM) = w1 at H0 ⊢
  generalize w.heap.size + 1 = C at H0 ⊢
  generalize hmbe : w.heap.size = mb at H0 ⊢
  have HE := Lib.hid hmbe
  clear hmbe
  go_wp2_with (go_at_call 29; refine (HV.out _ (H0.out.1.below_of (P := setsAt mb [] * pts C (.cells #[.map (some mb)] TMM (0, 0))) (H0.out.2.perm (by ac_rfl)))).mono ?_; rintro e w2 ⟨v, rfl, h2⟩; have H1 := Lib.hid (And.intro (H0.out.1.trans h2.out.1) ((sat_old h2.out.2 H0.out.2).perm (show _ = setsAt mb [] * (pts C (.cells #[.map (some mb)] TMM (0, 0)) * (ownAt TVi 3 v S.vols.length (S.vols.flatMap viE) * old w)) from by ac_rfl))); obtain ⟨ao, cap, rfl⟩ := ownAt_slice h2.out.2; clear h2)
  go_loopw [18] (fun i wr => OwSt w TVi 3 C mb ([]) (.slice ao S.vols.length cap) S.vols viE i wr) (fun i _ => S.vols.length - (intOf i).toNat)
  case atStart => exact ⟨⟨0, [], Nat.zero_le _, rfl, by simpa [pairsL] using SetsOk.nil, H1.out⟩⟩
  case round =>
    clear H1
    obtain ⟨k, M, hk, rfl, hok, HX⟩ := hrel.st
    clear hrel
    by_cases hlt : k < S.vols.length
    · have hltd : decide ((k : Int) < (S.vols.length : Int)) = true := decide_eq_true (by omega)
      have hki : (k : Int) ≤ 256 := by omega
      obtain ⟨x, hx⟩ : ∃ x, S.vols[k]? = some x := ⟨_, List.getElem?_eq_getElem hlt⟩
      obtain ⟨b, rfl, hg, e0, e1, e2⟩ := vi_cells (RowsAt.own (HX.out.2.perm (show _ = ownAt TVi 3 (.slice ao S.vols.length cap) S.vols.length (S.vols.flatMap viE) * (setsAt mb M * (pts C (.cells #[.map (some mb)] TMM (0, 0)) * old w)) from by ac_rfl)) (by omega)) hx
      have HT := Lib.hid (show ([]) ++ pairsL (S.vols.take (k + 1)) = (([]) ++ pairsL (S.vols.take k)) ++ pairsT x.tenant (items x.m) by rw [pairsL_take hx, ← List.append_assoc]; rfl)
      have hcm : contM S x.id = (items x.m, 0) := contM_at28 HW.out hx
      have HC := Lib.hid (fun (W : World) (hb : Below w.heap.size w W) => HCO.out W hb x.id)
      rw [hcm] at HC
      have HK := Lib.hid hok
      have hil := items_le x.m
      have hwk : IntKind.i64.wrap ((k : Int) + 1) = (k : Int) + 1 := IntWalk.i64_in _ (by omega)
      clear hx hok hcm
      go_upto_region 6 with (fail)
      clear e0 e1 e2 
      have H2 := Lib.hid (And.intro (HX.out.1.alloc (.cells #[.int .i64 x.id, .int .i64 x.tenant, .int .i64 (cnt x.m : Int)] 60)) ((HX.out.2.alloc (.cells #[.int .i64 x.id, .int .i64 x.tenant, .int .i64 (cnt x.m : Int)] 60)).perm (show _ = setsAt mb M * (pts C (.cells #[.map (some mb)] TMM (0, 0)) * (pts wr.heap.size (.cells #[.int .i64 x.id, .int .i64 x.tenant, .int .i64 (cnt x.m : Int)] 60 (0, 0)) * (ownAt TVi 3 (.slice (some ⟨b, 0, none⟩) S.vols.length cap) S.vols.length (S.vols.flatMap viE) * old w))) from by ac_rfl)))
      clear HX
      generalize wr.alloc (.cells #[.int .i64 x.id, .int .i64 x.tenant, .int .i64 (cnt x.m : Int)] 60) = W at H2 ⊢
      generalize wr.heap.size = m at H2 ⊢
      have c0 : W.cell? ⟨m, 0, none⟩ = some (.int .i64 x.id) := cells_at H2.out.2.right.right.block 0
      go_upto_region 7 with (go_at_call 40; refine (HC.out W (H2.out.1.below_of (P := emp) (by rw [emp_star]; exact H2.out.2.right.right.right.right))).mono ?_; rintro e w5 ⟨r, rfl, h5⟩)
      have H5 := Lib.hid (And.intro (H2.out.1.below h5.out.1) (H2.out.2.below h5.out.1))
      have HR := Lib.hid h5.out.2
      clear h5 H2 c0
      have c1 : w5.cell? ⟨m, 1, none⟩ = some (.int .i64 x.tenant) := cells_at H5.out.2.right.right.block 1
      go_wp2_with (go_at_call 106; refine (note_any C mb M _ x.tenant r (items x.m) (pts m (.cells #[.int .i64 x.id, .int .i64 x.tenant, .int .i64 (cnt x.m : Int)] 60 (0, 0)) * (ownAt TVi 3 (.slice (some ⟨b, 0, none⟩) S.vols.length cap) S.vols.length (S.vols.flatMap viE) * old w)) w5 H5.out.2 HK.out HR.out hil).mono ?_; rintro e w6 ⟨rfl, M', hM', h6⟩; have H6 := Lib.hid (And.intro (H5.out.1.trans h6.out.1) h6.out.2); have HM' := Lib.hid hM'; clear h6 hM')
      go_roundw
      case rel => exact ⟨⟨k + 1, M', hlt, rfl, by rw [HT.out]; exact HM'.out, H6.out.1, Sat.right (P := pts m (.cells #[.int .i64 x.id, .int .i64 x.tenant, .int .i64 (cnt x.m : Int)] 60 (0, 0))) (H6.out.2.perm (by ac_rfl))⟩⟩
      case measure => simp only [intOf]; omega
    · obtain rfl : k = S.vols.length := by omega
      have hltd0 : decide ((S.vols.length : Int) < (S.vols.length : Int)) = false := decide_eq_false (by omega)
      have hnlt0 : ¬ (S.vols.length : Int) < (S.vols.length : Int) := by omega
      rw [List.take_length] at hok
      have HK0 := Lib.hid hok
      clear hok
      have H0 := Lib.hid (And.intro HX.out.1 (Sat.right (P := ownAt TVi 3 (.slice ao S.vols.length cap) S.vols.length (S.vols.flatMap viE)) (HX.out.2.perm (show _ = ownAt TVi 3 (.slice ao S.vols.length cap) S.vols.length (S.vols.flatMap viE) * (setsAt mb M * (pts C (.cells #[.map (some mb)] TMM (0, 0)) * old w)) from by ac_rfl))))
      clear HX
      obtain ⟨M0, hM0⟩ : ∃ M0, M0 = M := ⟨_, rfl⟩
      rw [← hM0] at H0 HK0
      clear hM0 M
      go_wp2_with (go_at_call 30; refine (HN.out _ (H0.out.1.below_of (P := setsAt mb M0 * pts C (.cells #[.map (some mb)] TMM (0, 0))) (H0.out.2.perm (by ac_rfl)))).mono ?_; rintro e w2' ⟨v2, rfl, h2⟩; have H1 := Lib.hid (And.intro (H0.out.1.trans h2.out.1) ((sat_old h2.out.2 H0.out.2).perm (show _ = setsAt mb M0 * (pts C (.cells #[.map (some mb)] TMM (0, 0)) * (ownAt TSi 4 v2 S.snaps.length (S.snaps.flatMap siE) * old w)) from by ac_rfl))); obtain ⟨ao2, cap2, rfl⟩ := ownAt_slice h2.out.2; clear h2)
      go_loopw [38] (fun i wr => OwSt w TSi 4 C mb (pairsL S.vols) (.slice ao2 S.snaps.length cap2) S.snaps siE i wr) (fun i _ => S.snaps.length - (intOf i).toNat)
      case atStart => exact ⟨⟨0, M0, Nat.zero_le _, rfl, by simpa [pairsL] using HK0.out, H1.out⟩⟩
      case round =>
        clear H1
        obtain ⟨k, M, hk, rfl, hok, HX⟩ := hrel.st
        clear hrel
        by_cases hlt : k < S.snaps.length
        · have hltd : decide ((k : Int) < (S.snaps.length : Int)) = true := decide_eq_true (by omega)
          have hki : (k : Int) ≤ 256 := by omega
          obtain ⟨x, hx⟩ : ∃ x, S.snaps[k]? = some x := ⟨_, List.getElem?_eq_getElem hlt⟩
          obtain ⟨b, rfl, hg, e0, e3, e1, e2⟩ := si_cells (RowsAt.own (HX.out.2.perm (show _ = ownAt TSi 4 (.slice ao2 S.snaps.length cap2) S.snaps.length (S.snaps.flatMap siE) * (setsAt mb M * (pts C (.cells #[.map (some mb)] TMM (0, 0)) * old w)) from by ac_rfl)) (by omega)) hx
          have HT := Lib.hid (show (pairsL S.vols) ++ pairsL (S.snaps.take (k + 1)) = ((pairsL S.vols) ++ pairsL (S.snaps.take k)) ++ pairsT x.tenant (items x.m) by rw [pairsL_take hx, ← List.append_assoc]; rfl)
          have hcm : imageM S x.id = (items x.m, 0) := imageM_at28 HW.out hx
          have HC := Lib.hid (fun (W : World) (hb : Below w.heap.size w W) => HIM.out W hb x.id)
          rw [hcm] at HC
          have HK := Lib.hid hok
          have hil := items_le x.m
          have hwk : IntKind.i64.wrap ((k : Int) + 1) = (k : Int) + 1 := IntWalk.i64_in _ (by omega)
          clear hx hok hcm
          go_upto_region 12 with (fail)
          clear e0 e1 e2 e3
          have H2 := Lib.hid (And.intro (HX.out.1.alloc (.cells #[.int .i64 x.id, .int .i64 x.src, .int .i64 x.tenant, .int .i64 (cnt x.m : Int)] 64)) ((HX.out.2.alloc (.cells #[.int .i64 x.id, .int .i64 x.src, .int .i64 x.tenant, .int .i64 (cnt x.m : Int)] 64)).perm (show _ = setsAt mb M * (pts C (.cells #[.map (some mb)] TMM (0, 0)) * (pts wr.heap.size (.cells #[.int .i64 x.id, .int .i64 x.src, .int .i64 x.tenant, .int .i64 (cnt x.m : Int)] 64 (0, 0)) * (ownAt TSi 4 (.slice (some ⟨b, 0, none⟩) S.snaps.length cap2) S.snaps.length (S.snaps.flatMap siE) * old w))) from by ac_rfl)))
          clear HX
          generalize wr.alloc (.cells #[.int .i64 x.id, .int .i64 x.src, .int .i64 x.tenant, .int .i64 (cnt x.m : Int)] 64) = W at H2 ⊢
          generalize wr.heap.size = m at H2 ⊢
          have c0 : W.cell? ⟨m, 0, none⟩ = some (.int .i64 x.id) := cells_at H2.out.2.right.right.block 0
          go_upto_region 13 with (go_at_call 42; refine (HC.out W (H2.out.1.below_of (P := emp) (by rw [emp_star]; exact H2.out.2.right.right.right.right))).mono ?_; rintro e w5 ⟨r, rfl, h5⟩)
          have H5 := Lib.hid (And.intro (H2.out.1.below h5.out.1) (H2.out.2.below h5.out.1))
          have HR := Lib.hid h5.out.2
          clear h5 H2 c0
          have c1 : w5.cell? ⟨m, 2, none⟩ = some (.int .i64 x.tenant) := cells_at H5.out.2.right.right.block 2
          go_wp2_with (go_at_call 106; refine (note_any C mb M _ x.tenant r (items x.m) (pts m (.cells #[.int .i64 x.id, .int .i64 x.src, .int .i64 x.tenant, .int .i64 (cnt x.m : Int)] 64 (0, 0)) * (ownAt TSi 4 (.slice (some ⟨b, 0, none⟩) S.snaps.length cap2) S.snaps.length (S.snaps.flatMap siE) * old w)) w5 H5.out.2 HK.out HR.out hil).mono ?_; rintro e w6 ⟨rfl, M', hM', h6⟩; have H6 := Lib.hid (And.intro (H5.out.1.trans h6.out.1) h6.out.2); have HM' := Lib.hid hM'; clear h6 hM')
          go_roundw
          case rel => exact ⟨⟨k + 1, M', hlt, rfl, by rw [HT.out]; exact HM'.out, H6.out.1, Sat.right (P := pts m (.cells #[.int .i64 x.id, .int .i64 x.src, .int .i64 x.tenant, .int .i64 (cnt x.m : Int)] 64 (0, 0))) (H6.out.2.perm (by ac_rfl))⟩⟩
          case measure => simp only [intOf]; omega
        · obtain rfl : k = S.snaps.length := by omega
          have hltd1 : decide ((S.snaps.length : Int) < (S.snaps.length : Int)) = false := decide_eq_false (by omega)
          have hnlt1 : ¬ (S.snaps.length : Int) < (S.snaps.length : Int) := by omega
          rw [List.take_length] at hok
          have HK1 := Lib.hid hok
          clear hok
          have c0 : wr.cell? ⟨C, 0, none⟩ = some (.map (some mb)) := cells_at HX.out.2.right.block 0
          have HF := Lib.hid (And.intro HX.out.1 (Sat.right (P := ownAt TSi 4 (.slice ao2 S.snaps.length cap2) S.snaps.length (S.snaps.flatMap siE) * pts C (.cells #[.map (some mb)] TMM (0, 0))) (HX.out.2.perm (show _ = (ownAt TSi 4 (.slice ao2 S.snaps.length cap2) S.snaps.length (S.snaps.flatMap siE) * pts C (.cells #[.map (some mb)] TMM (0, 0))) * (setsAt mb M * old w) from by ac_rfl))))
          clear HX
          go_wp2
          go_ret
          exact ⟨mb, rfl, M, HK1.out, HF.out⟩
end Go.Proofs.YtmgcgdkndkibgaaGreat

/- maps.DeleteFunc on a map of sets, with a condition on the set. -/
namespace Go.Proofs.YtmgcgdkndkibgaaGreat
open Go.RowKit Go.Vol Go.Sl Go.ChangeMaps

abbrev TIs : TypeId := 99
/-- A condition on sets, as a function value: what it says, and that it changes nothing. -/
def IsOk (fis : FuncId) (cap : Array Value) (keep : List Int → Bool) (X : HProp) : Prop := ∀ (W : World) (r : Nat) (T : List Int) (G : HProp), T.Nodup → Sat W (setAt r T * (X * G)) →
  Calls Tryz.prog fis (#[.map (some r)] ++ cap) W fun e w' => e = .returned (.bool (keep T)) ∧ Below W.heap.size W w'
def isV (fis : FuncId) (cap : Array Value) : Value := .func (.func fis) #[] cap
set_option maxHeartbeats 1000000 in
theorem notIs_any (fis : FuncId) (cap : Array Value) (keep : List Int → Bool) (X G : HProp) (C r : Nat) (T : List Int) (k : Int) (w : World) (his : IsOk fis cap keep X) (hcf : ∀ args w, (callFunc fis args).run Tryz.prog w = .ok (.enter fis args) w) (hT : T.Nodup)
    (hS : Sat w (setAt r T * (pts C (.cells #[isV fis cap] TIs (0, 0)) * (X * G)))) :
    Calls Tryz.prog 74 #[.int .i64 k, .map (some r), .pointer (some ⟨C, 0, none⟩)] w fun e w' => e = .returned (.bool (!keep T)) ∧ Below w.heap.size w w' := by
  have c0 : w.cell? ⟨C, 0, none⟩ = some (.func (.func fis) #[] cap) := cells_at hS.right.block 0
  have HI := Lib.hid (his w r T (pts C (.cells #[isV fis cap] TIs (0, 0)) * G) hT (hS.perm (by ac_rfl)))
  clear hS his hT
  generalize keep T = kt at *
  go_enter Tryz.func74, Tryz.ntmps74
  go_wp2_with (refine HI.out.mono ?_; rintro e w1 ⟨rfl, hb⟩)
  go_ret
  exact ⟨rfl, hb⟩
def unseen (mb r : Nat) (w : World) : Nat := match w.heap[mb]?, w.heap[r]? with
  | some (.map es _), some (.mapIter _ _ seen _) => (es.toList.filter fun e => !seen.toList.contains e.born).length
  | _, _ => 0
structure DelSt (w : World) (mb it ck : Nat) (M : Sets) (keep : List Int → Bool) (R : HProp) (wr : World) : Prop where
  st : ∃ (es : Array MapEntry) (L : KV) (seen : Array Nat), MapL es ck L ∧ (∀ q ∈ L, q ∈ outKV M) ∧ (∀ x ∈ M, keep x.2.1 = true → (x.1, Value.map (some x.2.2)) ∈ L) ∧ L.length ≤ M.length ∧
    (∀ e ∈ es.toList, e.born ∈ seen.toList → ∃ x ∈ M, e.key = .int .i64 x.1 ∧ keep x.2.1 = true) ∧
    Hid (Same w wr ∧ Sat wr (pts it (.mapIter (some mb) ck seen ck) * (pts mb (.map es ck) * (tens M * R))))
theorem entry_in {es : Array MapEntry} {ck : Nat} {L : KV} {M : Sets} (h : MapL es ck L) (hs : ∀ q ∈ L, q ∈ outKV M) {e : MapEntry} (he : e ∈ es.toList) : ∃ x ∈ M, e.key = .int .i64 x.1 ∧ e.val = .map (some x.2.2) := by
  have h1 : (e.key, e.val) ∈ es.toList.map (fun e => (e.key, e.val)) := List.mem_map_of_mem he
  rw [h.ent] at h1
  obtain ⟨q, hq, hqe⟩ := List.mem_map.1 h1
  have h2 := hs q hq
  unfold outKV at h2
  obtain ⟨x, hx, rfl⟩ := List.mem_map.1 h2
  simp only [Prod.mk.injEq] at hqe
  exact ⟨x, hx, hqe.1.symm, hqe.2.symm⟩
theorem entry_of {es : Array MapEntry} {ck : Nat} {L : KV} (h : MapL es ck L) {k : Int} {v : Value} (hq : (k, v) ∈ L) : ∃ e ∈ es.toList, e.key = .int .i64 k ∧ e.val = v := by
  have h1 : (Value.int .i64 k, v) ∈ L.map fun p => (Value.int .i64 p.1, p.2) := List.mem_map.2 ⟨(k, v), hq, rfl⟩
  rw [← h.ent] at h1
  obtain ⟨e, he, hee⟩ := List.mem_map.1 h1
  simp only [Prod.mk.injEq] at hee
  exact ⟨e, he, hee.1, hee.2⟩
theorem born_same {es : Array MapEntry} {ck : Nat} {L : KV} (h : MapL es ck L) {a b : MapEntry} (ha : a ∈ es.toList) (hb : b ∈ es.toList) (hab : a.born = b.born) : a = b := by
  have key : ∀ (L : List MapEntry), (L.map (·.born)).Nodup → a ∈ L → b ∈ L → a = b := by
    intro L
    induction L with
    | nil => intro _ ha; simp at ha
    | cons z L ih =>
      intro hn ha hb
      simp only [List.map_cons, List.nodup_cons] at hn
      rcases List.mem_cons.1 ha with h1 | h1
      · rcases List.mem_cons.1 hb with h2 | h2
        · rw [h1, h2]
        · exact absurd (by rw [← h1, hab]; exact List.mem_map_of_mem h2) hn.1
      · rcases List.mem_cons.1 hb with h2 | h2
        · exact absurd (by rw [← h2, ← hab]; exact List.mem_map_of_mem h1) hn.1
        · exact ih hn.2 h1 h2
  exact key _ h.born ha hb
theorem filter_lt {α : Type} {l : List α} {p q : α → Bool} (h : ∀ x ∈ l, q x = true → p x = true) {y : α} (hy : y ∈ l) (h1 : p y = true) (h2 : q y = false) : (l.filter q).length < (l.filter p).length := by
  induction l with
  | nil => simp at hy
  | cons a l ih =>
    have hle : ∀ (l : List α), (∀ x ∈ l, q x = true → p x = true) → (l.filter q).length ≤ (l.filter p).length := by
      intro l
      induction l with
      | nil => simp
      | cons b l ih2 =>
        intro h
        have h3 := ih2 fun x hx => h x (by simp [hx])
        have h4 := h b (by simp)
        rw [List.filter_cons, List.filter_cons]
        split
        · rename_i hqb; rw [if_pos (h4 hqb)]; simp only [List.length_cons]; omega
        · split
          · simp only [List.length_cons]; omega
          · exact h3
    have ht := hle l fun x hx => h x (by simp [hx])
    rcases List.mem_cons.1 hy with rfl | hy
    · rw [List.filter_cons, List.filter_cons, h1, h2]
      simp only [if_true, List.length_cons, Bool.false_eq_true, if_false]; omega
    · have h3 := ih (fun x hx => h x (by simp [hx])) hy
      have h4 := h a (by simp)
      rw [List.filter_cons, List.filter_cons]
      split
      · rename_i hqb; rw [if_pos (h4 hqb)]; simp only [List.length_cons]; omega
      · split
        · simp only [List.length_cons]; omega
        · exact h3
theorem filter_sub {l l' : List MapEntry} (hn : (l'.map (·.born)).Nodup) (hs : ∀ x, x ∈ l' → x ∈ l) {p q : MapEntry → Bool} (h : ∀ x ∈ l', q x = true → p x = true) {y : MapEntry} (hy : y ∈ l) (h1 : p y = true) (h2 : y ∉ l' ∨ q y = false) : (l'.filter q).length < (l.filter p).length := by
  have hn2 : (l'.filter q).Nodup := List.Nodup.sublist (List.filter_sublist) (List.Pairwise.of_map _ (fun a b h e => h (by rw [e])) hn)
  have hsub : (y :: l'.filter q) ⊆ l.filter p := by
    intro x hx
    rcases List.mem_cons.1 hx with rfl | hx
    · exact List.mem_filter.2 ⟨hy, h1⟩
    · obtain ⟨a, b⟩ := List.mem_filter.1 hx
      exact List.mem_filter.2 ⟨hs x a, h x a b⟩
  have hy2 : y ∉ l'.filter q := by
    intro hx
    obtain ⟨a, b⟩ := List.mem_filter.1 hx
    rcases h2 with h2 | h2
    · exact h2 a
    · rw [h2] at b; cases b
  have h9 := (List.nodup_cons.2 ⟨hy2, hn2⟩).length_le_of_subset hsub
  rw [List.length_cons] at h9
  omega
theorem del_sub {L : KV} {k : Int} {q : Int × Value} (h : q ∈ del L k) : q ∈ L := by
  induction L with
  | nil => exact h
  | cons p L ih =>
    obtain ⟨a, v⟩ := p
    unfold del at h
    split at h
    · exact List.mem_cons_of_mem _ h
    · rcases List.mem_cons.1 h with rfl | h
      · simp
      · exact List.mem_cons_of_mem _ (ih h)
theorem del_keep {L : KV} {k : Int} {q : Int × Value} (h : q ∈ L) (hk : q.1 ≠ k) : q ∈ del L k := by
  induction L with
  | nil => exact h
  | cons p L ih =>
    obtain ⟨a, v⟩ := p
    unfold del
    split
    · rename_i hka
      rcases List.mem_cons.1 h with rfl | h
      · exact absurd hka.symm hk
      · exact h
    · rcases List.mem_cons.1 h with rfl | h
      · simp
      · exact List.mem_cons_of_mem _ (ih h)
theorem del_len (L : KV) (k : Int) : (del L k).length ≤ L.length := by
  induction L with
  | nil => exact Nat.le_refl _
  | cons p L ih =>
    obtain ⟨a, v⟩ := p
    unfold del
    split
    · simp only [List.length_cons]; omega
    · simp only [List.length_cons]; omega
theorem key_inj {M : Sets} (h : (M.map (·.1)).Nodup) {x y : Int × List Int × Nat} (hx : x ∈ M) (hy : y ∈ M) (hxy : x.1 = y.1) : x = y := by
  induction M with
  | nil => simp at hx
  | cons a M ih =>
    simp only [List.map_cons, List.nodup_cons] at h
    rcases List.mem_cons.1 hx with h1 | h1
    · rcases List.mem_cons.1 hy with h2 | h2
      · rw [h1, h2]
      · exact absurd (by rw [← h1, hxy]; exact List.mem_map_of_mem h2) h.1
    · rcases List.mem_cons.1 hy with h2 | h2
      · exact absurd (by rw [← h2, ← hxy]; exact List.mem_map_of_mem h1) h.1
      · exact ih h.2 h1 h2
set_option maxRecDepth 20000 in
set_option maxHeartbeats 2000000 in
theorem delF_any (mb C : Nat) (M : Sets) (P : List (Int × Int)) (keep : List Int → Bool) (fis : FuncId) (cap : Array Value) (X G : HProp) (w : World)
    (hS : Sat w (setsAt mb M * (pts C (.cells #[isV fis cap] TIs (0, 0)) * (X * G)))) (hok : SetsOk M P) (his : IsOk fis cap keep X) (hcf : ∀ args w, (callFunc fis args).run Tryz.prog w = .ok (.enter fis args) w) :
    Calls Tryz.prog 73 #[.map (some mb), .func (.func 74) #[] #[.pointer (some ⟨C, 0, none⟩)]] w fun e w' => e = .returned (.tuple #[]) ∧
      ∃ es ck L, MapL es ck L ∧ (∀ c, c ∈ L.map (·.1) ↔ ∃ x ∈ M, x.1 = c ∧ keep x.2.1 = true) ∧ L.length ≤ M.length ∧ Hid (Same w w' ∧ Sat w' (pts mb (.map es ck) * (tens M * (pts C (.cells #[isV fis cap] TIs (0, 0)) * (X * G))))) := by
  obtain ⟨es, ck, hM, hs⟩ := Sat.setsAt_iff.1 hS
  have hrg := run_range_kv (P := Tryz.prog) Tryz.underlying136 hs.block
  have HST := Lib.hid (show DelSt w mb w.heap.size ck M keep (pts C (.cells #[isV fis cap] TIs (0, 0)) * (X * G)) (w.alloc (.mapIter (some mb) ck #[] ck)) from
    ⟨es, outKV M, #[], hM, fun q hq => hq, fun x hx _ => List.mem_map.2 ⟨x, hx, rfl⟩, by unfold outKV; rw [List.length_map]; exact Nat.le_refl _, by simp, (Same.refl w).alloc _, hs.alloc _⟩)
  have HO := Lib.hid (And.intro hok (And.intro his hcf))
  clear hS hM hs hok his hcf
  go_enter Tryz.func73, Tryz.ntmps73
  go_wp2_with ((with_reducible (apply wpList_range_run (h := hrg))); rfl; rfl; rfl)
  generalize w.heap.size = it at HST ⊢
  clear hrg
  go_loopw [] (fun wr => DelSt w mb it ck M keep (pts C (.cells #[isV fis cap] TIs (0, 0)) * (X * G)) wr) (fun wr => unseen mb it wr)
  case atStart => exact HST.out
  case round =>
    clear HST es
    obtain ⟨es, L, seen, hM, hsub, hkp, hlen, hsn, HX⟩ := hrel.st
    clear hrel
    rcases run_next_kv (P := Tryz.prog) HX.out.2.block HX.out.2.right.block hM with ⟨hall, W, hnx, hW⟩ | ⟨e, he, hes, w0, hw0, hnx⟩
    · have hsW : Same w W ∧ Sat W (pts mb (.map es ck) * (tens M * (pts C (.cells #[isV fis cap] TIs (0, 0)) * (X * G)))) := by
        rcases hW with rfl | rfl
        · exact ⟨HX.out.1, HX.out.2.right⟩
        · exact ⟨HX.out.1.drew, HX.out.2.right.drew⟩
      have HF := Lib.hid (show ∃ es ck L, MapL es ck L ∧ (∀ c, c ∈ L.map (·.1) ↔ ∃ x ∈ M, x.1 = c ∧ keep x.2.1 = true) ∧ L.length ≤ M.length ∧ Hid (Same w W ∧ Sat W (pts mb (.map es ck) * (tens M * (pts C (.cells #[isV fis cap] TIs (0, 0)) * (X * G))))) from by
        refine ⟨es, ck, L, hM, fun c => ?_, hlen, hsW⟩
        constructor
        · intro hc
          obtain ⟨q, hq, rfl⟩ := List.mem_map.1 hc
          obtain ⟨e, he, hk, _⟩ := entry_of hM (k := q.1) (v := q.2) hq
          obtain ⟨x, hx, hxk, hxp⟩ := hsn e he (hall e he)
          rw [hk] at hxk
          simp only [Value.int.injEq, true_and] at hxk
          exact ⟨x, hx, hxk.symm, hxp⟩
        · rintro ⟨x, hx, rfl, hxp⟩
          exact List.mem_map.2 ⟨_, hkp x hx hxp, rfl⟩)
      clear hM hsub hkp hlen hsn HX hsW hW hall
      go_wp2_with ((with_reducible (apply wpList_next_run (h := hnx))); rfl; rfl; rfl)
      go_end0
      exact ⟨rfl, HF.out⟩
    · obtain ⟨x, hx, hkey, hval⟩ := entry_in hM hsub he
      have hs0 : Same w w0 ∧ Sat w0 (pts it (.mapIter (some mb) ck seen ck) * (pts mb (.map es ck) * (tens M * (pts C (.cells #[isV fis cap] TIs (0, 0)) * (X * G))))) := by
        rcases hw0 with rfl | rfl
        · exact HX.out
        · exact ⟨HX.out.1.drew, HX.out.2.drew⟩
      have H1 := Lib.hid (And.intro (hs0.1.setBlock (r := it) (.mapIter (some mb) ck (seen.push e.born) ck)) (hs0.2.setBlock (o' := .mapIter (some mb) ck (seen.push e.born) ck)))
      have hen := run_entry_kv (P := Tryz.prog) H1.out.2.block H1.out.2.right.block hM he (by simp)
      have hml : unseen mb it wr = (es.toList.filter fun e => !seen.toList.contains e.born).length := by unfold unseen; rw [HX.out.2.block, HX.out.2.right.block]
      rw [hkey, hval] at hnx hen
      have HE := Lib.hid (And.intro he (And.intro hes (And.intro hkey hx)))
      have HMM := Lib.hid (And.intro hM (And.intro hsub (And.intro hkp (And.intro hlen hsn))))
      have HML := Lib.hid hml
      clear he hes hkey hval hx hM hsub hkp hlen hsn hml hs0 hw0 HX
      generalize setBlock w0 it (.mapIter (some mb) ck (seen.push e.born) ck) = W1 at hnx hen H1
      obtain ⟨A, B, hAB⟩ := List.append_of_mem HE.out.2.2.2
      have HTN := Lib.hid (show tens M = setAt x.2.2 x.2.1 * (tens A * tens B) by rw [hAB, tens_mid])
      clear hAB
      have HN := Lib.hid (notIs_any fis cap keep X (pts it (.mapIter (some mb) ck (seen.push e.born) ck) * (pts mb (.map es ck) * (tens A * tens B * G))) C x.2.2 x.2.1 x.1 W1 HO.out.2.1 HO.out.2.2 (HO.out.1.sets x HE.out.2.2.2) (H1.out.2.perm (show _ = setAt x.2.2 x.2.1 * (pts C (.cells #[isV fis cap] TIs (0, 0)) * (X * (pts it (.mapIter (some mb) ck (seen.push e.born) ck) * (pts mb (.map es ck) * (tens A * tens B * G))))) from by rw [HTN.out]; ac_rfl)))
      cases hk : keep x.2.1
      · rw [hk] at HN
        simp only [Bool.not_false] at HN
        have HD := Lib.hid (fun (W : World) (h : Below W1.heap.size W1 W) => run_delete_born (P := Tryz.prog) (w := W) Tryz.underlying136 Tryz.underlying3 (H1.out.2.below h).right.block HMM.out.1 x.1 e HE.out.1 HE.out.2.2.1)
        go_upto_region 4 with (first
          | ((with_reducible (apply wpList_next_run (h := hnx))); rfl; rfl; rfl)
          | ((with_reducible (apply wpList_entry_run (h := hen))); rfl; rfl; rfl)
          | (go_at_call 74; refine HN.out.mono ?_; rintro e5 w5 ⟨rfl, hb5⟩))
        obtain ⟨es', hdr, hM', hmem⟩ := HD.out w5 hb5
        have H5 := Lib.hid (And.intro ((H1.out.1.below hb5).setBlock (r := mb) (.map es' ck)) (((H1.out.2.below hb5).perm (show _ = pts mb (.map es ck) * (pts it (.mapIter (some mb) ck (seen.push e.born) ck) * (tens M * (pts C (.cells #[isV fis cap] TIs (0, 0)) * (X * G)))) from by ac_rfl)).setBlock (o' := .map es' ck)))
        clear hnx hen hb5
        have HM' := Lib.hid (And.intro hM' hmem)
        clear hM' hmem
        have hun : unseen mb it (setBlock w5 mb (.map es' ck)) < unseen mb it wr := by
          rw [HML.out]
          have e1 : unseen mb it (setBlock w5 mb (.map es' ck)) = (es'.toList.filter fun z => !(seen.push e.born).toList.contains z.born).length := by unfold unseen; rw [H5.out.2.block, H5.out.2.right.block]
          rw [e1]
          refine filter_sub HM'.out.1.born (fun z hz => ((HM'.out.2 z).1 hz).1) ?_ HE.out.1 (by simpa using HE.out.2.1) (.inl fun hz => ((HM'.out.2 e).1 hz).2 rfl)
          intro z hz hq
          simp only [Array.toList_push, Bool.not_eq_true', List.contains_eq_mem, decide_eq_false_iff_not, List.mem_append, not_or] at hq ⊢
          exact hq.1
        have HUN := Lib.hid hun
        clear hun
        go_wp2_with ((with_reducible (apply wpList_delete_run (hrun := hdr))); rfl; rfl; rfl; rfl)
        go_roundw
        case rel =>
          (repeat apply Exists.intro)
          refine ⟨⟨es', del L x.1, seen.push e.born, HM'.out.1, fun q hq => HMM.out.2.1 q (del_sub hq), fun y hy hky => del_keep (HMM.out.2.2.1 y hy hky) ?_, Nat.le_trans (del_len L x.1) HMM.out.2.2.2.1, ?_, H5.out.1, H5.out.2.perm (by ac_rfl)⟩, rfl⟩
          · intro he
            rw [key_inj HO.out.1.nodup hy HE.out.2.2.2 he, hk] at hky
            cases hky
          · intro z hz hb
            have hz2 := (HM'.out.2 z).1 hz
            rw [Array.toList_push, List.mem_append] at hb
            rcases hb with hb | hb
            · exact HMM.out.2.2.2.2 z hz2.1 hb
            · simp only [List.mem_cons, List.not_mem_nil, or_false] at hb
              exact absurd hb hz2.2
        case measure => exact HUN.out
      · rw [hk] at HN
        simp only [Bool.not_true] at HN
        go_upto_region 4 with (first
          | ((with_reducible (apply wpList_next_run (h := hnx))); rfl; rfl; rfl)
          | ((with_reducible (apply wpList_entry_run (h := hen))); rfl; rfl; rfl)
          | (go_at_call 74; refine HN.out.mono ?_; rintro e5 w5 ⟨rfl, hb5⟩))
        have H5 := Lib.hid (And.intro (H1.out.1.below hb5) (H1.out.2.below hb5))
        clear hnx hen hb5
        have HUN := Lib.hid (show unseen mb it w5 < unseen mb it wr by
          rw [HML.out]
          have e1 : unseen mb it w5 = (es.toList.filter fun z => !(seen.push e.born).toList.contains z.born).length := by unfold unseen; rw [H5.out.2.block, H5.out.2.right.block]
          rw [e1]
          refine filter_sub HMM.out.1.born (fun z hz => hz) ?_ HE.out.1 (by simpa using HE.out.2.1) (.inr (by simp))
          intro z hz hq
          simp only [Array.toList_push, Bool.not_eq_true', List.contains_eq_mem, decide_eq_false_iff_not, List.mem_append, not_or] at hq ⊢
          exact hq.1)
        go_roundw
        case rel =>
          refine ⟨⟨es, L, seen.push e.born, HMM.out.1, HMM.out.2.1, HMM.out.2.2.1, HMM.out.2.2.2.1, ?_, H5.out⟩⟩
          intro z hz hb
          rw [Array.toList_push, List.mem_append] at hb
          rcases hb with hb | hb
          · exact HMM.out.2.2.2.2 z hz hb
          · simp only [List.mem_cons, List.not_mem_nil, or_false] at hb
            obtain rfl := born_same HMM.out.1 hz HE.out.1 hb
            exact ⟨x, HE.out.2.2.2, HE.out.2.2.1, hk⟩
        case measure => exact HUN.out
end Go.Proofs.YtmgcgdkndkibgaaGreat

/- usage.chunks, Exclusive and Shared: the chunks whose tenants satisfy a condition. -/
namespace Go.Sl
open Go Go.RowKit Go.Maps
theorem insert_perm28 {H : Type} (x : Lit × DataW H) : ∀ l : List (Lit × DataW H), (DataW.insert x l).Perm (x :: l)
  | [] => List.Perm.refl _
  | y :: r => by
    unfold DataW.insert
    split
    · exact List.Perm.refl _
    · exact (List.Perm.cons y (insert_perm28 x r)).trans (List.Perm.swap x y r)
theorem foldr_insert_perm28 {H : Type} : ∀ l : List (Lit × DataW H), (l.foldr DataW.insert []).Perm l
  | [] => List.Perm.refl _
  | x :: r => (insert_perm28 x _).trans (List.Perm.cons x (foldr_insert_perm28 r))

/-- Two sorted lists of numbers that hold the same are one. -/
theorem sorted_unique28 {a b : List Int} (hp : a.Perm b) (ha : a.Pairwise (· ≤ ·)) (hb : b.Pairwise (· ≤ ·)) : a = b :=
  hp.eq_of_pairwise (fun _ _ _ _ h1 h2 => Int.le_antisymm h1 h2) ha hb


end Go.Sl
namespace Go.Vol
open Go Go.RowKit Go.Sl
theorem chk_of {S : SpaceM} (h : S.WF) {c t : Int} (ht : (c, t) ∈ pairsS S) : 0 ≤ c ∧ c < 2147483648 := by
  have key : ∀ p : PartM, p.WF → (∃ y ∈ items p.m, y.2 = c) → 0 ≤ c ∧ c < 2147483648 := by
    rintro p hp ⟨y, hy, rfl⟩
    obtain ⟨b, hb⟩ := Go.Proofs.YtmgcgdkndkibgaaGreat.items_chunk hy
    exact hp.chk b y.2 hb
  unfold pairsS at ht
  rw [List.mem_append, mem_pairsL, mem_pairsL] at ht
  rcases ht with ⟨p, hp, _, hy⟩ | ⟨p, hp, _, hy⟩
  · exact key p (h.vp p hp) hy
  · exact key p (h.sp p hp) hy
def keepX (t : Int) (T : List Int) : Bool := decide (T.length = 1) && decide (t ∈ T)
def keepH (a b : Int) (T : List Int) : Bool := decide (a ∈ T) && decide (b ∈ T)
theorem excl_sel {S : SpaceM} (h : S.WF) (t : Int) {M : Sets} (hok : SetsOk M (pairsS S)) (c : Int) : (∃ x ∈ M, x.1 = c ∧ keepX t x.2.1 = true) ↔ c ∈ exclM S t := by
  rw [mem_exclM h]
  constructor
  · rintro ⟨⟨c', T, r⟩, hx, rfl, hk⟩
    unfold keepX at hk
    rw [Bool.and_eq_true, decide_eq_true_eq, decide_eq_true_eq] at hk
    obtain ⟨h1, h2⟩ := hk
    refine ⟨(hok.mem _ _).2 ⟨T, r, hx, h2⟩, fun u hu => ?_⟩
    obtain ⟨T', r', hx', hu'⟩ := (hok.mem _ _).1 hu
    have e := Go.Proofs.YtmgcgdkndkibgaaGreat.key_inj hok.nodup hx' hx rfl
    simp only [Prod.mk.injEq, true_and] at e
    rw [e.1] at hu'
    obtain ⟨z, hz⟩ := List.length_eq_one_iff.1 h1
    simp only at hz h2
    rw [hz] at h2 hu'
    simp only [List.mem_singleton] at h2 hu'
    rw [hu', h2]
  · rintro ⟨h1, h2⟩
    obtain ⟨T, r, hx, ht⟩ := (hok.mem _ _).1 h1
    refine ⟨_, hx, rfl, ?_⟩
    unfold keepX
    rw [Bool.and_eq_true, decide_eq_true_eq, decide_eq_true_eq]
    refine ⟨?_, ht⟩
    have hn := hok.sets _ hx
    simp only at hn ht ⊢
    have hall : ∀ u ∈ T, u = t := fun u hu => h2 u ((hok.mem _ _).2 ⟨T, r, hx, hu⟩)
    match T, hn, ht, hall with
    | [a], _, _, _ => rfl
    | a :: b :: r, hn, _, hall =>
      exfalso
      have e1 := hall a (by simp)
      have e2 := hall b (by simp)
      rw [List.nodup_cons] at hn
      exact hn.1 (by rw [e1, ← e2]; simp)
theorem shar_sel {S : SpaceM} (a b : Int) {M : Sets} (hok : SetsOk M (pairsS S)) (c : Int) : (∃ x ∈ M, x.1 = c ∧ keepH a b x.2.1 = true) ↔ c ∈ sharM S a b := by
  rw [mem_sharM]
  constructor
  · rintro ⟨⟨c', T, r⟩, hx, rfl, hk⟩
    unfold keepH at hk
    rw [Bool.and_eq_true, decide_eq_true_eq, decide_eq_true_eq] at hk
    exact ⟨(hok.mem _ _).2 ⟨T, r, hx, hk.1⟩, (hok.mem _ _).2 ⟨T, r, hx, hk.2⟩⟩
  · rintro ⟨h1, h2⟩
    obtain ⟨T, r, hx, ht⟩ := (hok.mem _ _).1 h1
    obtain ⟨T', r', hx', ht'⟩ := (hok.mem _ _).1 h2
    have e := Go.Proofs.YtmgcgdkndkibgaaGreat.key_inj hok.nodup hx' hx rfl
    simp only [Prod.mk.injEq, true_and] at e
    refine ⟨_, hx, rfl, ?_⟩
    unfold keepH
    rw [Bool.and_eq_true, decide_eq_true_eq, decide_eq_true_eq]
    exact ⟨ht, e.1 ▸ ht'⟩
end Go.Vol
namespace Go.Proofs.YtmgcgdkndkibgaaGreat
open Go.RowKit Go.Vol Go.Sl Go.ChangeMaps Go.Maps Go.Sort Go.Shelf

/-- An element of a map, whatever it is. -/
def anyElem28 (_ : Value) : Option (DataW Unit × List MemPlace) := some (.nil, [])

theorem fit_of28 (es : Array MapEntry) (ck : Nat) (l : KV) (hM : MapL es ck l) (hwf : ∀ p ∈ l, (Lit.int .i64 p.1).wf = true) (hsz : es.size ≤ maxLen) :
    WideElems.Fit Tryz.prog 3 anyElem28 es ck ∧ ((es.toList.map (WideElems.rg Tryz.prog 3 anyElem28)).map (fun p => Go.intOf p.1)) = l.map (·.1) := by
  have hkey : ∀ x ∈ es.toList, ∃ k : Int, x.key = .int .i64 k ∧ (Lit.int .i64 k).wf = true := by
    intro x hx
    have h1 : (x.key, x.val) ∈ es.toList.map (fun e => (e.key, e.val)) := List.mem_map_of_mem hx
    rw [hM.ent] at h1
    obtain ⟨p, hp, he⟩ := List.mem_map.1 h1
    simp only [Prod.mk.injEq] at he
    exact ⟨p.1, he.1.symm, hwf p hp⟩
  have hrg : ∀ x ∈ es.toList, ∀ k, x.key = .int .i64 k → (Lit.int .i64 k).wf = true → WideElems.rd Tryz.prog 3 anyElem28 x = some (.int .i64 k, .nil) := by
    intro x _ k hk hw
    have := keyOf_int_mk Tryz.underlying3 hw
    unfold WideElems.rd
    rw [hk, this]; rfl
  refine ⟨⟨hsz, ⟨hM.clock, hM.born, ?_⟩, ?_⟩, ?_⟩
  · have h1 : es.toList.map (·.key) = l.map fun p => Value.int .i64 p.1 := by
      have := congrArg (List.map Prod.fst) hM.ent
      simpa [List.map_map, Function.comp_def] using this
    rw [h1]
    have h2 : (l.map fun p => Value.int .i64 p.1) = (l.map (·.1)).map (Value.int .i64) := by simp [List.map_map, Function.comp_def]
    rw [h2]
    refine List.Pairwise.map _ ?_ hM.nodup
    intro a b h h'; exact h (by simpa using h')
  · intro x hx
    obtain ⟨k, hk, hw⟩ := hkey x hx
    exact ⟨_, hrg x hx k hk hw⟩
  · have h1 : (es.toList.map (WideElems.rg Tryz.prog 3 anyElem28)).map (fun p => Go.intOf p.1) = es.toList.map fun x => Go.RowKit.intOf x.key := by
      rw [List.map_map]
      refine List.map_congr_left fun x hx => ?_
      obtain ⟨k, hk, hw⟩ := hkey x hx
      simp only [Function.comp_def, WideElems.rg, hrg x hx k hk hw, Option.getD_some, hk]
      rfl
    rw [h1]
    have h2 := congrArg (List.map fun q : Value × Value => Go.RowKit.intOf q.1) hM.ent
    simp only [List.map_map, Function.comp_def] at h2
    rw [h2]; rfl

theorem Tryz.sortsA28 (m : Nat) : AnyZI.SortsIn Tryz.prog Tryz.sortedA_ren Fence.wide m :=
  ⟨fun blk off cap ss W hH hblk hsz => callsIn_wide.2 (AnyM.slices_Sort_int Tryz.sortA blk off cap ss W hH hblk hsz),
   fun p cap W => callsIn_wide.2 (AnyM.slices_Sort_int_none Tryz.sortA p cap W)⟩



theorem up_le {l : List Int} (h : Up l) : l.Pairwise (· ≤ ·) := List.Pairwise.imp (fun h => by omega) h
theorem up_nodup {l : List Int} (h : Up l) : l.Nodup := List.Pairwise.imp (fun h => by omega) h
set_option maxHeartbeats 4000000 in
theorem chunks_any (p : Nat) (S : SpaceM) (keep : List Int → Bool) (l0 : List Int) (fis : FuncId) (cap : Array Value) (w : World) (hS : SpaceAt TNode TSp w p S) (hwf : S.WF) (his : IsOk fis cap keep (old w)) (hcf : ∀ args w, (callFunc fis args).run Tryz.prog w = .ok (.enter fis args) w)
    (hup : Up l0) (hsel : ∀ M, SetsOk M (pairsS S) → ∀ c, (∃ x ∈ M, x.1 = c ∧ keep x.2.1 = true) ↔ c ∈ l0) :
    Calls Tryz.prog 43 #[.pointer (some ⟨p, 0, none⟩), .func (.func fis) #[] cap] w fun e w' => ∃ v, e = .returned v ∧ Hid (Below w.heap.size w w' ∧ IntsAt w' v l0) := by
  have H0 := Lib.hid (And.intro ((Same.refl w).alloc (.cells #[isV fis cap] TIs)) ((Sat.old w).alloc (.cells #[isV fis cap] TIs)))
  have hpl := pairsL_len S.vols
  have hps := pairsL_len S.snaps
  have hvl := hwf.vlen
  have hsl := hwf.slen
  have HOW := Lib.hid (owners_any p S (w.alloc (.cells #[isV fis cap] TIs)) (hS.below ((Below.refl _ w).alloc (Nat.le_refl _) _)) hwf)
  have HI := Lib.hid (And.intro his hcf)
  have HU := Lib.hid (And.intro hup hsel)
  have HC := Lib.hid (fun (c t : Int) (h : (c, t) ∈ pairsS S) => chk_of hwf h)
  have hpp : (pairsS S).length ≤ 2000000 := by unfold pairsS; rw [List.length_append]; omega
  clear hS hwf his hcf hup hsel hpl hps hvl hsl
  refine (callsIn_wide (n := 6)).1 ?_
  have hfK : Fence.wide.fn 76 := trivial
  have hfS : Fence.wide.fn 75 := trivial
  have hfO : Fence.wide.fn 72 := trivial
  have hfD : Fence.wide.fn 73 := trivial
  have cK : ∀ mb W, CallsIn Fence.wide 5 Tryz.prog 76 #[.map mb] W fun e w' => e = .returned (.func (.func 109) #[] #[.pointer (some ⟨W.heap.size, 0, none⟩)]) ∧ w' = W.alloc (.cells #[.map mb] TMM) := fun mb W => AnyZI.keys_in Tryz.keysA Fence.wide 5 trivial rfl mb W
  refine callsIn_of_wp Tryz.func43 rfl trivial ?_ rfl
  simp only [Tryz.ntmps43, List.size_toArray, List.length_cons, List.length_nil, Nat.reduceAdd, Nat.reduceSub, Array.replicate_succ, Array.replicate_zero, List.push_toArray, List.append_toArray, List.nil_append, List.cons_append]
  gi_wp2_with (first
    | (gi_at_call 72; refine (callsIn_wide.2 HOW.out).mono ?_; rintro e w2 ⟨mb, M, rfl, hM, h2⟩)
    | (gi_at_call 73; refine (callsIn_wide.2 (delF_any mb w.heap.size M _ keep fis cap (old w) emp w2 (by rw [star_emp]; exact sat_old h2.out.2 H0.out.2) hM HI.out.1 HI.out.2)).mono ?_; rintro e w3 ⟨rfl, es, ck, L, hML, hkeys, hlen, h3⟩))
  have HS3 := Lib.hid (And.intro ((H0.out.1.trans h2.out.1).trans h3.out.1) h3.out.2)
  have hkb := h3.out.2.block
  have hmblt := (Array.getElem?_eq_some_iff.1 hkb).1
  have hperm : (L.map (·.1)).Perm l0 := (List.perm_ext_iff_of_nodup hML.nodup (up_nodup HU.out.1)).2 fun c => (hkeys c).trans (HU.out.2 M hM c)
  have hLl : L.length ≤ 2000000 := Nat.le_trans hlen (Nat.le_trans hM.len hpp)
  have hesz := hML.size
  have hl0 : l0.length = L.length := by have := hperm.length_eq; simpa using this.symm
  have hkwf : ∀ q ∈ L, (Lit.int .i64 q.1).wf = true := by
    intro q hq
    obtain ⟨x, hx, hxe, _⟩ := (hkeys q.1).1 (List.mem_map_of_mem hq)
    obtain ⟨t, ht⟩ := hM.keys x hx
    have hb := HC.out _ _ ht
    rw [hxe] at hb
    exact WalkArith.wf_i64 (by omega)
  obtain ⟨hfit, hkk⟩ := fit_of28 es ck L hML hkwf (by unfold maxLen; omega)
  obtain ⟨D0, hD0⟩ : ∃ D0 : DataW Unit, D0 = .map ((es.toList.map (WideElems.rg Tryz.prog 3 anyElem28)).foldr DataW.insert []) := ⟨_, rfl⟩
  have hown : w3.ownsMap Tryz.prog 3 anyElem28 mb es.size D0 := ⟨es, ck, hkb, hfit, Nat.le_refl _, hD0⟩
  have hint : (intKeys D0).Perm l0 := by
    rw [hD0]
    refine List.Perm.trans ?_ hperm
    rw [← hkk]
    exact (foldr_insert_perm28 _).map _
  have hsize : Maps.size D0 = es.size := by
    rw [hD0]
    have := (foldr_insert_perm28 (es.toList.map (WideElems.rg Tryz.prog 3 anyElem28))).length_eq
    simpa [Maps.size] using this
  have hmax : Maps.size D0 ≤ maxLen := by rw [hsize]; unfold maxLen; omega
  have hbytes : Maps.size D0 * 8 ≤ 140737488355328 := by rw [hsize]; omega
  have HIN := Lib.hid hint
  clear hint hsize hfit hkk hkwf hperm hkeys hM hML h2 h3 HOW HI H0 hD0
  have hseq : SeqGives Fence.wide 2 Tryz.prog 109 #[.pointer (some ⟨w3.heap.size, 0, none⟩)] encZ (fun ss => ss.Perm (intKeys D0)) (Maps.size D0) (w3.alloc (.cells #[.map (some mb)] TMM)) :=
    AnyZI.keys_gives (ρ := Tryz.keysA_ren) { Tryz.keysA with } Fence.wide _ trivial rfl (by omega) w3.heap.size mb es.size D0 _ (by simp) (by simp) (by
      obtain ⟨es', clock, hb, Ft, hs, hD⟩ := hown
      exact ⟨es', clock, (Below.heap_alloc _ _ mb hmblt).trans hb, Ft, hs, hD⟩)
  have cS := AnyZI.sorted_in Tryz.sortedA Fence.wide 5 trivial trivial trivial trivial rfl (by omega) (Tryz.sortsA28 _) (enters_of Tryz.func108 (by kernel_rfl) rfl) 109 #[.pointer (some ⟨w3.heap.size, 0, none⟩)] trivial (enters_of Tryz.func109 (by kernel_rfl) rfl) _ _ hmax hbytes _ hseq
  change CallsIn _ _ Tryz.prog 75 _ _ _ at cS
  refine (cK _ _).mono ?_
  rintro e w' ⟨rfl, rfl⟩
  gi_wp2_with (gi_at_call 75; refine cS.mono ?_; rintro e w' ⟨v, ss, rfl, hSS, hrow, hnil, hb⟩)
  go_ret
  have hp2 := hSS.trans HIN.out
  have hsort : ss.mergeSort (fun x y => decide (x ≤ y)) = l0 :=
    sorted_unique28 ((List.mergeSort_perm _ _).trans hp2) ((List.pairwise_mergeSort (by intro a b c h1 h2; simp at *; omega) (by intro a b; simp; omega) ss).imp (by intro a b h; simpa using h)) (up_le HU.out.1)
  have hlen2 : ss.length = l0.length := hp2.length_eq
  rw [hsort, hlen2] at hrow
  have hbw : Below w.heap.size w w' := by
    have h9 := ((HS3.out.1.alloc (.cells #[.map (some mb)] TMM)).below hb)
    exact h9.below_of (P := emp) (by rw [emp_star]; exact Sat.below ((HS3.out.2.right.right.right.left).allocKeep _) hb)
  refine ⟨v, rfl, hbw, ?_⟩
  rcases hrow with ⟨hrl, ⟨rfl, h0⟩ | ⟨g, cap', cur, rfl, hg, hbk, h1, h2, h3, h4⟩⟩
  · refine ⟨none, 0, by rw [h0], fun hne => ?_⟩
    exact absurd (List.eq_nil_of_length_eq_zero h0) hne
  · refine ⟨_, cap', rfl, fun _ => ⟨g, 0, rfl, fun j x hx => ?_⟩⟩
    rw [Nat.zero_add, Nat.mul_one, cells_at hbk]
    have h5 : (l0.map (Value.int .i64))[j]? = some (.int .i64 x) := by rw [List.getElem?_map, hx]; rfl
    rw [← h4, List.getElem?_take] at h5
    split at h5
    · rw [Array.getElem?_toList] at h5; exact h5
    · cases h5
end Go.Proofs.YtmgcgdkndkibgaaGreat

/- usage.Exclusive and Shared: the two conditions, and what the two functions answer. -/
namespace Go.Proofs.YtmgcgdkndkibgaaGreat
open Go.RowKit Go.Vol Go.Sl Go.ChangeMaps

theorem old_block {w W : World} {P G : HProp} (h : Sat W (P * (old w * G))) {k : Nat} {o : Obj} (hk : w.heap[k]? = some o) : W.heap[k]? = some o := by
  have h2 := Sat.of_old (w := w) (P := P * G) (h.perm (by ac_rfl)) k (Array.getElem?_eq_some_iff.1 hk).1
  rw [h2]; exact hk
theorem lk_bool (T : List Int) (t : Int) : (lk (setKV T) t).getD (.bool false) = .bool (decide (t ∈ T)) := by
  rw [lk_set]
  by_cases h : t ∈ T
  · rw [if_pos h, decide_eq_true h]; rfl
  · rw [if_neg h, decide_eq_false h]; rfl
set_option maxRecDepth 20000 in
set_option maxHeartbeats 1000000 in
theorem isX_any (tb : Nat) (t : Int) (w : World) (h : w.heap[tb]? = some (.cells #[.int .i64 t] 3 (0, 0))) : IsOk 44 #[.pointer (some ⟨tb, 0, none⟩)] (keepX t) (old w) := by
  intro W r T G hT hS
  obtain ⟨es, ck, hM, hs⟩ := Sat.setAt_iff.1 hS
  have c0 : W.cell? ⟨tb, 0, none⟩ = some (.int .i64 t) := cells_at (old_block hs h) 0
  have hlen := len_kv (P := Tryz.prog) Tryz.underlying98 hs.block hM
  have hl0 := run_lookup_at (P := Tryz.prog) (w := W) Tryz.underlying98 Tryz.underlying3 (zeroB W) hs.block hM t
  rw [lk_bool] at hl0
  have e : (setKV T).length = T.length := by unfold setKV; rw [List.length_map]
  rw [e] at hlen
  clear hM hs hS h e hT
  by_cases h1 : T.length = 1
  · have hd : ((T.length : Int) == 1) = true := by rw [h1]; rfl
    have hk : keepX t T = decide (t ∈ T) := by unfold keepX; rw [decide_eq_true h1]; rfl
    rw [hk]
    generalize decide (t ∈ T) = kt at hl0 ⊢
    generalize (T.length : Int) = n at hlen hd
    clear hk h1
    show Calls Tryz.prog 44 #[.map (some r), .pointer (some ⟨tb, 0, none⟩)] W _
    go_enter Tryz.func44, Tryz.ntmps44
    go_wp2
    go_ret
    exact ⟨rfl, Below.refl _ _⟩
  · have hd : ((T.length : Int) == 1) = false := beq_eq_false_iff_ne.2 (by omega)
    have hk : keepX t T = false := by unfold keepX; rw [decide_eq_false h1]; rfl
    rw [hk]
    generalize (T.length : Int) = n at hlen hd
    clear hk h1
    show Calls Tryz.prog 44 #[.map (some r), .pointer (some ⟨tb, 0, none⟩)] W _
    go_enter Tryz.func44, Tryz.ntmps44
    go_wp2
    go_ret
    exact ⟨rfl, Below.refl _ _⟩
set_option maxRecDepth 20000 in
set_option maxHeartbeats 1000000 in
theorem isH_any (ta tb : Nat) (a b : Int) (w : World) (h : w.heap[ta]? = some (.cells #[.int .i64 a] 3 (0, 0))) (h2 : w.heap[tb]? = some (.cells #[.int .i64 b] 3 (0, 0))) : IsOk 47 #[.pointer (some ⟨ta, 0, none⟩), .pointer (some ⟨tb, 0, none⟩)] (keepH a b) (old w) := by
  intro W r T G hT hS
  obtain ⟨es, ck, hM, hs⟩ := Sat.setAt_iff.1 hS
  have c0 : W.cell? ⟨ta, 0, none⟩ = some (.int .i64 a) := cells_at (old_block hs h) 0
  have c1 : W.cell? ⟨tb, 0, none⟩ = some (.int .i64 b) := cells_at (old_block hs h2) 0
  have hl0 := run_lookup_at (P := Tryz.prog) (w := W) Tryz.underlying98 Tryz.underlying3 (zeroB W) hs.block hM a
  have hl1 := run_lookup_at (P := Tryz.prog) (w := W) Tryz.underlying98 Tryz.underlying3 (zeroB W) hs.block hM b
  rw [lk_bool] at hl0 hl1
  clear hM hs hS h h2 hT
  unfold keepH
  show Calls Tryz.prog 47 #[.map (some r), .pointer (some ⟨ta, 0, none⟩), .pointer (some ⟨tb, 0, none⟩)] W _
  by_cases ha : a ∈ T
  · rw [decide_eq_true ha] at hl0 ⊢
    generalize decide (b ∈ T) = kb at hl1 ⊢
    clear ha
    go_enter Tryz.func47, Tryz.ntmps47
    go_wp2
    go_ret
    exact ⟨rfl, Below.refl _ _⟩
  · rw [decide_eq_false ha] at hl0 ⊢
    generalize decide (b ∈ T) = kb at hl1 ⊢
    clear ha
    go_enter Tryz.func47, Tryz.ntmps47
    go_wp2
    go_ret
    exact ⟨rfl, Below.refl _ _⟩
set_option maxHeartbeats 1000000 in
theorem uexcl_any (p : Nat) (S : SpaceM) (t : Int) (w : World) (hS : SpaceAt TNode TSp w p S) (hwf : S.WF) :
    Calls Tryz.prog 25 #[.pointer (some ⟨p, 0, none⟩), .int .i64 t] w fun e w' => ∃ v, e = .returned v ∧ Hid (Below w.heap.size w w' ∧ IntsAt w' v (exclM S t)) := by
  have hb := (Below.refl w.heap.size w).alloc (Nat.le_refl _) (.cells #[.int .i64 t] 3)
  have HC := Lib.hid (chunks_any p S (keepX t) (exclM S t) 44 #[.pointer (some ⟨w.heap.size, 0, none⟩)] (w.alloc (.cells #[.int .i64 t] 3)) (hS.below hb) hwf (isX_any _ t _ (heap_alloc_new w _)) (enters_of Tryz.func44 (by kernel_rfl) rfl) (exclM_up S t) (fun M hM c => excl_sel hwf t hM c))
  have HB := Lib.hid hb
  clear hS hwf hb
  go_enter Tryz.func25, Tryz.ntmps25
  go_wp2_with (go_at_call 43; refine HC.out.mono ?_; rintro e w1 ⟨v, rfl, h1⟩)
  go_ret
  exact ⟨v, rfl, HB.out.trans (h1.out.1.mono HB.out.size), h1.out.2⟩
set_option maxHeartbeats 1000000 in
theorem ushar_any (p : Nat) (S : SpaceM) (a b : Int) (w : World) (hS : SpaceAt TNode TSp w p S) (hwf : S.WF) :
    Calls Tryz.prog 27 #[.pointer (some ⟨p, 0, none⟩), .int .i64 a, .int .i64 b] w fun e w' => ∃ v, e = .returned v ∧ Hid (Below w.heap.size w w' ∧ IntsAt w' v (sharM S a b)) := by
  have hb := ((Below.refl w.heap.size w).alloc (Nat.le_refl _) (.cells #[.int .i64 a] 3)).alloc (by simp) (.cells #[.int .i64 b] 3)
  have HC := Lib.hid (chunks_any p S (keepH a b) (sharM S a b) 47 #[.pointer (some ⟨w.heap.size, 0, none⟩), .pointer (some ⟨w.heap.size + 1, 0, none⟩)] ((w.alloc (.cells #[.int .i64 a] 3)).alloc (.cells #[.int .i64 b] 3)) (hS.below hb) hwf
    (isH_any _ _ a b _ ((Below.heap_alloc _ _ _ (by simp)).trans (heap_alloc_new w _)) (by have := heap_alloc_new (w.alloc (.cells #[.int .i64 a] 3)) (.cells #[.int .i64 b] 3); rw [World.size_alloc] at this; exact this)) (enters_of Tryz.func47 (by kernel_rfl) rfl) (sharM_up S a b) (fun M hM c => shar_sel a b hM c))
  have HB := Lib.hid hb
  clear hS hwf hb
  go_enter Tryz.func27, Tryz.ntmps27
  go_wp2_with (go_at_call 43; refine HC.out.mono ?_; rintro e w1 ⟨v, rfl, h1⟩)
  go_ret
  exact ⟨v, rfl, HB.out.trans (h1.out.1.mono HB.out.size), h1.out.2⟩
end Go.Proofs.YtmgcgdkndkibgaaGreat
