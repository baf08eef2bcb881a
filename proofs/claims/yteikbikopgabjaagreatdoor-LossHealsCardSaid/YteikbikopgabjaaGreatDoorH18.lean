import Derived.Test.YteikbikopgabjaaGreatDoorH17
import Derived.DeepKeys
import Derived.Laws.StructEq
import Derived.Test.YteikbikopgabjaaGreatDoorH06
import Derived.WideKeyMaps
/- Part 18 of a proof; the last part says what is proved. -/
section
namespace Go.Proofs.YteikbikopgabjaaGreatDoor
open Go.RowKit Go.Sha Go.Sl Go.GF
theorem kl_byte (D : Nat) (x : Nat) (hx : x < 256) : Tryz.prog.keyLits (D + 1) T8 [.int .u8 (x : Int)] = some [.int .u8 (x : Int)] := by
 have h : Tryz.prog.underlying T8 = some (.int .u8) := Tryz.underlying5
 have hw : (Lit.int .u8 (x : Int)).wf = true := by simp [Lit.wf, IntKind.min, IntKind.max, IntKind.bits, IntKind.signed]; omega
 unfold Program.keyLits
 rw [h]
 simp [hw]
theorem mapM_some {α β : Type} (f : α → Option β) (g : α → β) : ∀ l : List α, (∀ x ∈ l, f x = some (g x)) → l.mapM f = some (l.map g)
 | [], _ => rfl
 | x :: l, h => by
  rw [List.mapM_cons, h x List.mem_cons_self, mapM_some f g l (fun y hy => h y (List.mem_cons_of_mem _ hy))]
  rfl
theorem kl_dig (D : Nat) (g : Nat → Nat) (hg : ∀ j, g j < 256) : Tryz.prog.keyLits (D + 2) TD (arrK .u8 16 g).toList = some ((List.range 16).map fun j => Lit.int .u8 (g j : Int)) := by
 have h : Tryz.prog.underlying TD = some (.array 16 T8) := Tryz.underlying67
 have h1 : Tryz.prog.cellsOf TD = 16 := by kernel_rfl
 have h2 : Tryz.prog.cellsOf T8 = 1 := by kernel_rfl
 have hl : (arrK .u8 16 g).toList = (List.range 16).map fun j => Value.int .u8 ((g j : Nat) : Int) := rfl
 unfold Program.keyLits
 rw [h]
 dsimp only
 rw [if_pos (by rw [hl, h1]; simp), h2]
 rw [mapM_some _ (fun j => [Lit.int .u8 (g j : Int)]) _ (fun i hi => by
  have hi2 : i < 16 := List.mem_range.1 hi
  have e : (((arrK .u8 16 g).toList.drop (i * 1)).take 1) = [.int .u8 ((g i : Nat) : Int)] := by
   rw [hl, Nat.mul_one, List.drop_eq_getElem_cons (by simp; exact hi2), List.take_succ_cons, List.take_zero]
   simp
  rw [e]
  exact kl_byte D (g i) (hg i))]
 rw [Option.map_some]
 congr 1
theorem sumN_lt (l : List UInt8) (j : Nat) : Go.Sha.sumN l j < 256 := Nat.mod_lt _ (by decide)
theorem arrK_inj {g h : Nat → Nat} (e : (List.range 16).map (fun j => Lit.int .u8 (g j : Int)) = (List.range 16).map fun j => Lit.int .u8 (h j : Int)) : arrK .u8 16 g = arrK .u8 16 h :=
 arrK_congr fun j hj => by
  have h1 := congrArg (fun l => l[j]?) e
  simp [hj] at h1
  omega
theorem eq_dig (g h : Nat → Nat) (hg : ∀ j, g j < 256) (hh : ∀ j, h j < 256) (w : World) : ∃ r : Bool, (binOp .eql TD (.agg (arrK .u8 16 g)) (.agg (arrK .u8 16 h))).run Tryz.prog w = .ok (.bool r) w ∧ (r = true ↔ arrK .u8 16 g = arrK .u8 16 h) := by
 have hk : Tryz.prog.keyTypeAt 2 TD = true := by kernel_rfl
 have hf : ∀ f, (Value.agg (arrK .u8 16 f)).formed Tryz.prog TD = true := fun f => by
  have h : Tryz.prog.underlying TD = some (.array 16 T8) := Tryz.underlying67
  have h1 : Tryz.prog.cellsOf TD = 16 := by kernel_rfl
  simp [Value.formed, h, h1, arrK_size]
 obtain ⟨r, h1, h2⟩ := run_equalIn_deep (P := Tryz.prog) 9998 2 TD hk w 2 2 (.agg (arrK .u8 16 g)) (.agg (arrK .u8 16 h)) _ _ (hf g) (hf h) (kl_dig 0 g hg) (kl_dig 0 h hh)
 refine ⟨r, ?_, fun e => arrK_inj (h2.1 e), fun e => h2.2 ?_⟩
 ·rw [run_eql_struct, h1]; rfl
 ·refine List.map_congr_left fun j hj => ?_
  have h4 := congrArg (fun a => a[j]?) e
  have hj2 : j < 16 := List.mem_range.1 hj
  have h5 : some (Value.int .u8 ((g j : Nat) : Int)) = some (Value.int .u8 ((h j : Nat) : Int)) := (arrK_at .u8 16 g hj2).symm.trans (h4.trans (arrK_at .u8 16 h hj2))
  have h6 : ((g j : Nat) : Int) = ((h j : Nat) : Int) := by
   have h7 := Option.some.inj h5
   exact (Value.int.inj h7).2
  show Lit.int .u8 ((g j : Nat) : Int) = Lit.int .u8 ((h j : Nat) : Int)
  rw [h6]
end Go.Proofs.YteikbikopgabjaaGreatDoor
end
section
namespace Go.Key
open Go Go.RowKit Go.ChangeMaps
section
variable {α : Type} [DecidableEq α]
abbrev KV (α : Type) := List (α × Value)
def lk : KV α → α → Option Value
 | [], _ => none
 | (a, v) :: r, k => if k = a then some v else lk r k
def upd : KV α → α → Value → KV α
 | [], k, v => [(k, v)]
 | (a, x) :: r, k, v => if k = a then (a, v) :: r else (a, x) :: upd r k v
def del : KV α → α → KV α
 | [], _ => []
 | (a, x) :: r, k => if k = a then r else (a, x) :: del r k
def fidx : KV α → α → Nat → Option (Nat × Value)
 | [], _, _ => none
 | (a, v) :: r, k, i => if k = a then some (i, v) else fidx r k (i + 1)
theorem fidx_lk (l : KV α) (k : α) : ∀ i, (fidx l k i).map (·.2) = lk l k := by
 induction l with
 | nil => intro i; rfl
 | cons p r ih => obtain ⟨a, v⟩ := p; intro i; unfold fidx lk; split <;> simp [ih]
theorem fidx_ge (l : KV α) (k : α) : ∀ i j v, fidx l k i = some (j, v) → i ≤ j ∧ j < i + l.length := by
 induction l with
 | nil => intro i j v h; simp [fidx] at h
 | cons p r ih =>
  obtain ⟨a, x⟩ := p
  intro i j v h
  unfold fidx at h
  split at h
  ·simp at h; simp; omega
  ·have := ih _ _ _ h; simp; omega
theorem lk_upd (l : KV α) (k : α) (v : Value) (k' : α) : lk (upd l k v) k' = if k' = k then some v else lk l k' := by
 induction l with
 | nil => simp [upd, lk]
 | cons p r ih =>
  obtain ⟨a, x⟩ := p
  unfold upd
  by_cases h : k = a
  ·subst h; simp only [if_true, lk]
   by_cases h' : k' = k <;> simp [h']
  ·simp only [h, if_false, lk, ih]
   by_cases h' : k' = a
   ·subst h'; simp [Ne.symm h]
   ·simp [h']
theorem keys_upd (l : KV α) (k : α) (v : Value) : (upd l k v).map (·.1) = if k ∈ l.map (·.1) then l.map (·.1) else l.map (·.1) ++ [k] := by
 induction l with
 | nil => simp [upd]
 | cons p r ih =>
  obtain ⟨a, x⟩ := p
  unfold upd
  by_cases h : k = a
  ·subst h; simp
  ·simp only [h, if_false, List.map_cons, ih, List.mem_cons, false_or]
   by_cases h' : k ∈ r.map (·.1) <;> simp only [h', if_true, if_false, List.cons_append]
theorem nodup_upd {l : KV α} (h : (l.map (·.1)).Nodup) (k : α) (v : Value) : ((upd l k v).map (·.1)).Nodup := by
 rw [keys_upd]
 split
 ·exact h
 ·rename_i hk
  rw [List.nodup_append]
  refine ⟨h, by simp, ?_⟩
  intro a ha b hb
  simp at hb; subst hb
  rintro rfl; exact hk ha
theorem mem_keys_del {l : KV α} {k a : α} (h : a ∈ (del l k).map (·.1)) : a ∈ l.map (·.1) := by
 induction l with
 | nil => simp [del] at h
 | cons p r ih =>
  obtain ⟨b, x⟩ := p
  unfold del at h
  split at h
  ·simp only [List.map_cons, List.mem_cons]; exact .inr h
  ·simp only [List.map_cons, List.mem_cons] at h ⊢
   rcases h with h | h
   ·exact .inl h
   ·exact .inr (ih h)
theorem nodup_del {l : KV α} (h : (l.map (·.1)).Nodup) (k : α) : ((del l k).map (·.1)).Nodup := by
 induction l with
 | nil => simp [del]
 | cons p r ih =>
  obtain ⟨b, x⟩ := p
  simp only [List.map_cons, List.nodup_cons] at h
  unfold del
  split
  ·exact h.2
  ·simp only [List.map_cons, List.nodup_cons]
   exact ⟨fun hm => h.1 (mem_keys_del hm), ih h.2⟩
theorem lk_none_of_not_mem {l : KV α} {k : α} (h : k ∉ l.map (·.1)) : lk l k = none := by
 induction l with
 | nil => rfl
 | cons p r ih =>
  obtain ⟨b, x⟩ := p
  simp only [List.map_cons, List.mem_cons, not_or] at h
  unfold lk; rw [if_neg h.1]; exact ih h.2
theorem lk_del {l : KV α} (h : (l.map (·.1)).Nodup) (k k' : α) : lk (del l k) k' = if k' = k then none else lk l k' := by
 induction l with
 | nil => simp [del, lk]
 | cons p r ih =>
  obtain ⟨a, x⟩ := p
  simp only [List.map_cons, List.nodup_cons] at h
  unfold del
  by_cases hk : k = a
  ·subst hk
   simp only [if_true, lk]
   by_cases h' : k' = k
   ·subst h'; simp [lk_none_of_not_mem h.1]
   ·simp [h']
  ·simp only [hk, if_false, lk, ih h.2]
   by_cases h' : k' = a
   ·subst h'; simp [Ne.symm hk]
   ·simp [h']
structure KeyEmb (P : Program) (K : TypeId) (φ : α → Value) : Prop where
 check : ∀ (b : Bool) (x : α) (w : World), (Instr.checkKey b 10000 K (φ x)).run P w = .ok () w
 find : ∀ (es : List MapEntry) (l : KV α) (k : α) (w : World), (l.map (·.1)).Nodup → es.map (fun e => (e.key, e.val)) = l.map (fun p => (φ p.1, p.2)) → (Instr.findKey K (φ k) es).run P w = .ok (fidx l k 0) w
 stays : ∀ (k : α) (w : World), (Instr.keyThatStays (φ k) (φ k)).run P w = .ok (φ k) w
end
section
variable {α : Type}
structure MapG (φ : α → Value) (es : Array MapEntry) (clock : Nat) (l : KV α) : Prop where
 ent : es.toList.map (fun e => (e.key, e.val)) = l.map fun p => (φ p.1, p.2)
 nodup : (l.map (·.1)).Nodup
 born : (es.toList.map (·.born)).Nodup
 clock : ∀ e ∈ es.toList, e.born < clock
theorem MapG.empty (φ : α → Value) (clock : Nat) : MapG φ #[] clock [] := ⟨rfl, by simp, by simp, by simp⟩
theorem MapG.size {φ : α → Value} {es : Array MapEntry} {clock : Nat} {l : KV α} (h : MapG φ es clock l) : es.size = l.length := by
 have := congrArg List.length h.ent; simpa using this
end
section
variable {α : Type} [DecidableEq α] {φ : α → Value} {P : Program} {w : World} {r clock : Nat} {es : Array MapEntry} {l : KV α}
theorem run_lookup_ok {T K E : TypeId} (hT : P.underlying T = some (.map K E)) (hK : KeyEmb P K φ) {z : Value} (hz : (zeroValue E).run P w = .ok z w)
  (hb : w.heap[r]? = some (.map es clock)) (hl : MapG φ es clock l) (k : α) :
  (Instr.lookup T (.map (some r)) (φ k) true).run P w = .ok (.tuple #[(lk l k).getD z, .bool (lk l k).isSome]) w := by
 have hlk := fidx_lk l k 0
 simp only [Instr.lookup, Sem.run_bind, run_underlying hT, Result.andThen_ok, MapKept.run_getObj_map hb, Sem.run_pure, hK.check, (hK.find _ l k _ hl.nodup hl.ent)]
 cases hf : fidx l k 0 with
 | none =>
  rw [hf] at hlk
  simp only [Option.map_none] at hlk
  simp [← hlk, hz]
 | some p =>
  rw [hf] at hlk
  simp only [Option.map_some] at hlk
  simp [← hlk]
theorem run_lookup_at {T K E : TypeId} (hT : P.underlying T = some (.map K E)) (hK : KeyEmb P K φ) {z : Value} (hz : (zeroValue E).run P w = .ok z w)
  (hb : w.heap[r]? = some (.map es clock)) (hl : MapG φ es clock l) (k : α) :
  (Instr.lookup T (.map (some r)) (φ k) false).run P w = .ok ((lk l k).getD z) w := by
 have hlk := fidx_lk l k 0
 simp only [Instr.lookup, Sem.run_bind, run_underlying hT, Result.andThen_ok, MapKept.run_getObj_map hb, Sem.run_pure, hK.check, (hK.find _ l k _ hl.nodup hl.ent)]
 cases hf : fidx l k 0 with
 | none =>
  rw [hf] at hlk
  simp only [Option.map_none] at hlk
  simp [← hlk, hz]
 | some p =>
  rw [hf] at hlk
  simp only [Option.map_some] at hlk
  simp [← hlk]
theorem fidx_upd {es : List MapEntry} {f : MapEntry → MapEntry} {k : α} {v : Value} : ∀ {l : KV α} {i j : Nat} {x : Value}, es.map (fun e => (e.key, e.val)) = l.map (fun p => (φ p.1, p.2)) →
  fidx l k i = some (i + j, x) → (∀ e, (f e).key = φ k ∧ (f e).val = v) → (es.modify j f).map (fun e => (e.key, e.val)) = (upd l k v).map (fun p => (φ p.1, p.2)) := by
 induction es with
 | nil => intro l i j x h hf hp; cases l with
  | nil => simp [fidx] at hf
  | cons p t => simp at h
 | cons e r ih =>
  intro l i j x h hf hp
  cases l with
  | nil => simp at h
  | cons p t =>
   obtain ⟨a, y⟩ := p
   simp only [List.map_cons, List.cons.injEq, Prod.mk.injEq] at h
   unfold fidx at hf
   unfold upd
   by_cases hka : k = a
   ·subst hka
    simp only [if_true, Option.some.injEq, Prod.mk.injEq] at hf
    obtain rfl : j = 0 := by omega
    simp only [if_true, List.modify_zero_cons, List.map_cons, h.2, (hp e).1, (hp e).2]
   ·simp only [hka, if_false] at hf ⊢
    have hge := fidx_ge _ _ _ _ _ hf
    obtain ⟨j', rfl⟩ : ∃ j', j = j' + 1 := ⟨j - 1, by omega⟩
    simp only [List.modify_succ_cons, List.map_cons, h.1]
    rw [ih (i := i + 1) (j := j') (x := x) h.2 (by rw [hf]; congr 2; omega) hp]
theorem fidx_none_upd {l : KV α} {k : α} {v : Value} : ∀ {i : Nat}, fidx l k i = none → upd l k v = l ++ [(k, v)] := by
 induction l with
 | nil => intro i _; rfl
 | cons p t ih =>
  obtain ⟨a, y⟩ := p
  intro i h
  unfold fidx at h
  unfold upd
  by_cases hka : k = a
  ·simp [hka] at h
  ·simp only [hka, if_false] at h ⊢
   rw [ih h]; rfl
theorem fidx_del {es : List MapEntry} {k : α} : ∀ {l : KV α} {i j : Nat} {x : Value}, es.map (fun e => (e.key, e.val)) = l.map (fun p => (φ p.1, p.2)) →
  fidx l k i = some (i + j, x) → (es.eraseIdx j).map (fun e => (e.key, e.val)) = (del l k).map (fun p => (φ p.1, p.2)) := by
 induction es with
 | nil => intro l i j x h hf; cases l with
  | nil => simp [fidx] at hf
  | cons p t => simp at h
 | cons e r ih =>
  intro l i j x h hf
  cases l with
  | nil => simp at h
  | cons p t =>
   obtain ⟨a, y⟩ := p
   simp only [List.map_cons, List.cons.injEq, Prod.mk.injEq] at h
   unfold fidx at hf
   unfold del
   by_cases hka : k = a
   ·subst hka
    simp only [if_true, Option.some.injEq, Prod.mk.injEq] at hf
    obtain rfl : j = 0 := by omega
    simp only [if_true, List.eraseIdx_zero, List.tail_cons, h.2]
   ·simp only [hka, if_false] at hf ⊢
    have hge := fidx_ge _ _ _ _ _ hf
    obtain ⟨j', rfl⟩ : ∃ j', j = j' + 1 := ⟨j - 1, by omega⟩
    simp only [List.eraseIdx_cons_succ, List.map_cons, h.1]
    rw [ih (i := i + 1) (j := j') (x := x) h.2 (by rw [hf]; congr 2; omega)]
theorem fidx_none_del {l : KV α} {k : α} : ∀ {i : Nat}, fidx l k i = none → del l k = l := by
 induction l with
 | nil => intro i _; rfl
 | cons p t ih =>
  obtain ⟨a, y⟩ := p
  intro i h
  unfold fidx at h
  unfold del
  by_cases hka : k = a
  ·simp [hka] at h
  ·simp only [hka, if_false] at h ⊢
   rw [ih h]
theorem run_mapUpdate_kv {T K E : TypeId} (hT : P.underlying T = some (.map K E)) (hK : KeyEmb P K φ)
    (hb : w.heap[r]? = some (.map es clock)) (hl : MapG φ es clock l) (k : α) (v : Value) :
    ∃ es' clock', (Instr.mapUpdate T (.map (some r)) (φ k) v).run P w = .ok () (setBlock w r (.map es' clock')) ∧ MapG φ es' clock' (upd l k v) := by
  simp only [Instr.mapUpdate, Sem.run_bind, run_underlying hT, Result.andThen_ok, MapKept.run_getObj_map hb, hK.check, (hK.find _ l k _ hl.nodup hl.ent)]
  cases hf : fidx l k 0 with
  | none =>
    refine ⟨es.push { key := φ k, val := v, born := clock }, clock + 1, by simp [MapKept.run_setObj_map _ hb, setBlock], ?_⟩
    refine ⟨?_, nodup_upd hl.nodup k v, ?_, ?_⟩
    · rw [fidx_none_upd hf]; simp [hl.ent]
    · simp only [Array.toList_push, List.map_append, List.map_cons, List.map_nil]
      rw [List.nodup_append]
      refine ⟨hl.born, by simp, ?_⟩
      intro a ha b hb
      simp at hb; subst hb
      obtain ⟨e, he, rfl⟩ := List.mem_map.1 ha
      have := hl.clock e he; omega
    · intro e he
      simp only [Array.toList_push, List.mem_append, List.mem_singleton] at he
      rcases he with he | rfl
      · have := hl.clock e he; omega
      · simp
  | some p =>
    obtain ⟨i, x⟩ := p
    have hi := fidx_ge _ _ _ _ _ hf
    have hlen := hl.size
    have hilt : i < es.size := by omega
    have hkey : (es[i]?).map (·.key) = some (φ k) := by
      have h1 : (es.toList.map (fun e => (e.key, e.val)))[i]? = (l.map fun p => (φ p.1, p.2))[i]? := by rw [hl.ent]
      have h2 : l[i]? = some (k, x) := by
        have key : ∀ (l : KV α) (i j : Nat), fidx l k i = some (i + j, x) → l[j]? = some (k, x) := by
          intro l
          induction l with
          | nil => intro i j h; simp [fidx] at h
          | cons p t ih =>
            obtain ⟨a, y⟩ := p
            intro i j h
            unfold fidx at h
            by_cases hka : k = a
            · subst hka
              simp only [if_true, Option.some.injEq, Prod.mk.injEq] at h
              obtain rfl : j = 0 := by omega
              obtain rfl := h.2; rfl
            · simp only [hka, if_false] at h
              have hge := fidx_ge _ _ _ _ _ h
              obtain ⟨j', rfl⟩ : ∃ j', j = j' + 1 := ⟨j - 1, by omega⟩
              simpa using ih (i + 1) j' (by rw [h]; congr 2; omega)
        exact key l 0 i (by simpa using hf)
      simp only [List.getElem?_map, h2, Option.map_some, Array.getElem?_toList] at h1
      cases he : es[i]? with
      | none => simp [he] at h1
      | some e => simp [he] at h1; simp [h1.1]
    have hstay : ∀ w : World, (Instr.keyThatStays (φ k) (φ k)).run P w = .ok (φ k) w := hK.stays k
    refine ⟨es.modify i fun e => { e with key := φ k, val := v }, clock, ?_, ?_⟩
    · simp only [hkey, Option.getD_some, Sem.run_bind, hstay, Result.andThen_ok, MapKept.run_setObj_map _ hb]; rfl
    · refine ⟨?_, nodup_upd hl.nodup k v, ?_, ?_⟩
      · rw [Array.toList_modify]
        exact fidx_upd (i := 0) (j := i) (x := x) hl.ent (by simpa using hf) (fun e => ⟨rfl, rfl⟩)
      · rw [Array.toList_modify]
        have : ∀ (es : List MapEntry) i, (es.modify i fun e => { e with key := φ k, val := v }).map (·.born) = es.map (·.born) := by
          intro es
          induction es with
          | nil => intro i; simp
          | cons e r ih => intro i; cases i <;> simp [ih]
        rw [this]; exact hl.born
      · intro e he
        rw [Array.toList_modify] at he
        have : ∀ (es : List MapEntry) i, e ∈ (es.modify i fun e => { e with key := φ k, val := v }) → ∃ e' ∈ es, e'.born = e.born := by
          intro es
          induction es with
          | nil => intro i h; simp at h
          | cons e0 r ih =>
            intro i h
            cases i with
            | zero => simp at h; rcases h with rfl | h
                      · exact ⟨e0, by simp, rfl⟩
                      · exact ⟨e, by simp [h], rfl⟩
            | succ i =>
              simp at h
              rcases h with rfl | h
              · exact ⟨e, by simp, rfl⟩
              · obtain ⟨e', h1, h2⟩ := ih i h; exact ⟨e', by simp [h1], h2⟩
        obtain ⟨e', h1, h2⟩ := this _ _ he
        have := hl.clock e' h1; omega
theorem run_delete_kv {T K E : TypeId} (hT : P.underlying T = some (.map K E)) (hK : KeyEmb P K φ)
  (hb : w.heap[r]? = some (.map es clock)) (hl : MapG φ es clock l) (k : α) :
  ∃ es' clock', (∀ ty, (Builtin.delete_ #[T, K] ty #[.map (some r), φ k]).run P w = .ok (.tuple #[]) (setBlock w r (.map es' clock'))) ∧ MapG φ es' clock' (del l k) := by
 cases hf : fidx l k 0 with
 | none =>
  refine ⟨es, clock, ?_, ?_⟩
  ·intro ty; simp [Builtin.delete_, run_underlying hT, MapKept.run_getObj_map hb, hK.check, (hK.find _ l k _ hl.nodup hl.ent), hf, MapKept.run_setObj_map _ hb, setBlock]
  ·rw [fidx_none_del hf]; exact hl
 | some p =>
  obtain ⟨i, x⟩ := p
  have hi := fidx_ge _ _ _ _ _ hf
  have hlen := hl.size
  refine ⟨es.eraseIdxIfInBounds i, clock, ?_, ?_⟩
  ·intro ty; simp [Builtin.delete_, run_underlying hT, MapKept.run_getObj_map hb, hK.check, (hK.find _ l k _ hl.nodup hl.ent), hf, MapKept.run_setObj_map _ hb, setBlock]
  ·have he : (es.eraseIdxIfInBounds i).toList = es.toList.eraseIdx i := by
    rw [Array.eraseIdxIfInBounds]; rw [dif_pos (by omega)]; simp
   refine ⟨?_, nodup_del hl.nodup k, ?_, ?_⟩
   ·rw [he]; exact fidx_del (i := 0) (j := i) (x := x) hl.ent (by simpa using hf)
   ·rw [he]
    exact ((List.eraseIdx_sublist es.toList i).map _).nodup hl.born
   ·intro e h; rw [he] at h; exact hl.clock e ((List.eraseIdx_sublist es.toList i).mem h)
end
section
variable {α : Type} [DecidableEq α]
theorem fidx_none_iff {l : KV α} {k : α} : ∀ {i : Nat}, fidx l k i = none ↔ k ∉ l.map (·.1) := by
 induction l with
 | nil => intro i; simp [fidx]
 | cons p r ih =>
  obtain ⟨a, v⟩ := p
  intro i
  unfold fidx
  by_cases h : k = a
  ·subst h; simp
  ·rw [if_neg h, ih]; simp [h]
theorem fidx_at {k : α} {v : Value} : ∀ {l : KV α} {i j : Nat}, (l.map (·.1)).Nodup → l[j]? = some (k, v) → fidx l k i = some (i + j, v)
 | [], i, j, _, h => by simp at h
 | (a, x) :: r, i, 0, _, h => by
  simp at h
  obtain ⟨rfl, rfl⟩ := h
  unfold fidx; rw [if_pos rfl]; rfl
 | (a, x) :: r, i, j + 1, hn, h => by
  simp only [List.getElem?_cons_succ] at h
  simp only [List.map_cons, List.nodup_cons] at hn
  have hm : k ∈ r.map (·.1) := List.mem_map.2 ⟨_, List.mem_of_getElem? h, rfl⟩
  have hne : k ≠ a := fun e => hn.1 (e ▸ hm)
  unfold fidx
  rw [if_neg hne, fidx_at hn.2 h]
  congr 2; omega
open Go.ChangeShapes Go.WideShapes Go.MapKept Go.WideMaps in
theorem emb_of_law {P : Program} {K : TypeId} {φ : α → Value} (hL : KeyLaw P K) (hinj : ∀ a b, φ a = φ b → a = b) (hkey : ∀ x, ∃ l, keyOf P K (φ x) = some l) : KeyEmb P K φ := by
 refine ⟨fun b x w => ?_, fun es l k w hn he => ?_, fun k w => ?_⟩
 ·obtain ⟨l, hl⟩ := hkey x
  exact hL.check w b hl
 ·obtain ⟨lx, hlx⟩ := hkey k
  have hall : ∀ e ∈ es, ∃ l', keyOf P K e.key = some l' := fun e h => by
   have : (e.key, e.val) ∈ es.map (fun e => (e.key, e.val)) := List.mem_map.2 ⟨e, h, rfl⟩
   rw [he] at this
   obtain ⟨p, _, hp⟩ := List.mem_map.1 this
   simp only [Prod.mk.injEq] at hp
   rw [← hp.1]; exact hkey p.1
  rcases hL.find w hlx es hall with ⟨h1, h2⟩ | ⟨j, e, h1, h2, h3⟩
  ·rw [h1]
   have : fidx l k 0 = none := fidx_none_iff.2 fun hm => by
    obtain ⟨p, hp, rfl⟩ := List.mem_map.1 hm
    have : (φ p.1, p.2) ∈ l.map (fun p => (φ p.1, p.2)) := List.mem_map.2 ⟨p, hp, rfl⟩
    rw [← he] at this
    obtain ⟨e, he1, he2⟩ := List.mem_map.1 this
    simp only [Prod.mk.injEq] at he2
    exact h2 e he1 he2.1
   rw [this]
  ·have hj : (es.map (fun e => (e.key, e.val)))[j]? = some (e.key, e.val) := by rw [List.getElem?_map, h2]; rfl
   rw [he, List.getElem?_map] at hj
   cases hl : l[j]? with
   | none => rw [hl] at hj; simp at hj
   | some p =>
    rw [hl] at hj
    simp only [Option.map_some, Option.some.injEq, Prod.mk.injEq] at hj
    have hk : p.1 = k := hinj _ _ (hj.1.trans h3)
    rw [h1, fidx_at (i := 0) (j := j) (v := p.2) hn (by rw [hl, ← hk]), Nat.zero_add, hj.2]
 ·obtain ⟨l, hl⟩ := hkey k
  exact hL.stays w hl
end
end Go.Key
end
