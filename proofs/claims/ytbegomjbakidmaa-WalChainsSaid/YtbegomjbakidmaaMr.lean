/- Ranging over a map with integer keys that the round does not change. It speaks of no program. -/
import Derived.Test.YtbegomjbakidmaaMp
namespace Go.Sl
open Go Go.RowKit Go.ChangeMaps

section
variable {P : Program} {w : World} {r m clock : Nat} {es : Array MapEntry} {l : KV} {seen : Array Nat}

theorem run_range_kv {T K E : TypeId} (hT : P.underlying T = some (.map K E)) (hm : w.heap[m]? = some (.map es clock)) :
    (Instr.range T (.map (some m))).run P w = .ok (.pointer (some ⟨w.heap.size, 0, none⟩)) (w.alloc (.mapIter (some m) clock #[] clock)) := by
  simp [Instr.range, run_underlying hT, MapKept.run_getObj_map hm]

theorem run_getObj_iter {c : Nat} (hr : w.heap[r]? = some (.mapIter (some m) clock seen c)) : (getObj r).run P w = .ok (.mapIter (some m) clock seen c) w := by simp [getObj, Sem.run, hr]
theorem run_setObj_iter {c : Nat} (o : Obj) (hr : w.heap[r]? = some (.mapIter (some m) clock seen c)) : (setObj r o).run P w = .ok () (setBlock w r o) := by simp [setObj, Sem.run, hr, setBlock]

/-- One step of the iterator: nothing is left, or some entry comes that has not come before. -/
theorem run_next_kv (hr : w.heap[r]? = some (.mapIter (some m) clock seen clock)) (hm : w.heap[m]? = some (.map es clock)) (hM : MapL es clock l) :
    ((∀ e ∈ es.toList, e.born ∈ seen.toList) ∧ ∃ w', (∀ T, (Instr.next (.pointer (some ⟨r, 0, none⟩)) false T).run P w = .ok (.tuple #[.bool false]) w') ∧ (w' = w ∨ w' = w.drew)) ∨
    (∃ e ∈ es.toList, e.born ∉ seen.toList ∧ ∃ w0, (w0 = w ∨ w0 = w.drew) ∧
      ∀ T, (Instr.next (.pointer (some ⟨r, 0, none⟩)) false T).run P w = .ok (.tuple #[.bool true, e.key, e.val]) (setBlock w0 r (.mapIter (some m) clock (seen.push e.born) clock))) := by
  have hbad : (!seen.isEmpty && !es.isEmpty && es.all (·.born ≥ clock)) = false := by
    by_cases he : es.isEmpty = true
    · simp [he]
    · have hne : es.toList ≠ [] := by intro h; apply he; simp at h; simp [h]
      obtain ⟨e, t, het⟩ := List.exists_cons_of_ne_nil hne
      have hall : es.all (·.born ≥ clock) = false := by
        rw [← Array.all_toList, het]
        have := hM.clock e (by rw [het]; simp)
        simp; omega
      simp [hall]
  have hnew : (es.filter fun e => !seen.contains e.born).filter (·.born ≥ clock) = #[] := by
    apply Array.eq_empty_of_size_eq_zero
    rw [← Array.length_toList, List.length_eq_zero_iff]
    rw [Array.toList_filter, List.filter_eq_nil_iff]
    intro e he
    rw [Array.toList_filter, List.mem_filter] at he
    have := hM.clock e he.1
    simp; omega
  have hold : (es.filter fun e => !seen.contains e.born).filter (·.born < clock) = es.filter fun e => !seen.contains e.born := by
    apply Array.ext'
    rw [Array.toList_filter, List.filter_eq_self]
    intro e he
    rw [Array.toList_filter, List.mem_filter] at he
    have := hM.clock e he.1
    simpa using this
  obtain ⟨left, hleft⟩ : ∃ left : Array MapEntry, (es.filter fun e => !seen.contains e.born) = left := ⟨_, rfl⟩
  rw [hleft] at hold hnew
  have hstart : ∀ T, (Instr.next (.pointer (some ⟨r, 0, none⟩)) false T).run P w =
      ((choose (.mapNext ((if left.isEmpty then #[none] else #[]) ++ (left ++ #[]).map some).size)).run P w).andThen fun c w' =>
        (match ((if left.isEmpty then #[none] else #[]) ++ (left ++ #[]).map some)[c]? with
          | some (some e) => (do setObj r (.mapIter (some m) clock (seen.push e.born) clock); pure (.tuple #[.bool true, e.key, e.val]) : Sem Value)
          | some none => pure (.tuple #[.bool false])
          | none => stuck "Next: no such candidate").run P w' := by
    intro T
    simp only [Instr.next, Sem.run_bind, run_getObj_iter hr, Result.andThen_ok, MapKept.run_getObj_map hm, hbad, Bool.false_eq_true, if_false, hleft, hold, hnew]
    rfl
  have hchoose : ∀ n, ∃ c w', (choose (.mapNext n)).run P w = .ok c w' ∧ (w' = w ∨ w' = w.drew) ∧ (0 < n → c < n) ∧ (n = 0 → c = 0) := by
    intro n
    by_cases hn : n ≤ 1
    · refine ⟨0, w, by simp [choose, Sem.run, Question.forced, hn], .inl rfl, fun h => h, fun _ => rfl⟩
    · refine ⟨_, w.drew, by simp [choose, Sem.run, Question.forced, hn, Question.cut]; rfl, .inr rfl, fun _ => Nat.mod_lt _ (by omega), fun h => by omega⟩
  by_cases hl : left.isEmpty = true
  · left
    have hle : left = #[] := by simpa using hl
    subst hle
    refine ⟨?_, ?_⟩
    · intro e he
      have h1 := congrArg Array.toList hleft
      rw [Array.toList_filter] at h1
      simp only [List.filter_eq_nil_iff] at h1
      have := h1 e he
      simpa using this
    · obtain ⟨c, w', hc, hw, hlt, _⟩ := hchoose 1
      have h1 := hlt (by omega)
      obtain rfl : c = 0 := by omega
      refine ⟨w', ?_, hw⟩
      intro T
      have e1 : (((if (#[] : Array MapEntry).isEmpty then #[none] else #[]) ++ ((#[] : Array MapEntry) ++ #[]).map some) : Array (Option MapEntry)) = #[none] := by simp
      rw [hstart T, e1]
      show ((choose (.mapNext 1)).run P w).andThen _ = _
      rw [hc]
      rfl
  · right
    have hpos : 0 < left.size := by
      rcases Nat.eq_zero_or_pos left.size with h | h
      · exact absurd (by simpa using h) hl
      · exact h
    obtain ⟨c, w', hc, hw, hlt, _⟩ := hchoose left.size
    have hcl := hlt hpos
    have hsub : ∀ x ∈ left.toList, x ∈ es.toList ∧ x.born ∉ seen.toList := by
      rw [← hleft]
      intro x hx
      rw [Array.toList_filter, List.mem_filter] at hx
      exact ⟨hx.1, by simpa using hx.2⟩
    have hmem := hsub left[c] (by simp)
    have hr' : w'.heap[r]? = some (.mapIter (some m) clock seen clock) := by rcases hw with rfl | rfl <;> exact hr
    refine ⟨left[c], hmem.1, hmem.2, w', hw, ?_⟩
    intro T
    rw [hstart T]
    have hfl : left.isEmpty = false := by simpa using hl
    simp only [hfl, Bool.false_eq_true, if_false, Array.append_empty, Array.empty_append, Array.size_map, hc, Result.andThen_ok, Array.getElem?_map, Array.getElem?_eq_getElem hcl, Option.map_some]
    simp [run_setObj_iter _ hr']

/-- The entry that came last. -/
theorem run_entry_kv (hr : w.heap[r]? = some (.mapIter (some m) clock seen clock)) (hm : w.heap[m]? = some (.map es clock)) (hM : MapL es clock l) {e : MapEntry} (he : e ∈ es.toList) (hs : seen.back? = some e.born) :
    (Instr.entry (.pointer (some ⟨r, 0, none⟩))).run P w = .ok (.tuple #[e.key, e.val]) w := by
  have hf : es.find? (fun x => x.born == e.born) = some e := by
    rw [← Array.find?_toList]
    have key : ∀ (L : List MapEntry), (L.map (·.born)).Nodup → e ∈ L → L.find? (fun x => x.born == e.born) = some e := by
      intro L
      induction L with
      | nil => intro _ h; simp at h
      | cons a t ih =>
        intro hn hin
        simp only [List.map_cons, List.nodup_cons] at hn
        rw [List.find?_cons]
        by_cases hab : a.born = e.born
        · simp only [hab, beq_self_eq_true]
          rcases List.mem_cons.1 hin with rfl | h
          · rfl
          · exact absurd (hab ▸ List.mem_map_of_mem h) hn.1
        · have : (a.born == e.born) = false := by simp [hab]
          rw [this]
          rcases List.mem_cons.1 hin with rfl | h
          · exact absurd rfl hab
          · exact ih hn.2 h
    exact key _ hM.born he
  simp [Instr.entry, run_getObj_iter hr, MapKept.run_getObj_map hm, hs, hf]
end
end Go.Sl
