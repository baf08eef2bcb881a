/- Appending a string, or zeros, to bytes of one's own; sector.Seal. -/
import Derived.Test.YtbegomjbakidmaaGa
import Derived.Lib.AppendStr
import Derived.Lib.AppendZerosOnto
namespace Go.Proofs.Ytbegomjbakidmaa
open Go.RowKit Go.Sl Go.ChangeMaps

theorem secL_length (l : List UInt8) : (secL l).length = l.length := by simp [secL]
theorem strCells_strB (l : List UInt8) : Lib.strCells (strB l) = secL l := by
  simp [Lib.strCells, strB, secL, byteV]
theorem own_fresh {w : World} {F : HProp} (l : List UInt8) (c : Array Value) (hc : c.toList = secL l) (hl : l.length ≤ maxLen) (hF : Sat w F) : Sat (w.alloc (.cells c TByte)) (ownB (.slice (some ⟨w.heap.size, 0, none⟩) l.length l.length) l * F) := by
  have h1 : c.size = l.length := by rw [← Array.length_toList, hc, secL_length]
  refine ownAt_iff.2 (.inr ⟨w.heap.size, l.length, c, ⟨rfl, Nat.le_refl _, hl, by omega, ?_, by rw [secL_length]; omega⟩, hF.alloc _⟩)
  rw [hc, List.take_of_length_le (by rw [secL_length]; omega)]
theorem zero_u8 (n : Nat) : (Builtin.zeroCells (Value.int .u8 0).cells n).toList = List.replicate n (.int .u8 0) := by
  have h : (Value.int .u8 0).cells = #[Value.int .u8 0] := rfl
  rw [h]
  unfold Builtin.zeroCells
  apply List.ext_getElem?
  intro j
  simp [Nat.mod_one, List.getElem?_replicate]
  split <;> simp_all
section
variable {w : World} {F : HProp} {v : Value} {l : List UInt8}
theorem ownB_iff (h0 : 0 < l.length) : Sat w (ownB v l * F) → ∃ g cap cur, v = .slice (some ⟨g, 0, none⟩) l.length cap ∧ l.length ≤ cap ∧ cap ≤ maxLen ∧ cur.size = cap ∧ cur.toList.take l.length = secL l ∧ Sat w (pts g (.cells cur TByte (0, 0)) * F) := by
  intro h
  rcases ownAt_iff.1 h with ⟨_, h2, _⟩ | ⟨g, cap, cur, ⟨h1, h2, h3, h4, h5, _⟩, hs⟩
  · omega
  · exact ⟨g, cap, cur, h1, h2, h3, by omega, by rw [Nat.mul_one] at h5; exact h5, hs⟩
theorem ownB_olds {g : Nat} {cur : Array Value} (ht : cur.toList.take l.length = secL l) (hb : w.heap[g]? = some (.cells cur TByte (0, 0))) : ∀ j u, (secL l)[j]? = some u → w.cell? ((⟨g, 0, none⟩ : Addr).add j) = some u := by
  intro j u hu
  rw [Addr.add_mid, cells_at hb, Nat.zero_add]
  rw [← ht, List.getElem?_take] at hu
  split at hu
  · rw [Array.getElem?_toList] at hu; exact hu
  · cases hu
theorem own_grown (m : List UInt8) (old : Nat) (hF : Sat w F) (h63 : l.length + m.length ≤ maxLen) (c : Array Value) (k : Nat) (hk : k = grownCap w (l.length + m.length) old TByte) (hc : c.toList = secL l ++ secL m ++ List.replicate (k - (l.length + m.length)) (.int .u8 0)) :
    Sat (w.drew.alloc (.cells c TByte)) (ownB (.slice (some ⟨w.heap.size, 0, none⟩) (l.length + m.length) k) (l ++ m) * F) := by
  have hge := grownCap_ge w (l.length + m.length) old TByte
  have hcm : grownCap w (l.length + m.length) old TByte ≤ maxLen := grownCap_le_maxLen w (l.length + m.length) old TByte h63
  rw [← hk] at hge hcm
  have e : (l ++ m).length = l.length + m.length := List.length_append
  have e2 : secL (l ++ m) = secL l ++ secL m := by simp [secL]
  unfold ownB
  rw [e, e2]
  refine ownAt_iff.2 (.inr ⟨w.heap.size, k, c, ⟨rfl, hge, hcm, ?_, ?_, by rw [List.length_append, secL_length, secL_length, Nat.mul_one]⟩, hF.drew.alloc _⟩)
  · rw [← Array.length_toList, hc]
    simp only [List.length_append, secL_length, List.length_replicate]
    omega
  · rw [hc, List.take_left' (by rw [List.length_append, secL_length, secL_length, Nat.mul_one])]
theorem own_room (m : List UInt8) {g cap : Nat} {cur : Array Value} (ht : cur.toList.take l.length = secL l) (hsz : cur.size = cap) (hcm : cap ≤ maxLen) (hr : l.length + m.length ≤ cap) (hs : Sat w (pts g (.cells cur TByte (0, 0)) * F)) (c : Array Value) (hc : c.toList = cur.toList.take l.length ++ secL m ++ cur.toList.drop (l.length + m.length)) :
    Sat (w.setRow g c) (ownB (.slice (some ⟨g, 0, none⟩) (l.length + m.length) cap) (l ++ m) * F) := by
  have e : (l ++ m).length = l.length + m.length := List.length_append
  have e2 : secL (l ++ m) = secL l ++ secL m := by simp [secL]
  have hlen : cur.toList.length = cap := by rw [Array.length_toList]; exact hsz
  unfold ownB
  rw [e, e2]
  refine ownAt_iff.2 (.inr ⟨g, cap, c, ⟨rfl, hr, hcm, ?_, ?_, by rw [List.length_append, secL_length, secL_length, Nat.mul_one]⟩, hs.setRow⟩)
  · rw [← Array.length_toList, hc]
    simp only [List.length_append, List.length_take, List.length_drop, secL_length]
    omega
  · rw [hc, ht, List.take_left' (by rw [List.length_append, secL_length, secL_length, Nat.mul_one])]
theorem run_append_str (h0 : 0 < l.length) (h : Sat w (ownB v l * F)) (m : List UInt8) (hs : l.length + m.length ≤ 1000000) (ty : TypeId) :
    ∃ v' w', (Builtin.append_ #[95, 9] ty #[v, .string (strB m)]).run Try.prog w = .ok v' w' ∧ Same w w' ∧ Sat w' (ownB v' (l ++ m) * F) := by
  obtain ⟨i, hi, hz, hsz, hby⟩ := info_parts infoB3
  obtain ⟨g, cap, cur, rfl, hn, hcm, hcs, ht, hS⟩ := ownB_iff h0 h
  have hms : (strB m).size = m.length := strB_size m
  have hsc := strCells_strB m
  by_cases hr : l.length + m.length ≤ cap
  · have hrun := Lib.run_append_room_string (P := Try.prog) w 95 9 ty TByte i Try.underlying95 Try.underlying9 hi hsz g l.length cap cur hS.block (strB m) (by rw [hms]; exact hr) (by rw [hms, hcs]; exact hr)
    rw [hms, hsc] at hrun
    exact ⟨_, _, hrun, Same.setRow (Same.refl w) _ _, own_room m ht hcs hcm hr hS _ (by simp)⟩
  · have hrun := Lib.run_append_grow_string (P := Try.prog) w 95 9 ty TByte i _ Try.underlying95 Try.underlying9 hi hz ⟨g, 0, none⟩ l.length cap (secL l) (by rw [secL_length, hsz]; omega) (ownB_olds ht hS.block) (strB m) (by rw [hms]; omega) (by rw [hms]; omega) (by rw [hms]; exact growslice_fits (by omega) (by rw [hby]; omega))
    rw [hms, hsc] at hrun
    exact ⟨_, _, hrun, ((Same.refl w).drew).alloc _, own_grown m cap hS.right (by unfold maxLen; omega) _ _ rfl (by
      simp only [Array.toList_append, List.append_assoc]
      rw [zero_u8])⟩
theorem run_append_zeros (h0 : 0 < l.length) (h : Sat w (ownB v l * F)) (m : Nat) (hs : l.length + m ≤ 1000000) (ty : TypeId) :
    ∃ v' w', (Builtin.append_ #[95, 3] ty #[v, .int .i64 (m : Int)]).run Try.prog w = .ok v' w' ∧ Same w w' ∧ Sat w' (ownB v' (l ++ zerosL m) * F) := by
  obtain ⟨i, hi, hz, hsz, hby⟩ := info_parts infoB3
  obtain ⟨g, cap, cur, rfl, hn, hcm, hcs, ht, hS⟩ := ownB_iff h0 h
  have hzl : (zerosL m).length = m := by simp [zerosL]
  by_cases hr : l.length + m ≤ cap
  · have hst := run_storeCells_at Try.prog g l.length TByte (secL (zerosL m)) 0 cur w hS.block (by rw [secL_length, hzl, hcs]; omega) (fun u hu => by
      obtain ⟨x, _, rfl⟩ := List.mem_map.1 hu
      rfl)
    have hz0 : secL (zerosL m) = List.replicate m (.int .u8 0) := by simp [secL, zerosL, byteV]
    have hw : IntKind.i64.wrap (m : Int) = m := by rw [IntKind.wrap_i64]; omega
    have hneg : ¬ ((m : Int) < 0) := by omega
    have h48 : ¬ (281474976710656 < (m : Int)) := by omega
    have hzc : (if m = 0 then #[] else Builtin.zeroCells (Value.int .u8 0).cells m) = (List.replicate m (.int .u8 0)).toArray := by
      apply Array.ext'
      split
      · next h => subst h; rfl
      · rw [zero_u8]
    have hrun : (Builtin.append_ #[95, 3] ty #[.slice (some ⟨g, 0, none⟩) l.length cap, .int .i64 (m : Int)]).run Try.prog w = .ok (.slice (some ⟨g, 0, none⟩) (l.length + m) cap) (w.setRow g (cur.toList.take l.length ++ secL (zerosL m) ++ cur.toList.drop (l.length + m)).toArray) := by
      have hst' : (storeCells ⟨g, l.length, none⟩ (List.replicate m (.int .u8 0)) 0).run Try.prog w = .ok () (w.setRow g (cur.toList.take l.length ++ secL (zerosL m) ++ cur.toList.drop (l.length + m)).toArray) := by
        rw [hz0] at hst ⊢
        simpa using hst
      by_cases hm : m = 0
      · subst hm
        have hw0 : IntKind.i64.wrap 0 = 0 := by decide
        simp [Builtin.append_, run_underlying Try.underlying95, run_underlying Try.underlying3, sizeOf, typeInfo, hi, hsz, asInt, asIntOf, hn, hw0, Addr.add_lit] at hst' ⊢
        first | done | simp [hst']
      · simp [Builtin.append_, run_underlying Try.underlying95, run_underlying Try.underlying3, sizeOf, typeInfo, zeroValue, hi, hz, hsz, hby, asInt, asIntOf, hw, hneg, h48, hr, hm, Addr.add_lit, zero_u8]
        simp [hst']
    exact ⟨_, _, hrun, Same.setRow (Same.refl w) _ _, by
      have := own_room (zerosL m) ht hcs hcm (by rw [hzl]; exact hr) hS (cur.toList.take l.length ++ secL (zerosL m) ++ cur.toList.drop (l.length + m)).toArray (by simp [hzl])
      rwa [hzl] at this⟩
  · have hrun := Lib.run_append_grow_zeros (P := Try.prog) w 95 3 ty TByte i _ .i64 .i64 Try.underlying95 Try.underlying3 hi hz (some ⟨g, 0, none⟩) l.length cap (secL l) (by rw [hsz]; exact run_firstCells_some w.drew 1 l.length ⟨g, 0, none⟩ l.length cap (secL l) (by rw [secL_length]; omega) (ownB_olds ht hS.drew.block)) m (by omega) (by omega) (by omega) (by omega) (by rw [hby]; omega) (growslice_fits (by omega) (by rw [hby]; omega))
    have := own_grown (l := l) (zerosL m) cap hS.right (by rw [hzl]; unfold maxLen; omega) ((secL l).toArray ++ Builtin.zeroCells (Value.int .u8 0).cells m ++ Builtin.zeroCells (Value.int .u8 0).cells (grownCap w (l.length + m) cap TByte - (l.length + m))) _ (by rw [hzl]) (by
      rw [hzl]
      simp only [Array.toList_append, zero_u8]
      simp [secL, zerosL, byteV])
    rw [hzl] at this
    exact ⟨_, _, hrun, ((Same.refl w).drew).alloc _, this⟩
end
end Go.Proofs.Ytbegomjbakidmaa
