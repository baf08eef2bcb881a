/- Rows that a call has made: an assertion, and what append does to it. -/
import Derived.Test.YtbegomjbakidmaaSl
import Derived.Test.YtbegomjbakidmaaOp
namespace Go.Sl
open Go Go.RowKit

/-- The slice v of n elements of size sz has a block of its own, whose first cells are xs; or v is nil. -/
def ownAt (T : TypeId) (sz : Nat) (v : Value) (n : Nat) (xs : List Value) : HProp :=
  ex fun g : Nat => ex fun cap : Nat => ex fun cur : Array Value => ⟨fun h => (v = .slice none 0 0 ∧ n = 0 ∧ xs = [] ∧ h = fun _ => none) ∨
    ((v = .slice (some ⟨g, 0, none⟩) n cap ∧ n ≤ cap ∧ cap ≤ maxLen ∧ cur.size = cap * sz ∧ cur.toList.take (n * sz) = xs ∧ xs.length = n * sz) ∧ (pts g (.cells cur T (0, 0))).holds h)⟩

section
variable {w : World} {T : TypeId} {sz n : Nat} {v : Value} {xs : List Value} {F : HProp}
theorem ownAt_iff : Sat w (ownAt T sz v n xs * F) ↔ (v = .slice none 0 0 ∧ n = 0 ∧ xs = [] ∧ Sat w F) ∨
    ∃ g cap cur, (v = .slice (some ⟨g, 0, none⟩) n cap ∧ n ≤ cap ∧ cap ≤ maxLen ∧ cur.size = cap * sz ∧ cur.toList.take (n * sz) = xs ∧ xs.length = n * sz) ∧ Sat w (pts g (.cells cur T (0, 0)) * F) := by
  unfold ownAt
  simp only [Sat.ex]
  constructor
  · rintro ⟨g, cap, cur, x, ⟨a, b, ha, hb, hd, rfl⟩, hk⟩
    rcases ha with ⟨h1, h2, h3, rfl⟩ | ⟨h1, h2⟩
    · refine .inl ⟨h1, h2, h3, b, hb, fun k o hko => hk k o ?_⟩
      simp [un, hko]
    · exact .inr ⟨g, cap, cur, h1, _, ⟨a, b, h2, hb, hd, rfl⟩, hk⟩
  · rintro (⟨h1, h2, h3, x, hx, hk⟩ | ⟨g, cap, cur, h1, x, ⟨a, b, ha, hb, hd, rfl⟩, hk⟩)
    · refine ⟨0, 0, #[], x, ⟨fun _ => none, x, .inl ⟨h1, h2, h3, rfl⟩, hx, fun k => .inl rfl, ?_⟩, hk⟩
      funext k; simp [un]
    · exact ⟨g, cap, cur, _, ⟨a, b, .inr ⟨h1, ha⟩, hb, hd, rfl⟩, hk⟩
theorem ownAt_nil : Sat w (ownAt T sz (.slice none 0 0) 0 [] * F) ↔ Sat w F := by
  rw [ownAt_iff]
  constructor
  · rintro (⟨_, _, _, h⟩ | ⟨g, cap, cur, ⟨h1, _⟩, _⟩)
    · exact h
    · simp at h1
  · exact fun h => .inl ⟨rfl, rfl, rfl, h⟩
theorem ownAt_slice (h : Sat w (ownAt T sz v n xs * F)) : ∃ ao cap, v = .slice ao n cap := by
  rcases ownAt_iff.1 h with ⟨rfl, rfl, _⟩ | ⟨g, cap, cur, ⟨rfl, _⟩, _⟩
  · exact ⟨_, _, rfl⟩
  · exact ⟨_, _, rfl⟩
theorem ownAt_len (h : Sat w (ownAt T sz v n xs * F)) : xs.length = n * sz := by
  rcases ownAt_iff.1 h with ⟨_, rfl, rfl, _⟩ | ⟨g, cap, cur, ⟨_, _, _, _, _, h⟩, _⟩
  · simp
  · exact h
theorem ownAt_max (h : Sat w (ownAt T sz v n xs * F)) : n ≤ maxLen := by
  rcases ownAt_iff.1 h with ⟨_, rfl, rfl, _⟩ | ⟨g, cap, cur, ⟨_, h1, h2, _⟩, _⟩
  · exact Nat.zero_le _
  · exact Nat.le_trans h1 h2
/-- The row's cells. -/
theorem ownAt_cells (h : Sat w (ownAt T sz v n xs * F)) (hn : 0 < n) : ∃ g cap, v = .slice (some ⟨g, 0, none⟩) n cap ∧ ∀ j u, xs[j]? = some u → w.cell? ⟨g, j, none⟩ = some u := by
  rcases ownAt_iff.1 h with ⟨_, rfl, rfl, _⟩ | ⟨g, cap, cur, ⟨rfl, _, _, _, rfl, _⟩, hs⟩
  · omega
  · refine ⟨g, cap, rfl, fun j u hu => ?_⟩
    rw [cells_at hs.block]
    rw [List.getElem?_take] at hu
    split at hu
    · rw [Array.getElem?_toList] at hu; exact hu
    · cases hu
/-- A row that the kit's laws speak of. -/
theorem Sat.ownRow {w' : World} {B : Nat} (hF : Sat w F) (hk : ∀ k, k < w.heap.size → w'.heap[k]? = w.heap[k]?) (hB : w.heap.size ≤ B) (h : w'.ownsRow B T sz v n xs) : Sat w' (ownAt T sz v n xs * F) := by
  obtain ⟨hl, hc⟩ := h
  rcases hc with ⟨rfl, rfl⟩ | ⟨g, cap, cur, rfl, hg, hb, h1, h2, h3, h4⟩
  · obtain rfl : xs = [] := List.eq_nil_of_length_eq_zero (by simpa using hl)
    exact ownAt_nil.2 (hF.keep hk)
  · exact ownAt_iff.2 (.inr ⟨g, cap, cur, ⟨rfl, h1, h2, h3, h4, hl⟩, hF.growAt hk (Nat.le_trans hB hg) hb⟩)
end

section
variable {P : Program} {w : World} {F : HProp}
theorem run_append_ownAt (t ty e : TypeId) (i : TypeInfo) (z : Value) (ht : P.underlying t = some (.slice e)) (hi : P.info? e = some i) (hz : i.zero = some z) (hzs : z.cells.size = i.size)
    (v : Value) (n : Nat) (xs : List Value) (h : Sat w (ownAt e i.size v n xs * F))
    (a : Addr) (m c : Nat) (news : List Value) (hl : news.length = m * i.size) (hnews : ∀ j u, news[j]? = some u → w.cell? (a.add j) = some u) (h1 : ∀ u ∈ news, u.oneCell' = true)
    (h63 : n + m ≤ maxLen) (hbytes : (n + m) * i.bytes ≤ 140737488355328) :
    ∃ v' w', (Builtin.append_ #[t, t] ty #[v, .slice (some a) m c]).run P w = .ok v' w' ∧ Same w w' ∧ Sat w' (ownAt e i.size v' (n + m) (xs ++ news) * F) := by
  have hsmall : n + m ≤ 9223372036854775807 := by simp only [maxLen] at h63; omega
  have hxl := ownAt_len h
  have hlen : (xs ++ news).length = (n + m) * i.size := by rw [List.length_append, hxl, hl, Nat.add_mul]
  have grown : ∀ (old : Nat) (F : HProp), Sat w F → 
      Sat (w.drew.alloc (.cells (xs.toArray ++ news.toArray ++ Builtin.zeroCells z.cells (grownCap w (n + m) old e - (n + m))) e))
        (ownAt e i.size (.slice (some ⟨w.heap.size, 0, none⟩) (n + m) (grownCap w (n + m) old e)) (n + m) (xs ++ news) * F) := by
    intro old F hF
    have hge := grownCap_ge w (n + m) old e
    have hcm : grownCap w (n + m) old e ≤ maxLen := grownCap_le_maxLen w (n + m) old e h63
    refine ownAt_iff.2 (.inr ⟨w.heap.size, _, _, ⟨rfl, hge, hcm, ?_, ?_, hlen⟩, hF.drew.alloc _⟩)
    · simp only [Array.size_append, List.size_toArray, size_zeroCells, hzs, hxl, hl, ← Nat.add_mul]
      congr 1
      omega
    · simp only [Array.toList_append, List.append_assoc]
      rw [← List.append_assoc, ← hlen]
      exact List.take_left
  have hsame : ∀ o, Same w (w.drew.alloc o) := fun o => ((Same.refl w).drew).alloc o
  rcases ownAt_iff.1 h with ⟨rfl, rfl, rfl, hF⟩ | ⟨g, cap, cur, ⟨rfl, hnc, hcm, hcs, htake, _⟩, hs⟩
  · by_cases hm : m = 0
    · subst hm
      have hn : news = [] := List.eq_nil_of_length_eq_zero (by simpa using hl)
      subst hn
      refine ⟨.slice none 0 0, w, ?_, Same.refl w, ownAt_nil.2 hF⟩
      simp [Builtin.append_, run_underlying ht, sizeOf, typeInfo, hi, Builtin.lenOf, Builtin.firstCells, loadCells, loadCellsFrom]
    · have hr := run_append_nil (P := P) w t ty e i z ht hi hz a m c news hl hnews (by omega) (by omega) (by have hb := hbytes; simp only [Nat.zero_add] at hb; omega)
      have hgr := grown 0 F hF
      simp only [Nat.zero_add, List.nil_append, Array.empty_append] at hgr ⊢
      exact ⟨_, _, hr, hsame _, hgr⟩
  · by_cases hroom : n + m ≤ cap
    · have hfit : n * i.size + news.length ≤ cur.size := by rw [hl, hcs, ← Nat.add_mul]; exact Nat.mul_le_mul_right _ hroom
      have hr := run_append_room (P := P) w t ty e i ht hi g n cap cur hs.block a m c news hl hnews h1 hroom hfit
      refine ⟨_, _, hr, Same.setRow (Same.refl w) _ _, ownAt_iff.2 (.inr ⟨g, cap, _, ⟨rfl, hroom, hcm, ?_, ?_, hlen⟩, hs.setRow⟩)⟩
      · simp only [List.size_toArray, List.length_append, List.length_take, List.length_drop, Array.length_toList]
        omega
      · rw [htake, ← hlen]
        exact List.take_left
    · have holds : ∀ j u, xs[j]? = some u → w.cell? ((⟨g, 0, none⟩ : Addr).add j) = some u := by
        intro j u hu
        rw [Addr.add_mid, cells_at hs.block, Nat.zero_add]
        rw [← htake, List.getElem?_take] at hu
        split at hu
        · rw [Array.getElem?_toList] at hu; exact hu
        · cases hu
      have hr := run_append_grow (P := P) w t ty e i z ht hi hz ⟨g, 0, none⟩ n cap xs hxl holds a m c news hl hnews (by omega) (by omega) (growslice_fits (by omega) hbytes)
      exact ⟨_, _, hr, hsame _, grown cap F hs.right⟩

theorem wpList_append_ownAt {ops : Array Oper} {rest : List Oper} {o : Oper} {a : Act} {Q : Exit → Act → World → Prop} (hg : o.guard = none) (s x : Operand) (t e : TypeId)
    (ho : o.op = .call { callee := .builtin .append, args := #[s, x], argTypes := #[t, t] }) (i : TypeInfo) (z : Value) (ht : P.underlying t = some (.slice e)) (hi : P.info? e = some i) (hz : i.zero = some z) {sz by_ : Nat} (hsz : i.size = sz) (hby : i.bytes = by_) (hzs : z.cells.size = sz)
    {v : Value} {n : Nat} {xs : List Value} (h : Sat w (ownAt e sz v n xs * F)) {ad : Addr} {m c : Nat} (news : List Value) (hs : a.eval s = v) (hx : a.eval x = .slice (some ad) m c)
    (hl : news.length = m * sz) (hnews : ∀ j u, news[j]? = some u → w.cell? (ad.add j) = some u) (h1 : ∀ u ∈ news, u.oneCell' = true) (h63 : n + m ≤ maxLen) (hbytes : (n + m) * by_ ≤ 140737488355328)
    (k : ∀ v' w', Hid (Same w w' ∧ Sat w' (ownAt e sz v' (n + m) (xs ++ news) * F)) → wpList P ops Q rest (a.put o.dst v') w') : wpList P ops Q (o :: rest) a w := by
  subst hsz hby
  obtain ⟨v', w', hr, h2, h3⟩ := run_append_ownAt (P := P) t o.type e i z ht hi hz hzs v n xs h ad m c news hl hnews h1 h63 hbytes
  refine wpList_run hg (v := v') (w' := w') ?_ (k v' w' ⟨h2, h3⟩)
  unfold execOp
  simp only [ho, resolve, invoke, builtin, Sem.run_bind, Sem.run_pure, Result.andThen_ok, List.map_toArray, List.map_cons, List.map_nil, hs, hx, hr]
end
end Go.Sl
