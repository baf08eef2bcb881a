import Derived.Test.YtnilepaicnnbhaaGreatDoorJz
import Derived.Test.YtnilepaicnnbhaaGreatDoorRw
import Derived.Test.YtnilepaicnnbhaaGreatDoorRi
import Derived.RangeFuncKeeps
import Derived.RangeFuncBound
import Derived.RangeFuncLeaves
import Derived.Shelf.Abstract
import Derived.OwnWalkIn
import Derived.TacticsInMore
import Derived.LoopNIn
import Derived.LoopIn
import Derived.Sort.CutIn
import Derived.Lib.SliceRun
import Derived.Laws.EntriesVeiled
/- slices.Clone of rows of integers and of truth values; a set that grows. -/
namespace Go.Proofs.YtnilepaicnnbhaaGreatDoor
open Go.RowKit Go.GF Go.Sl
abbrev TB : TypeId := 4

theorem info_bool1 : (Tryz.prog.info? TB).map (fun i => (i.zero, i.size, i.bytes)) = some (some (.bool false), 1, 1) := by kernel_rfl
/-- A row of truth values of the call's own. -/
def OwnB (base : Nat) (w : World) (v : Value) (h : List Bool) : Prop := w.ownsRow base TB 1 v h.length (boolsV h)
/-- A row that is the call's own can be read. -/
theorem own_row {base : Nat} {w : World} {t : TypeId} {v : Value} {L : List Value} (h : w.ownsRow base t 1 v L.length L) : RowI w v L := by
  rcases h.2 with ⟨rfl, hn⟩ | ⟨g, cap, cur, rfl, hb, hg, h1, h2, h3, h4⟩
  · exact ⟨none, 0, by rw [hn], by omega, by unfold maxLen; omega, fun h => absurd h (by omega)⟩
  · refine ⟨some ⟨g, 0, none⟩, cap, rfl, h1, h2, fun _ => ⟨g, 0, rfl, (Array.getElem?_eq_some_iff.1 hg).1, fun j u hu => ?_⟩⟩
    have := World.ownsRow.cells h (g := g) rfl j u hu
    rw [show (⟨g, 0, none⟩ : Addr).add j = ⟨g, 0 + j, none⟩ from Addr.add_mid _ _ _] at this
    exact this
theorem OwnB.row {base : Nat} {w : World} {v : Value} {h : List Bool} (ho : OwnB base w v h) : RowI w v (boolsV h) := by
  have h2 : w.ownsRow base TB 1 v (boolsV h).length (boolsV h) := by rw [boolsV_len]; exact ho
  exact own_row h2
theorem boolsV_one {h : List Bool} : ∀ u ∈ boolsV h, Value.oneCell' u = true := by
  intro u hu
  unfold boolsV at hu
  obtain ⟨x, -, rfl⟩ := List.mem_map.1 hu
  rfl
/-- append onto an empty row that is new. -/
theorem run_cloneB (w : World) (h : List Bool) (b off c : Nat) (hc : ∀ j u, (boolsV h)[j]? = some u → w.cell? ⟨b, off + j, none⟩ = some u) (hn : h.length ≤ 100000) (hb : b < w.heap.size ∨ h = []) :
    ∃ v' w', (Builtin.append_ #[25, 25] 25 #[.slice (some ⟨w.heap.size, 0, none⟩) 0 0, .slice (some ⟨b, off, none⟩) h.length c]).run Tryz.prog (w.alloc (.cells #[] TB)) = .ok v' w' ∧ OwnB w.heap.size w' v' h ∧ Below w.heap.size w w' := by
  obtain ⟨i0, hi, hz0, hz1, hz2⟩ := info_parts info_bool1
  have hown : (w.alloc (.cells #[] TB)).ownsRow w.heap.size TB 1 (.slice (some ⟨w.heap.size, 0, none⟩) 0 0) 0 [] := World.ownsRow_made w #[] 0 (Nat.le_refl _) (by unfold maxLen; omega) rfl
  obtain ⟨v', w', hr, h2, h3, h4⟩ := run_append_own (P := Tryz.prog) (w.alloc (.cells #[] TB)) w.heap.size 25 25 TB i0 (.bool false) 1 1 Tryz.underlying25 hi hz0 hz1 hz2 rfl (by decide) _ 0 [] hown ⟨b, off, none⟩ h.length c (boolsV h) (by rw [boolsV_len, Nat.mul_one])
    (by
      intro j u hu
      rw [Addr.add_mid]
      rcases hb with hb | rfl
      · exact ((al_below w _).cell (p := ⟨b, off + j, none⟩) hb).trans (hc j u hu)
      · cases hu)
    boolsV_one (by unfold maxLen; omega) (by omega) (al_below w _).size
  refine ⟨v', w', hr, ?_, ?_⟩
  · have := h2
    rw [List.nil_append, Nat.zero_add] at this
    exact this
  · exact (al_below w _).trans ((Below.refl w.heap.size _).grown h3 (al_below w _).size fun k hk => (World.ownsRow.lt hown k hk).1)
theorem run_cloneI (w : World) (L : List Int) (b off c : Nat) (hc : ∀ j u, (intsV L)[j]? = some u → w.cell? ⟨b, off + j, none⟩ = some u) (hn : L.length ≤ 100000) (hb : b < w.heap.size ∨ L = []) :
    ∃ v' w', (Builtin.append_ #[26, 26] 26 #[.slice (some ⟨w.heap.size, 0, none⟩) 0 0, .slice (some ⟨b, off, none⟩) L.length c]).run Tryz.prog (w.alloc (.cells #[] TI)) = .ok v' w' ∧ OwnI w.heap.size w' v' L ∧ Below w.heap.size w w' := by
  have hown : OwnI w.heap.size (w.alloc (.cells #[] TI)) (.slice (some ⟨w.heap.size, 0, none⟩) 0 0) [] := World.ownsRow_made w #[] 0 (Nat.le_refl _) (by unfold maxLen; omega) rfl
  obtain ⟨v', w', hr, h2, h3⟩ := run_apL hown b off c L (fun j u hu => by
    rcases hb with hb | rfl
    · exact ((al_below w _).cell (p := ⟨b, off + j, none⟩) hb).trans (hc j _ (intsV_at hu))
    · cases hu) (by simpa using hn) (al_below w _).size
  rw [List.nil_append] at h2
  exact ⟨v', w', hr, h2, (al_below w _).trans h3⟩

theorem run_cloneI0 (w : World) (ad : Addr) (c : Nat) : ∃ v' w', (Builtin.append_ #[26, 26] 26 #[.slice (some ⟨w.heap.size, 0, none⟩) 0 0, .slice (some ad) ([] : List Int).length c]).run Tryz.prog (w.alloc (.cells #[] TI)) = .ok v' w' ∧ OwnI w.heap.size w' v' [] ∧ Below w.heap.size w w' := by
  obtain ⟨i0, hi, hz0, hz1, hz2⟩ := info_parts info_int3
  have hown : OwnI w.heap.size (w.alloc (.cells #[] TI)) (.slice (some ⟨w.heap.size, 0, none⟩) 0 0) [] := World.ownsRow_made w #[] 0 (Nat.le_refl _) (by unfold maxLen; omega) rfl
  obtain ⟨v', w', hr, h2, h3, h4⟩ := run_append_own (P := Tryz.prog) (w.alloc (.cells #[] TI)) w.heap.size 26 26 TI i0 (.int .i64 0) 1 8 Tryz.underlying26 hi hz0 hz1 hz2 rfl (by decide) _ 0 [] hown ad 0 c [] rfl
    (by intro j u hu; cases hu) (by intro u hu; cases hu) (by unfold maxLen; omega) (by omega) (al_below w _).size
  exact ⟨v', w', hr, h2, (al_below w _).trans ((Below.refl w.heap.size _).grown h3 (al_below w _).size fun k hk => (World.ownsRow.lt hown k hk).1)⟩
theorem run_cloneB0 (w : World) (ad : Addr) (c : Nat) : ∃ v' w', (Builtin.append_ #[25, 25] 25 #[.slice (some ⟨w.heap.size, 0, none⟩) 0 0, .slice (some ad) ([] : List Bool).length c]).run Tryz.prog (w.alloc (.cells #[] TB)) = .ok v' w' ∧ OwnB w.heap.size w' v' [] ∧ Below w.heap.size w w' := by
  obtain ⟨i0, hi, hz0, hz1, hz2⟩ := info_parts info_bool1
  have hown : (w.alloc (.cells #[] TB)).ownsRow w.heap.size TB 1 (.slice (some ⟨w.heap.size, 0, none⟩) 0 0) 0 [] := World.ownsRow_made w #[] 0 (Nat.le_refl _) (by unfold maxLen; omega) rfl
  obtain ⟨v', w', hr, h2, h3, h4⟩ := run_append_own (P := Tryz.prog) (w.alloc (.cells #[] TB)) w.heap.size 25 25 TB i0 (.bool false) 1 1 Tryz.underlying25 hi hz0 hz1 hz2 rfl (by decide) _ 0 [] hown ad 0 c [] rfl
    (by intro j u hu; cases hu) (by intro u hu; cases hu) (by unfold maxLen; omega) (by omega) (al_below w _).size
  exact ⟨v', w', hr, h2, (al_below w _).trans ((Below.refl w.heap.size _).grown h3 (al_below w _).size fun k hk => (World.ownsRow.lt hown k hk).1)⟩

set_option maxRecDepth 20000 in
set_option maxHeartbeats 1000000 in
theorem cloneB_any (v : Value) (h : List Bool) (hn : h.length ≤ 100000) (w : World) (hv : RowI w v (boolsV h)) :
    Calls Tryz.prog 41 #[v] w fun e w' => ∃ v', e = .returned v' ∧ OwnB w.heap.size w' v' h ∧ Below w.heap.size w w' := by
  obtain ⟨ao, cp, rfl, -, -, hrow⟩ := hv
  rw [boolsV_len] at *
  cases ao with
  | none =>
    have h0 : h.length = 0 := by
      rcases Nat.eq_zero_or_pos h.length with h0 | h0
      · exact h0
      · obtain ⟨b, off, hb, -⟩ := hrow h0
        cases hb
    obtain rfl : h = [] := List.eq_nil_of_length_eq_zero h0
    clear hrow h0 hn
    have hq : ∀ w, (binOp .eql 25 (.slice none 0 cp) (.slice none 0 0)).run Tryz.prog w = .ok (.bool true) w := fun w => Lib.run_eql_slice_nil w _ _ _ 0 cp 0 0 Tryz.underlying25
    go_enter Tryz.func41, Tryz.ntmps41
    go_wp2
    go_ret
    exact ⟨_, rfl, World.ownsRow_nil w _ _ _, Below.refl _ _⟩
  | some ad =>
    have HC : Hid (∃ v' w', (Builtin.append_ #[25, 25] 25 #[.slice (some ⟨w.heap.size, 0, none⟩) 0 0, .slice (some ad) h.length cp]).run Tryz.prog (w.alloc (.cells #[] TB)) = .ok v' w' ∧ OwnB w.heap.size w' v' h ∧ Below w.heap.size w w') := by
      refine Lib.hid ?_
      by_cases h0 : 0 < h.length
      · obtain ⟨b, off, hb, hl, hc⟩ := hrow h0
        cases hb
        exact run_cloneB w h b off cp hc hn (.inl hl)
      · have : h = [] := List.eq_nil_of_length_eq_zero (by omega)
        subst this
        obtain ⟨b, off, pt⟩ := ad
        exact run_cloneB0 w _ cp
    clear hrow
    have hq : ∀ w, (binOp .eql 25 (.slice (some ad) h.length cp) (.slice none 0 0)).run Tryz.prog w = .ok (.bool false) w := fun w => Lib.run_eql_slice_nil w _ _ _ h.length cp 0 0 Tryz.underlying25
    obtain ⟨v', w', hr, h2, h3⟩ := HC.out
    have HR := Lib.hid (And.intro h2 h3)
    clear h2 h3 HC
    go_enter Tryz.func41, Tryz.ntmps41
    go_wp2_with (at_builtin; refine Lib.wpList_append_run _ rfl _ _ _ _ rfl _ _ rfl rfl _ _ hr ?_)
    go_ret
    exact ⟨_, rfl, HR.out.1, HR.out.2⟩
set_option maxRecDepth 20000 in
set_option maxHeartbeats 1000000 in
theorem cloneI_any (v : Value) (h : List Int) (hn : h.length ≤ 100000) (w : World) (hv : RowI w v (intsV h)) :
    Calls Tryz.prog 51 #[v] w fun e w' => ∃ v', e = .returned v' ∧ OwnI w.heap.size w' v' h ∧ Below w.heap.size w w' := by
  obtain ⟨ao, cp, rfl, -, -, hrow⟩ := hv
  rw [intsV_len] at *
  cases ao with
  | none =>
    have h0 : h.length = 0 := by
      rcases Nat.eq_zero_or_pos h.length with h0 | h0
      · exact h0
      · obtain ⟨b, off, hb, -⟩ := hrow h0
        cases hb
    obtain rfl : h = [] := List.eq_nil_of_length_eq_zero h0
    clear hrow h0 hn
    have hq : ∀ w, (binOp .eql 26 (.slice none 0 cp) (.slice none 0 0)).run Tryz.prog w = .ok (.bool true) w := fun w => Lib.run_eql_slice_nil w _ _ _ 0 cp 0 0 Tryz.underlying26
    go_enter Tryz.func51, Tryz.ntmps51
    go_wp2
    go_ret
    exact ⟨_, rfl, World.ownsRow_nil w _ _ _, Below.refl _ _⟩
  | some ad =>
    have HC : Hid (∃ v' w', (Builtin.append_ #[26, 26] 26 #[.slice (some ⟨w.heap.size, 0, none⟩) 0 0, .slice (some ad) h.length cp]).run Tryz.prog (w.alloc (.cells #[] TI)) = .ok v' w' ∧ OwnI w.heap.size w' v' h ∧ Below w.heap.size w w') := by
      refine Lib.hid ?_
      by_cases h0 : 0 < h.length
      · obtain ⟨b, off, hb, hl, hc⟩ := hrow h0
        cases hb
        exact run_cloneI w h b off cp hc hn (.inl hl)
      · have : h = [] := List.eq_nil_of_length_eq_zero (by omega)
        subst this
        obtain ⟨b, off, pt⟩ := ad
        exact run_cloneI0 w _ cp
    clear hrow
    have hq : ∀ w, (binOp .eql 26 (.slice (some ad) h.length cp) (.slice none 0 0)).run Tryz.prog w = .ok (.bool false) w := fun w => Lib.run_eql_slice_nil w _ _ _ h.length cp 0 0 Tryz.underlying26
    obtain ⟨v', w', hr, h2, h3⟩ := HC.out
    have HR := Lib.hid (And.intro h2 h3)
    clear h2 h3 HC
    go_enter Tryz.func51, Tryz.ntmps51
    go_wp2_with (at_builtin; refine Lib.wpList_append_run _ rfl _ _ _ _ rfl _ _ rfl rfl _ _ hr ?_)
    go_ret
    exact ⟨_, rfl, HR.out.1, HR.out.2⟩
end Go.Proofs.YtnilepaicnnbhaaGreatDoor

/- distance.subsets: the sets of k elements, one after the other. -/
namespace Go.Sl
open Go Go.RowKit
section
variable {F : Fence} {n : Nat} {P : Program} {ops : Array Oper} {Q : Exit → Act → World → Prop} {S : World → Prop} {fuel : Nat} {listed : Array Bool} {t : Array Value} {df : List Deferred} {w : World}
/-- A call of the function that a range over a function lays, for which every other operation waits, or that waits for them. -/
theorem regi_roundP (hF : Free F P) (i : Nat) {o : Oper} {d l : Nat} {f : FuncId} {tmps : Array Value} {assign body : Code} {w1 : World} {R : Value → World → Prop} (ho : ops[i]? = some o) (hd : o.dst = some d) (hck : aloneOK ops listed i = true) (hp : pivB ops i = true) (hw : Region.wanted o (yielded ops t) = true)
    (hr : (execOp (Act.eval ⟨t, df⟩) o).run P w = .ok (.round l f tmps assign body) w1) (hc : RoundIn F (n - 1) P l f tmps assign body w1 fun e w' => ∃ v, e = .returned v ∧ R v w')
    (k : ∀ v w', R v w' → RegI F n P ops Q S fuel (listed.setIfInBounds i true) (t.setIfInBounds d v) df w') : RegI F n P ops Q S (fuel + 1) listed t df w :=
  regi_piv hF i ho hck hp hw (by
    rw [hr]
    refine ⟨hF.ask _, hc.mono ?_⟩
    rintro e w' ⟨v, rfl, h⟩
    simp only [hd, put_some]
    exact k v w' h)
end
theorem exec_slice_full {P : Program} {a : Act} {o : Oper} {w w' : World} {T : TypeId} {x y z : Operand} {p u1 u2 v' : Value} (ho : o.op = .slice T x none (some y) (some z)) (hx : a.eval x = p) (hy : a.eval y = u1) (hz : a.eval z = u2)
    (h : (Instr.sliceAt T p none (some u1) (some u2)).run P w = .ok v' w') : (execOp a.eval o).run P w = .ok (.value v') w' := by
  unfold execOp; simp [ho, hx, hy, hz, h]
end Go.Sl
namespace Go.GF
open Go Go.RowKit
/-- The sets that are still to come. -/
def restL (L : List Int) (i : Nat) (s : List Int) (d : Nat) : List (List Int) := (subsL (L.drop i) d).map (s ++ ·)
theorem restL_zero (L : List Int) (i : Nat) (s : List Int) : restL L i s 0 = [s] := by
  unfold restL
  have : subsL (L.drop i) 0 = [[]] := by cases L.drop i <;> rfl
  rw [this]; simp
theorem restL_step {L : List Int} {i : Nat} {x : Int} (hx : L[i]? = some x) (s : List Int) (d : Nat) : restL L i s (d + 1) = restL L (i + 1) (s ++ [x]) d ++ restL L (i + 1) s (d + 1) := by
  unfold restL
  have hlt := (List.getElem?_eq_some_iff.1 hx).1
  have : L.drop i = x :: L.drop (i + 1) := by
    rw [List.drop_eq_getElem_cons hlt]
    rw [(List.getElem?_eq_some_iff.1 hx).2]
  rw [this]
  show ((subsL (L.drop (i + 1)) d).map (x :: ·) ++ subsL (L.drop (i + 1)) (d + 1)).map (s ++ ·) = _
  rw [List.map_append, List.map_map]
  congr 1
  exact List.map_congr_left fun t _ => by simp
theorem restL_end {L : List Int} {i : Nat} (h : L.length ≤ i) (s : List Int) (d : Nat) : restL L i s (d + 1) = [] := by
  unfold restL
  rw [List.drop_eq_nil_of_le h]
  rfl
end Go.GF
namespace Go.Proofs.YtnilepaicnnbhaaGreatDoor
open Go.RowKit Go.GF Go.Sl Go.Shelf
attribute [local go_sem] Oper.semAt_some

/-- A set that grows: nil, or a row. -/
def SetV (W : World) (v : Value) (s : List Int) : Prop :=
  (s = [] ∧ v = .slice none 0 0) ∨ ∃ g off cap, v = .slice (some ⟨g, off, none⟩) s.length cap ∧ 0 < s.length ∧ s.length ≤ cap ∧ cap ≤ maxLen ∧ g < W.heap.size ∧ ∀ j u, s[j]? = some u → W.cell? ⟨g, off + j, none⟩ = some (.int .i64 u)
theorem SetV.shape {W : World} {v : Value} {s : List Int} (h : SetV W v s) : ∃ ao cap, v = .slice ao s.length cap := by
  rcases h with ⟨rfl, rfl⟩ | ⟨g, off, cap, rfl, -⟩
  · exact ⟨none, 0, rfl⟩
  · exact ⟨_, _, rfl⟩
theorem SetV.keep {W W' : World} {v : Value} {s : List Int} (h : SetV W v s) (hk : KpB 0 W W') : SetV W' v s := by
  rcases h with h | ⟨g, off, cap, h1, h2, h3, h4, h5, h6⟩
  · exact .inl h
  · exact .inr ⟨g, off, cap, h1, h2, h3, h4, Nat.lt_of_lt_of_le h5 hk.bl.size, fun j u hu => hk.cell (h6 j u hu)⟩
theorem SetV.row {W : World} {v : Value} {s : List Int} (h : SetV W v s) : RowI W v (intsV s) := by
  rcases h with ⟨rfl, rfl⟩ | ⟨g, off, cap, rfl, h2, h3, h4, h5, h6⟩
  · exact ⟨none, 0, rfl, Nat.le_refl _, by unfold maxLen; omega, fun h => absurd h (by simp [intsV])⟩
  · refine ⟨_, cap, by rw [intsV_len], by rw [intsV_len]; exact h3, h4, fun _ => ⟨g, off, rfl, h5, fun j u hu => ?_⟩⟩
    unfold intsV at hu
    rw [List.getElem?_map] at hu
    obtain ⟨x, hx, rfl⟩ := Option.map_eq_some_iff.1 hu
    exact h6 j x hx
/-- The row with no room behind its elements. -/
def capV : Value → Value
  | .slice a n _ => .slice a n n
  | v => v
theorem run_full {W : World} {v : Value} {s : List Int} (h : SetV W v s) (w : World) : (Instr.sliceAt 26 v none (some (.int .i64 (s.length : Int))) (some (.int .i64 (s.length : Int)))).run Tryz.prog w = .ok (capV v) w := by
  obtain ⟨ti, hti, hts⟩ := Option.map_eq_some_iff.1 info_int1
  rcases h with ⟨rfl, rfl⟩ | ⟨g, off, cap, rfl, h2, h3, h4, h5, h6⟩
  · simp [Instr.sliceAt, Instr.slice, run_underlying Tryz.underlying26, Instr.sliceBounds, Instr.sliceBound, asIntOf, sizeOf, typeInfo, hti, capV]
  · simp [Instr.sliceAt, Instr.slice, run_underlying Tryz.underlying26, Instr.sliceBounds, Instr.sliceBound, asIntOf, sizeOf, typeInfo, hti, capV, h3, Addr.add_mid]
theorem run_grow {W : World} {v : Value} {s : List Int} (h : SetV W v s) (q : Nat) (x : Int) (hq : W.cell? ⟨q, 0, none⟩ = some (.int .i64 x)) (hn : s.length ≤ 100000) :
    ∃ v' w', (Builtin.append_ #[26, 26] 26 #[capV v, .slice (some ⟨q, 0, none⟩) 1 1]).run Tryz.prog W = .ok v' w' ∧ SetV w' v' (s ++ [x]) ∧ Below W.heap.size W w' := by
  obtain ⟨i0, hi, hz0, hz1, hz2⟩ := info_parts info_int3
  have hnew : ∀ (j : Nat) (u : Value), [Value.int .i64 x][j]? = some u → W.cell? ((⟨q, 0, none⟩ : Addr).add j) = some u := by
    intro j u hu
    match j, hu with
    | 0, hu =>
      simp at hu
      subst hu
      rw [Addr.add_mid]
      exact hq
  rcases h with ⟨rfl, rfl⟩ | ⟨g, off, cap, rfl, h2, h3, h4, h5, h6⟩
  · have hr := run_append_nil (P := Tryz.prog) (w := W) 26 26 TI i0 _ Tryz.underlying26 hi hz0 ⟨q, 0, none⟩ 1 1 [.int .i64 x] (by rw [hz1]; rfl) hnew (by omega) (by omega) (by rw [hz2]; omega)
    have hge := grownCap_ge W 1 0 TI
    have hle := grownCap_le_maxLen W 1 0 TI (by unfold maxLen; omega)
    refine ⟨_, _, hr, .inr ⟨W.heap.size, 0, grownCap W 1 0 TI, rfl, by simp, hge, hle, by simp, ?_⟩, ((Below.refl W.heap.size W).drew).alloc (Nat.le_refl _) _⟩
    intro j u hu
    match j, hu with
    | 0, hu =>
      simp at hu
      subst hu
      unfold World.cell?
      have hh := World.alloc_heap_new W.drew (.cells ([Value.int .i64 x].toArray ++ Builtin.zeroCells (Value.int .i64 0).cells (grownCap W 1 0 TI - 1)) TI)
      rw [show (W.drew.alloc (.cells ([Value.int .i64 x].toArray ++ Builtin.zeroCells (Value.int .i64 0).cells (grownCap W 1 0 TI - 1)) TI)).heap[W.heap.size]? = _ from hh]
      show (([Value.int .i64 x].toArray ++ Builtin.zeroCells (Value.int .i64 0).cells (grownCap W 1 0 TI - 1)) : Array Value)[0]? = _
      rw [Array.getElem?_append_left (by simp)]
      rfl
  · have hold : ∀ (j : Nat) (u : Value), (intsV s)[j]? = some u → W.cell? ((⟨g, off, none⟩ : Addr).add j) = some u := by
      intro j u hu
      unfold intsV at hu
      rw [List.getElem?_map] at hu
      obtain ⟨y, hy, rfl⟩ := Option.map_eq_some_iff.1 hu
      rw [Addr.add_mid]; exact h6 j y hy
    have hr := run_append_grow (P := Tryz.prog) (w := W) 26 26 TI i0 _ Tryz.underlying26 hi hz0 ⟨g, off, none⟩ s.length s.length (intsV s) (by rw [hz1, intsV_len, Nat.mul_one]) hold ⟨q, 0, none⟩ 1 1 [.int .i64 x] (by rw [hz1]; rfl) hnew (by omega) (by omega)
      (growslice_fits (by omega) (by rw [hz2]; omega))
    have hge := grownCap_ge W (s.length + 1) s.length TI
    have hle := grownCap_le_maxLen W (s.length + 1) s.length TI (by unfold maxLen; omega)
    refine ⟨_, _, hr, .inr ⟨W.heap.size, 0, grownCap W (s.length + 1) s.length TI, by simp, by simp, by simpa using hge, hle, by simp, ?_⟩, ((Below.refl W.heap.size W).drew).alloc (Nat.le_refl _) _⟩
    intro j u hu
    unfold World.cell?
    have hh := World.alloc_heap_new W.drew (.cells ((intsV s).toArray ++ [Value.int .i64 x].toArray ++ Builtin.zeroCells (Value.int .i64 0).cells (grownCap W (s.length + 1) s.length TI - (s.length + 1))) TI)
    rw [show (W.drew.alloc (.cells ((intsV s).toArray ++ [Value.int .i64 x].toArray ++ Builtin.zeroCells (Value.int .i64 0).cells (grownCap W (s.length + 1) s.length TI - (s.length + 1))) TI)).heap[W.heap.size]? = _ from hh]
    have hj := (List.getElem?_eq_some_iff.1 hu).1
    have h8 : (intsV s ++ [Value.int .i64 x])[j]? = some (.int .i64 u) := by
      rw [show intsV s ++ [Value.int .i64 x] = intsV (s ++ [x]) by unfold intsV; simp]
      exact intsV_at hu
    have h9 : ((intsV s).toArray ++ [Value.int .i64 x].toArray : Array Value)[j]? = some (.int .i64 u) := by
      rw [List.append_toArray, List.getElem?_toArray]; exact h8
    show ((intsV s).toArray ++ [Value.int .i64 x].toArray ++ Builtin.zeroCells (Value.int .i64 0).cells (grownCap W (s.length + 1) s.length TI - (s.length + 1)))[0 + j]? = _
    rw [Nat.zero_add, Array.getElem?_append_left (by simp [intsV] at hj ⊢; omega)]
    exact h9

/-- What the closure has captured. -/
structure EnvF (bk by_ bl bf lp : Nat) (k : Nat) (lv : Value) (L : List Int) (W : World) : Prop where
  ck : W.cell? ⟨bk, 0, none⟩ = some (.int .i64 (k : Int))
  cy : W.cell? ⟨by_, 0, none⟩ = some (.func (.yield lp) #[] #[])
  cl : W.cell? ⟨bl, 0, none⟩ = some lv
  cf : W.cell? ⟨bf, 0, none⟩ = some (.func (.func 50) #[] #[.pointer (some ⟨bk, 0, none⟩), .pointer (some ⟨by_, 0, none⟩), .pointer (some ⟨bl, 0, none⟩), .pointer (some ⟨bf, 0, none⟩)])
  row : ∃ ao cap, lv = .slice ao L.length cap ∧ ∀ j u, L[j]? = some u → ∃ b off, ao = some ⟨b, off, none⟩ ∧ W.cell? ⟨b, off + j, none⟩ = some (.int .i64 u)
theorem EnvF.keep {bk by_ bl bf lp k : Nat} {lv : Value} {L : List Int} {W W' : World} (h : EnvF bk by_ bl bf lp k lv L W) (hk : KpB 0 W W') : EnvF bk by_ bl bf lp k lv L W' := by
  obtain ⟨h1, h2, h3, h4, ao, cap, h5, h6⟩ := h
  refine ⟨hk.cell h1, hk.cell h2, hk.cell h3, hk.cell h4, ao, cap, h5, fun j u hu => ?_⟩
  obtain ⟨b, off, e, hc⟩ := h6 j u hu
  exact ⟨b, off, e, hk.cell hc⟩
/-- What a round is asked. -/
def AskR (F : Fence) (lp base : Nat) (J : Nat → World → Prop) (Jx : World → Prop) (c : Nat) (X : List (List Int)) : Prop :=
  ∀ (m j : Nat) (x : List Int) (v : Value) (W : World), X[j]? = some x → J (c + j) W → base ≤ W.heap.size → OwnI base W v x → YieldAt F m Tryz.prog lp #[v] W fun e W' =>
    (e = .returned (.bool true) ∧ J (c + j + 1) W' ∧ KpB 0 W W') ∨ (e = .returned (.bool false) ∧ Jx W')
theorem AskR.left {F : Fence} {lp base : Nat} {J : Nat → World → Prop} {Jx : World → Prop} {c : Nat} {A B : List (List Int)} (h : AskR F lp base J Jx c (A ++ B)) : AskR F lp base J Jx c A := by
  intro m j x v W hx
  have hlt := (List.getElem?_eq_some_iff.1 hx).1
  exact h m j x v W (by rw [List.getElem?_append_left hlt]; exact hx)
theorem AskR.right {F : Fence} {lp base : Nat} {J : Nat → World → Prop} {Jx : World → Prop} {c : Nat} {A B : List (List Int)} (h : AskR F lp base J Jx c (A ++ B)) : AskR F lp base J Jx (c + A.length) B := by
  intro m j x v W hx hJ hb hr
  have := h m (A.length + j) x v W (by rw [List.getElem?_append_right (by omega), show A.length + j - A.length = j by omega]; exact hx) (by rw [← Nat.add_assoc]; exact hJ) hb hr
  rw [← Nat.add_assoc] at this
  exact this
structure FrSt (F : Fence) (lp base : Nat) (J : Nat → World → Prop) (Jx : World → Prop) (L : List Int) (s : List Int) (d tot : Nat) (W : World) (v : Value) (wr : World) : Prop where
  st : ∃ i c : Nat, i ≤ L.length ∧ v = .int .i64 (i : Int) ∧ c + (restL L i s (d + 1)).length = tot ∧ J c wr ∧ AskR F lp base J Jx c (restL L i s (d + 1)) ∧ KpB 0 W wr
section
variable {F : Fence} {lp base : Nat} {J : Nat → World → Prop} {Jx : World → Prop} {bk by_ bl bf k : Nat} {lv : Value} {L : List Int}
/-- What the closure does from an element on. -/
def Froms (F : Fence) (lp base : Nat) (J : Nat → World → Prop) (Jx : World → Prop) (bk by_ bl bf k : Nat) (lv : Value) (L : List Int) (d : Nat) : Prop :=
  ∀ (n i : Nat) (s : List Int) (sv : Value) (c : Nat) (W : World), s.length + d = k → i ≤ L.length → base ≤ W.heap.size → EnvF bk by_ bl bf lp k lv L W → SetV W sv s → J c W → AskR F lp base J Jx c (restL L i s d) →
    CallsIn F n Tryz.prog 50 #[.int .i64 (i : Int), sv, .pointer (some ⟨bk, 0, none⟩), .pointer (some ⟨by_, 0, none⟩), .pointer (some ⟨bl, 0, none⟩), .pointer (some ⟨bf, 0, none⟩)] W fun e W' =>
      (e = .returned (.bool true) ∧ J (c + (restL L i s d).length) W' ∧ KpB 0 W W') ∨ (e = .returned (.bool false) ∧ Jx W')
set_option maxRecDepth 100000 in
set_option maxHeartbeats 2000000 in
theorem from_zero (hF : Free F Tryz.prog) (hk : k ≤ 1000) (hJ : ∀ i A B, J i A → base ≤ A.heap.size → KpB base A B → J i B) : Froms F lp base J Jx bk by_ bl bf k lv L 0 := by
  intro n i s sv c W hs hi hbase hE hV hJc hA
  have hfn : ∀ f, F.fn f := hF.fn
  have hro := hF.round
  have hdd : ∀ k : Nat, (F.depth.isSome = true → 1 ≤ k) := fun k h => by rw [hF.depth] at h; cases h
  rw [restL_zero] at hA ⊢
  have hsk : ((s.length : Int) == (k : Int)) = true := by rw [beq_iff_eq]; omega
  have HV := Lib.hid hV
  have HX := Lib.hid (And.intro hJc (And.intro hA hbase))
  obtain ⟨ck, cy, cl, cf, -⟩ := hE
  obtain ⟨ao, cap, rfl⟩ := hV.shape
  have hsl : (s.length : Int) ≤ 1000 := by omega
  have HCL := Lib.hid (fun W' (hb : Below W.heap.size W W') => cloneI_any (.slice ao s.length cap) s (by omega) W' (hV.row.below hb))
  have hblt : by_ < W.heap.size := World.block_lt_of_cell? W _ cy
  clear hV hJc hA hs hi cl cf
  refine callsIn_of_wp Tryz.func50 rfl (hfn _) ?_ hro
  simp only [Tryz.ntmps50, List.size_toArray, List.length_cons, List.length_nil, Nat.reduceAdd, Nat.reduceSub, Array.replicate_succ, Array.replicate_zero, List.push_toArray, List.append_toArray, List.nil_append, List.cons_append]
  gi_upto_region 2 with (fail)
  have hS : Below W.heap.size W W.drew := (Below.refl _ W).drew
  refine regi_begin (fun w' => Below W.heap.size W w') (by kernel_rfl) ?_
  refine regi_take hF 0 (v := .func (.yield lp) #[] #[]) rfl rfl (by decide +kernel) rfl (fun w' h => exec_load_cell rfl rfl rfl rfl ((h.cell (p := ⟨by_, 0, none⟩) hblt).trans cy)) hS ?_; simp only [List.setIfInBounds_toArray, List.set_cons_succ, List.set_cons_zero]
  (apply regi_take hF 1 rfl rfl (by decide +kernel) rfl); (intro w' h; go_simp; rfl); exact hS; simp only [List.setIfInBounds_toArray, List.set_cons_succ, List.set_cons_zero]
  refine regi_call hF 2 rfl rfl (by decide +kernel) rfl (f := 51) (args := #[.slice ao s.length cap]) (R := fun v W' => OwnI base W' v s ∧ Below W.heap.size W W') (by kernel_rfl) ((HCL.out _ hS).mono fun e w' h => ?_) ?_
  · obtain ⟨v', rfl, h1, h2⟩ := h
    exact ⟨v', rfl, h1.mono (Nat.le_trans HX.out.2.2 hS.size), hS.trans h2⟩
  rintro v w1 ⟨hr1, hb1⟩
  refine ⟨hb1, ?_⟩
  simp only [List.setIfInBounds_toArray, List.set_cons_succ, List.set_cons_zero]
  obtain ⟨fn, tmps, assign, body, hy, hR⟩ := HX.out.2.1 (n - 1) 0 s v w1 rfl (hJ _ _ _ HX.out.1 HX.out.2.2 (KpB.of hb1 HX.out.2.2)) (Nat.le_trans HX.out.2.2 hb1.size) hr1
  have HB1 := Lib.hid hb1
  refine regi_roundP hF 3 (R := fun v W3 => (v = .bool true ∧ Hid (J (c + 0 + 1) W3 ∧ KpB 0 w1 W3)) ∨ (v = .bool false ∧ Hid (Jx W3))) rfl rfl (by decide +kernel) (by decide +kernel) rfl (by simp [execOp, go_sem, hy]) (hR.mono fun e w' h => ?_) ?_
  · rcases h with ⟨rfl, h1, h2⟩ | ⟨rfl, h1⟩
    · exact ⟨_, rfl, .inl ⟨rfl, Lib.hid ⟨h1, h2⟩⟩⟩
    · exact ⟨_, rfl, .inr ⟨rfl, Lib.hid h1⟩⟩
  clear hy hR hr1 hb1 hS
  rintro _ W3 (⟨rfl, h3⟩ | ⟨rfl, h3⟩)
  · simp only [List.setIfInBounds_toArray, List.set_cons_succ, List.set_cons_zero]
    refine regi_runP hF 4 (.bool true) rfl rfl (by decide +kernel) (by decide +kernel) rfl (by kernel_rfl) ?_
    simp only [List.setIfInBounds_toArray, List.set_cons_succ, List.set_cons_zero]
    refine regi_done (by decide +kernel) ?_
    gi_wp2
    go_ret
    exact .inl ⟨rfl, h3.out.1, (KpB.of HB1.out (Nat.zero_le _)).trans h3.out.2⟩
  · simp only [List.setIfInBounds_toArray, List.set_cons_succ, List.set_cons_zero]
    refine regi_runP hF 4 (.bool false) rfl rfl (by decide +kernel) (by decide +kernel) rfl (by kernel_rfl) ?_
    simp only [List.setIfInBounds_toArray, List.set_cons_succ, List.set_cons_zero]
    refine regi_done (by decide +kernel) ?_
    gi_wp2
    go_ret
    exact .inr ⟨rfl, h3.out⟩
set_option maxRecDepth 100000 in
set_option maxHeartbeats 4000000 in
theorem from_succ (hF : Free F Tryz.prog) (hk : k ≤ 1000) (hL : L.length ≤ 1000) (hJ : ∀ i A B, J i A → base ≤ A.heap.size → KpB base A B → J i B) (d : Nat) (ih : Froms F lp base J Jx bk by_ bl bf k lv L d) : Froms F lp base J Jx bk by_ bl bf k lv L (d + 1) := by
  intro n i s sv c W hs hi hbase hE hV hJc hA
  have hfn : ∀ f, F.fn f := hF.fn
  have hro := hF.round
  have hdd : ∀ k : Nat, (F.depth.isSome = true → 1 ≤ k) := fun k h => by rw [hF.depth] at h; cases h
  have hsk : ((s.length : Int) == (k : Int)) = false := by rw [beq_eq_false_iff_ne]; omega
  have hskn : s.length + 1 + d = k := by omega
  obtain ⟨tot, htot⟩ : ∃ tot, c + (restL L i s (d + 1)).length = tot := ⟨_, rfl⟩
  rw [htot]
  have HST := Lib.hid (show FrSt F lp base J Jx L s d tot W (.int .i64 (i : Int)) W from ⟨⟨i, c, hi, rfl, htot, hJc, hA, KpB.refl _ _⟩⟩)
  have HV := Lib.hid hV
  have HIH := Lib.hid ih
  have HE := Lib.hid hE
  obtain ⟨ck, cy, cl, cf, ar, cr, rfl, -⟩ := hE
  obtain ⟨ao, cap, rfl⟩ := hV.shape
  have hsl : s.length ≤ 1000 := by omega
  have hlL : (L.length : Int) ≤ 1000 := by omega
  clear hV hJc hA hs hi ih htot cy cf
  refine callsIn_of_wp Tryz.func50 rfl (hfn _) ?_ hro
  simp only [Tryz.ntmps50, List.size_toArray, List.length_cons, List.length_nil, Nat.reduceAdd, Nat.reduceSub, Array.replicate_succ, Array.replicate_zero, List.push_toArray, List.append_toArray, List.nil_append, List.cons_append]
  gi_wp2
  gi_loopw [0] (fun v wr => FrSt F lp base J Jx L s d tot W v wr) (fun v _ => L.length - (intOf v).toNat)
  case atStart => exact HST.out
  case round =>
    clear HST
    obtain ⟨i1, c1, hi1, rfl, ht1, hJ1, hA1, hkp⟩ := hrel.st
    clear hrel ck cl
    obtain ⟨ck, cy, cl, cf, ar', cr', hcl, hrow⟩ := HE.out.keep hkp
    simp only [Value.slice.injEq] at hcl
    obtain ⟨rfl, -, rfl⟩ := hcl
    have hbw : base ≤ wr.heap.size := Nat.le_trans hbase hkp.bl.size
    have HT1 := Lib.hid ht1
    by_cases hlt : i1 < L.length
    · obtain ⟨x, hx⟩ : ∃ x, L[i1]? = some x := ⟨_, List.getElem?_eq_getElem hlt⟩
      have hlti : (i1 : Int) < (L.length : Int) := by omega
      have hwi : IntKind.i64.wrap ((i1 : Int) + 1) = ((i1 + 1 : Nat) : Int) := by rw [IntWalk.i64_in _ (by omega)]; rfl
      rw [restL_step hx] at hA1 ht1
      obtain ⟨b, off, rfl, cx⟩ := hrow i1 x hx
      have HA1 := Lib.hid hA1
      have HJ1 := Lib.hid hJ1
      have HKP := Lib.hid hkp
      have HX := Lib.hid (And.intro ht1 hx)
      have HLT := Lib.hid hlt
      have hfb : bf < wr.heap.size := World.block_lt_of_cell? wr _ cf
      have hlb : bl < wr.heap.size := World.block_lt_of_cell? wr _ cl
      have hxb : b < wr.heap.size := World.block_lt_of_cell? wr _ cx
      have hfull := fun w => run_full HV.out w
      clear hA1 hJ1 hkp ht1 hx hrow
      gi_upto_region 5 with (fail)
      have hS : Below wr.heap.size wr wr.drew := (Below.refl _ wr).drew
      refine regi_begin (fun w' => Below wr.heap.size wr w') (by kernel_rfl) ?_
      refine regi_take hF 0 (v := .func (.func 50) #[] #[.pointer (some ⟨bk, 0, none⟩), .pointer (some ⟨by_, 0, none⟩), .pointer (some ⟨bl, 0, none⟩), .pointer (some ⟨bf, 0, none⟩)]) rfl rfl (by decide +kernel) rfl (fun w' h => exec_load_cell rfl rfl rfl rfl ((h.cell (p := ⟨bf, 0, none⟩) hfb).trans cf)) hS ?_; simp only [List.setIfInBounds_toArray, List.set_cons_succ, List.set_cons_zero]
      (apply regi_take hF 1 rfl rfl (by decide +kernel) rfl); (intro w' h; go_simp; rfl); exact hS; simp only [List.setIfInBounds_toArray, List.set_cons_succ, List.set_cons_zero]
      (apply regi_take hF 2 rfl rfl (by decide +kernel) rfl); (intro w' h; go_simp; rfl); exact hS; simp only [List.setIfInBounds_toArray, List.set_cons_succ, List.set_cons_zero]
      (apply regi_take hF 3 rfl rfl (by decide +kernel) rfl); (intro w' h; go_simp; rfl); exact hS; simp only [List.setIfInBounds_toArray, List.set_cons_succ, List.set_cons_zero]
      (apply regi_take hF 4 rfl rfl (by decide +kernel) rfl); (intro w' h; go_simp; rfl); exact hS; simp only [List.setIfInBounds_toArray, List.set_cons_succ, List.set_cons_zero]
      (apply regi_take hF 5 rfl rfl (by decide +kernel) rfl); (intro w' h; go_simp; rfl); exact hS; simp only [List.setIfInBounds_toArray, List.set_cons_succ, List.set_cons_zero]
      (apply regi_take hF 6 rfl rfl (by decide +kernel) rfl); (intro w' h; go_simp; rfl); exact hS; simp only [List.setIfInBounds_toArray, List.set_cons_succ, List.set_cons_zero]
      (apply regi_take hF 7 rfl rfl (by decide +kernel) rfl); (intro w' h; go_simp; rfl); exact hS; simp only [List.setIfInBounds_toArray, List.set_cons_succ, List.set_cons_zero]
      refine regi_take hF 8 (v := capV (.slice ao s.length cap)) rfl rfl (by decide +kernel) rfl (fun w' h => exec_slice_full rfl rfl rfl rfl (hfull w')) hS ?_; simp only [List.setIfInBounds_toArray, List.set_cons_succ, List.set_cons_zero]
      refine regi_take hF 9 (v := .slice (some ⟨b, off, none⟩) L.length cr) rfl rfl (by decide +kernel) rfl (fun w' h => exec_load_cell rfl rfl Tryz.underlying26 rfl ((h.cell (p := ⟨bl, 0, none⟩) hlb).trans cl)) hS ?_; simp only [List.setIfInBounds_toArray, List.set_cons_succ, List.set_cons_zero]
      (apply regi_take hF 10 rfl rfl (by decide +kernel) rfl); (intro w' h; go_simp; rfl); exact hS; simp only [List.setIfInBounds_toArray, List.set_cons_succ, List.set_cons_zero]
      refine regi_take hF 11 (v := .pointer (some ⟨b, off + i1, none⟩)) rfl rfl (by decide +kernel) rfl (fun w' h => exec_ixI rfl rfl rfl HLT.out) hS ?_; simp only [List.setIfInBounds_toArray, List.set_cons_succ, List.set_cons_zero]
      refine regi_take hF 12 (v := .int .i64 x) rfl rfl (by decide +kernel) rfl (fun w' h => exec_load_cell rfl rfl Tryz.underlying3 rfl ((h.cell (p := ⟨b, off + i1, none⟩) hxb).trans cx)) hS ?_; simp only [List.setIfInBounds_toArray, List.set_cons_succ, List.set_cons_zero]
      obtain ⟨W0, hW0⟩ : ∃ W0, wr.drew = W0 := ⟨_, rfl⟩
      rw [hW0] at hS ⊢
      have hs13 : Below wr.heap.size wr (W0.alloc (.cells #[.int .i64 x] TI)) := hS.trans ((al_below W0 _).mono hS.size)
      refine regi_run hF 13 (.slice (some ⟨W0.heap.size, 0, none⟩) 1 1) (W0.alloc (.cells #[.int .i64 x] TI)) rfl rfl (by decide +kernel) rfl (by go_simp) hs13 ?_
      simp only [List.setIfInBounds_toArray, List.set_cons_succ, List.set_cons_zero]
      obtain ⟨v', w4, hr, hv4, hb4⟩ := run_grow ((HV.out.keep HKP.out).keep (KpB.of hs13 (Nat.zero_le _))) W0.heap.size x (by
        unfold World.cell?
        rw [show (W0.alloc (.cells #[.int .i64 x] TI)).heap[W0.heap.size]? = _ from World.alloc_heap_new W0 _]; rfl) (by omega)
      have hs14 : Below wr.heap.size wr w4 := hs13.trans (hb4.mono hs13.size)
      refine regi_run hF 14 v' w4 rfl rfl (by decide +kernel) rfl (exec_appJ rfl rfl rfl rfl hr) hs14 ?_
      simp only [List.setIfInBounds_toArray, List.set_cons_succ, List.set_cons_zero]
      have hC := HIH.out (n - 1) (i1 + 1) (s ++ [x]) v' c1 w4 (by simp; omega) (by have := HLT.out; omega) (Nat.le_trans hbw hs14.size) (HE.out.keep (HKP.out.trans (KpB.of hs14 (Nat.zero_le _)))) hv4 (hJ _ _ _ HJ1.out hbw (KpB.of hs14 hbw)) HA1.out.left
      rw [Int.natCast_add] at hC
      refine regi_callP hF 15 rfl rfl (by decide +kernel) (by decide +kernel) rfl (f := 50) (args := #[.int .i64 ((i1 : Int) + 1), v', .pointer (some ⟨bk, 0, none⟩), .pointer (some ⟨by_, 0, none⟩), .pointer (some ⟨bl, 0, none⟩), .pointer (some ⟨bf, 0, none⟩)])
        (R := fun v W3 => (v = .bool true ∧ Hid (J (c1 + (restL L (i1 + 1) (s ++ [x]) d).length) W3 ∧ KpB 0 w4 W3)) ∨ (v = .bool false ∧ Hid (Jx W3))) (by kernel_rfl) (hC.mono fun e w' h => ?_) ?_
      · rcases h with ⟨rfl, h1, h2⟩ | ⟨rfl, h1⟩
        · exact ⟨_, rfl, .inl ⟨rfl, Lib.hid ⟨h1, h2⟩⟩⟩
        · exact ⟨_, rfl, .inr ⟨rfl, Lib.hid h1⟩⟩
      have HS4 := Lib.hid hs14
      clear hs13 hs14 hS hr hv4 hb4 hC hfull hW0
      rintro _ W3 (⟨rfl, h3⟩ | ⟨rfl, h3⟩)
      · simp only [List.setIfInBounds_toArray, List.set_cons_succ, List.set_cons_zero]
        refine regi_runP hF 16 (.bool false) rfl rfl (by decide +kernel) (by decide +kernel) rfl (by kernel_rfl) ?_
        simp only [List.setIfInBounds_toArray, List.set_cons_succ, List.set_cons_zero]
        refine regi_done (by decide +kernel) ?_
        gi_wp2
        go_roundw
        case rel => exact ⟨⟨i1 + 1, c1 + (restL L (i1 + 1) (s ++ [x]) d).length, HLT.out, by rw [Int.natCast_add]; rfl, by have := HX.out.1; rw [List.length_append] at this; omega, h3.out.1, HA1.out.right, (HKP.out.trans (KpB.of HS4.out (Nat.zero_le _))).trans h3.out.2⟩⟩
        case measure => simp only [intOf]; have := HLT.out; omega
      · simp only [List.setIfInBounds_toArray, List.set_cons_succ, List.set_cons_zero]
        refine regi_runP hF 16 (.bool true) rfl rfl (by decide +kernel) (by decide +kernel) rfl (by kernel_rfl) ?_
        simp only [List.setIfInBounds_toArray, List.set_cons_succ, List.set_cons_zero]
        refine regi_done (by decide +kernel) ?_
        gi_wp2
        go_ret
        exact .inr ⟨rfl, h3.out⟩
    · have hltn : ¬ (i1 : Int) < (L.length : Int) := by omega
      have HZ := Lib.hid (show J tot wr ∧ KpB 0 W wr from ⟨by rw [restL_end (by omega)] at ht1; rw [← ht1]; exact hJ1, hkp⟩)
      clear hJ1 hA1 hkp ht1 hrow cf cy
      gi_wp2
      go_ret
      exact .inl ⟨rfl, HZ.out.1, HZ.out.2⟩
end
end Go.Proofs.YtnilepaicnnbhaaGreatDoor

/- distance.subsets as an iterator. -/
namespace Go.Proofs.YtnilepaicnnbhaaGreatDoor
open Go.RowKit Go.GF Go.Sl Go.Shelf
attribute [local go_sem] Oper.semAt_some

theorem room_of_none2 {F : Fence} (hd : F.depth = none) (k : Nat) : F.room k := fun d h => by rw [hd] at h; cases h
theorem yield_depth {F : Fence} (hd : F.depth = none) {m : Nat} (m' : Nat) {P : Program} {l : Nat} {args : Array Value} {W : World} {R : Ending → World → Prop} (h : YieldAt F m P l args W R) : YieldAt F m' P l args W R := by
  obtain ⟨fn, tmps, assign, body, hy, hR⟩ := h
  exact ⟨fn, tmps, assign, body, hy, ⟨hR.1, fun c cs _ => hR.2 c cs (room_of_none2 hd _)⟩⟩
theorem restL_all (L : List Int) (k : Nat) : restL L 0 [] k = subsL L k := by
  unfold restL
  rw [List.drop_zero]
  conv => rhs; rw [← List.map_id (subsL L k)]
  exact List.map_congr_left fun t _ => rfl
theorem from_all {F : Fence} {lp base : Nat} {J : Nat → World → Prop} {Jx : World → Prop} {bk by_ bl bf k : Nat} {lv : Value} {L : List Int} (hF : Free F Tryz.prog) (hk : k ≤ 1000) (hL : L.length ≤ 1000) (hJ : ∀ i A B, J i A → base ≤ A.heap.size → KpB base A B → J i B) :
    ∀ d, Froms F lp base J Jx bk by_ bl bf k lv L d
  | 0 => from_zero hF hk hJ
  | d + 1 => from_succ hF hk hL hJ d (from_all hF hk hL hJ d)
/-- What subsets hands out in round i. -/
def SubR (B : Nat) (L : List Int) (k : Nat) (i : Nat) (v : Value) (W : World) : Prop := ∃ x, (subsL L k)[i]? = some x ∧ OwnI B W v x
theorem SubR.keep {B : Nat} {L : List Int} {k i : Nat} {v : Value} {A C : World} (h : SubR B L k i v A) (hk : KpB 0 A C) : SubR B L k i v C := by
  obtain ⟨x, hx, h1, h2⟩ := h
  refine ⟨x, hx, h1, ?_⟩
  rcases h2 with h0 | ⟨g, cap, cur, hv, hb', hg, h3⟩
  · exact .inl h0
  · exact .inr ⟨g, cap, cur, hv, hb', (hk.cells g _ _ _ hg).trans hg, h3⟩
set_option maxRecDepth 20000 in
theorem subsets_any (ao : Option Addr) (n cap : Nat) (k : Int) (w : World) :
    Calls Tryz.prog 29 #[.slice ao n cap, .int .i64 k] w fun e w' => ∃ bl bk, e = .returned (.func (.func 49) #[] #[.pointer (some ⟨bk, 0, none⟩), .pointer (some ⟨bl, 0, none⟩)]) ∧ w'.cell? ⟨bk, 0, none⟩ = some (.int .i64 k) ∧ w'.cell? ⟨bl, 0, none⟩ = some (.slice ao n cap) ∧ Below w.heap.size w w' := by
  go_enter Tryz.func29, Tryz.ntmps29
  go_wp2
  go_ret
  refine ⟨w.heap.size, w.heap.size + 1, rfl, ?_, ?_, (al_below w _).trans ((al_below _ _).mono (by simp))⟩
  · unfold World.cell?
    rw [show ((w.alloc _).alloc _).heap[w.heap.size + 1]? = _ from al2_b w _ _]; rfl
  · unfold World.cell?
    rw [show ((w.alloc _).alloc _).heap[w.heap.size]? = _ from al2_a w _ _]; rfl
set_option maxRecDepth 100000 in
set_option maxHeartbeats 2000000 in
theorem subsets_seq {F : Fence} (hF : Free F Tryz.prog) (n : Nat) (lv : Value) (L : List Int) (hL : L.length ≤ 1000) (k : Nat) (hk : k ≤ 1000) (bk bl : Nat) (w0 : World) (hbk : w0.cell? ⟨bk, 0, none⟩ = some (.int .i64 (k : Int))) (hbl : w0.cell? ⟨bl, 0, none⟩ = some lv) (hr : RowI w0 lv (intsV L)) :
    SeqRows F n Tryz.prog 49 #[.pointer (some ⟨bk, 0, none⟩), .pointer (some ⟨bl, 0, none⟩)] (subsL L k).length (SubR w0.heap.size L k) (KpB 0) w0 := by
  intro l J Jx W hb hJ hJx hY h0
  have hfn : ∀ f, F.fn f := hF.fn
  have hro := hF.round
  have hdd : ∀ k : Nat, (F.depth.isSome = true → 1 ≤ k) := fun k h => by rw [hF.depth] at h; cases h
  have hA : AskR F l W.heap.size J Jx 0 (subsL L k) := by
    intro m j x v W1 hx hJ1 hb1 hr1
    rw [Nat.zero_add] at hJ1 ⊢
    exact yield_depth hF.depth m (hY j v W1 (List.getElem?_eq_some_iff.1 hx).1 hJ1 hb1 ⟨x, hx, hr1.mono hb.size⟩)
  have HFR := Lib.hid (fun bf => from_all (lp := l) (base := W.heap.size) (J := J) (Jx := Jx) (bk := bk) (by_ := W.heap.size) (bl := bl) (bf := bf) (k := k) (lv := lv) (L := L) hF hk hL hJ k)
  have HX := Lib.hid (And.intro hA (And.intro hJ h0))
  have hck := (hb.cell (p := ⟨bk, 0, none⟩) (World.block_lt_of_cell? w0 _ hbk)).trans hbk
  have hcl := (hb.cell (p := ⟨bl, 0, none⟩) (World.block_lt_of_cell? w0 _ hbl)).trans hbl
  have HC := Lib.hid (And.intro hck (And.intro hcl (hr.below hb)))
  clear hA hJ h0 hY hck hcl hbk hbl hr hb hJx
  refine callsIn_of_wp Tryz.func49 rfl (hfn _) ?_ hro
  simp only [Tryz.ntmps49, List.size_toArray, List.length_cons, List.length_nil, Nat.reduceAdd, Nat.reduceSub, Array.replicate_succ, Array.replicate_zero, List.push_toArray, List.append_toArray, List.nil_append, List.cons_append]
  obtain ⟨W2, hW2⟩ : ∃ W2, (W.alloc (.cells #[.func (.yield l) #[] #[]] 68)).alloc (.cells #[.func (.func 50) #[] #[.pointer (some ⟨bk, 0, none⟩), .pointer (some ⟨W.heap.size, 0, none⟩), .pointer (some ⟨bl, 0, none⟩), .pointer (some ⟨W.heap.size + 1, 0, none⟩)]] 69) = W2 := ⟨_, rfl⟩
  have hb2 : Below W.heap.size W W2 := by rw [← hW2]; exact (al_below W _).trans ((al_below _ _).mono (by simp))
  have hE2 : EnvF bk W.heap.size bl (W.heap.size + 1) l k lv L W2 := by
    obtain ⟨h1, h2, ao, cap, h3, h4, h5, h6⟩ := HC.out
    refine ⟨(hb2.cell (p := ⟨bk, 0, none⟩) (World.block_lt_of_cell? W _ h1)).trans h1, ?_, (hb2.cell (p := ⟨bl, 0, none⟩) (World.block_lt_of_cell? W _ h2)).trans h2, ?_, ao, cap, by rw [← intsV_len L]; exact h3, fun j u hu => ?_⟩
    · rw [← hW2]; unfold World.cell?
      rw [show ((W.alloc _).alloc _).heap[W.heap.size]? = _ from al2_a W _ _]; rfl
    · rw [← hW2]; unfold World.cell?
      rw [show ((W.alloc _).alloc _).heap[W.heap.size + 1]? = _ from al2_b W _ _]; rfl
    · obtain ⟨b, off, e, hl, hc⟩ := h6 (by rw [intsV_len]; have := (List.getElem?_eq_some_iff.1 hu).1; omega)
      exact ⟨b, off, e, (hb2.cell (p := ⟨b, off + j, none⟩) hl).trans (hc j _ (intsV_at hu))⟩
  have HC2 := Lib.hid (fun m => HFR.out (W.heap.size + 1) m 0 [] (.slice none 0 0) 0 W2 (by simp) (Nat.zero_le _) hb2.size hE2 (.inl ⟨rfl, rfl⟩) (HX.out.2.1 _ _ _ HX.out.2.2 (Nat.le_refl _) (KpB.of hb2 (Nat.le_refl _))) (by rw [restL_all]; exact HX.out.1))
  rw [restL_all] at HC2
  simp only [Int.natCast_zero] at HC2
  have hcf := hE2.cf
  clear hb2 hE2 HFR HC HX
  gi_wp2_with ((try refine ⟨hdd _, ?_⟩); gi_at_call 50; refine (HC2.out _).mono ?_; rintro e w' (⟨rfl, h1, -⟩ | ⟨rfl, h1⟩))
  · go_end0
    exact ⟨⟨_, rfl⟩, .inl (by rw [Nat.zero_add] at h1; exact h1)⟩
  · go_end0
    exact ⟨⟨_, rfl⟩, .inr h1⟩
end Go.Proofs.YtnilepaicnnbhaaGreatDoor
