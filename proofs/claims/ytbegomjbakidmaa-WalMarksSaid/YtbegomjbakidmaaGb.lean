import Derived.Test.YtbegomjbakidmaaGp
import Derived.Test.YtbegomjbakidmaaRh
import Derived.Test.YtbegomjbakidmaaSw
import Derived.Lib.Strings
import Derived.Lib.BufferWrite
import Derived.Lib.UnsafeStr
import Derived.Laws.MakeOwn
import Derived.Lib.AppendStr
import Derived.Lib.AppendZerosOnto
/- cmp.Compare, cmp.Or, sector.Newer, strings.Clone, wal.Size, sectors, validGen, valid, shelf.Config. -/
namespace Go.Proofs.Ytbegomjbakidmaa
open Go.RowKit Go.Sl Go.ChangeMaps

def cmpI (x y : Int) : Int := if x < y then -1 else if y < x then 1 else 0
theorem isNaN_any (x : Int) (w : World) : Calls Try.prog 72 #[.int .i64 x] w fun e w' => e = .returned (.bool false) ∧ w = w' := by
  go_enter Try.func72, Try.ntmps72
  go_wp2
  go_ret
  simp
set_option maxHeartbeats 1000000 in
theorem compare_any (x y : Int) (w : World) : Calls Try.prog 51 #[.int .i64 x, .int .i64 y] w fun e w' => e = .returned (.int .i64 (cmpI x y)) ∧ w = w' := by
  unfold cmpI
  by_cases h1 : x < y
  · rw [if_pos h1]
    have h1d : decide (x < y) = true := decide_eq_true h1
    clear h1
    go_enter Try.func51, Try.ntmps51
    go_wp2_with (go_at_call 72; refine (isNaN_any _ _).mono ?_; rintro e w1 ⟨rfl, rfl⟩)
    go_ret
    exact ⟨rfl, rfl⟩
  rw [if_neg h1]
  have h1d : decide (x < y) = false := decide_eq_false h1
  by_cases h2 : y < x
  · rw [if_pos h2]
    have h2d : decide (y < x) = true := decide_eq_true h2
    clear h1 h2
    go_enter Try.func51, Try.ntmps51
    go_wp2_with (go_at_call 72; refine (isNaN_any _ _).mono ?_; rintro e w1 ⟨rfl, rfl⟩)
    go_ret
    exact ⟨rfl, rfl⟩
  · rw [if_neg h2]
    have h2d : decide (y < x) = false := decide_eq_false h2
    clear h1 h2
    go_enter Try.func51, Try.ntmps51
    go_wp2_with (go_at_call 72; refine (isNaN_any _ _).mono ?_; rintro e w1 ⟨rfl, rfl⟩)
    go_ret
    exact ⟨rfl, rfl⟩

def orI (a b : Int) : Int := if a = 0 then b else a
structure OrSt (w : World) (a b : Int) (i : Value) (wr : World) : Prop where
  st : wr = w ∧ ∃ k : Nat, i = .int .i64 k ∧ (k = 0 ∨ (k = 1 ∧ a = 0) ∨ (k = 2 ∧ a = 0 ∧ b = 0))
set_option maxHeartbeats 1000000 in
theorem or_any (a b : Int) (B : Nat) (w : World) (c0 : w.cell? ⟨B, 0, none⟩ = some (.int .i64 a)) (c1 : w.cell? ⟨B, 1, none⟩ = some (.int .i64 b)) :
    Calls Try.prog 50 #[.slice (some ⟨B, 0, none⟩) 2 2] w fun e w' => e = .returned (.int .i64 (orI a b)) ∧ w = w' := by
  go_enter Try.func50, Try.ntmps50
  go_wp2
  go_loopw [8] (fun i wr => OrSt w a b i wr) (fun i _ => 2 - (intOf i).toNat)
  case atStart => exact ⟨rfl, 0, rfl, .inl rfl⟩
  case round =>
    obtain ⟨rfl, k, rfl, hk⟩ := hrel.st
    clear hrel
    rcases hk with rfl | ⟨rfl, ha⟩ | ⟨rfl, ha, hb⟩
    · by_cases ha : a = 0
      · have hab : (a != 0) = false := by simp [ha]
        have HA := Lib.hid ha
        clear ha
        go_wp2
        exact ⟨⟨rfl, 1, rfl, .inr (.inl ⟨rfl, HA.out⟩)⟩, by simp [intOf]⟩
      · have hab : (a != 0) = true := by simp [ha]
        have HA := Lib.hid (show orI a b = a from if_neg ha)
        clear ha
        go_wp2
        go_ret
        exact ⟨by rw [HA.out]; rfl, rfl⟩
    · have HA := Lib.hid ha
      have HO := Lib.hid (show orI a b = b from if_pos ha)
      clear ha c0
      by_cases hb : b = 0
      · have hbb : (b != 0) = false := by simp [hb]
        have HB := Lib.hid hb
        clear hb
        go_wp2
        exact ⟨⟨rfl, 2, rfl, .inr (.inr ⟨rfl, HA.out, HB.out⟩)⟩, by simp [intOf]⟩
      · have hbb : (b != 0) = true := by simp [hb]
        clear hb
        go_wp2
        go_ret
        exact ⟨by rw [HO.out]; rfl, rfl⟩
    · subst ha hb
      go_wp2
      go_ret
      exact ⟨rfl, rfl⟩

set_option maxHeartbeats 1000000 in
set_option maxRecDepth 20000 in
theorem newer_any (a b : GenM) (w : World) : Calls Try.prog 29 #[.agg (genA a), .agg (genA b)] w fun e w' => e = .returned (.bool (newerM a b)) ∧ Below w.heap.size w w' := by
  obtain ⟨ae, ac⟩ := a
  obtain ⟨be, bc⟩ := b
  have hnew : newerM ⟨ae, ac⟩ ⟨be, bc⟩ = decide (0 < orI (cmpI ae be) (cmpI ac bc)) := by
    unfold newerM orI cmpI
    by_cases h1 : ae < be
    · rw [if_pos h1]; simp; omega
    · rw [if_neg h1]
      by_cases h2 : be < ae
      · rw [if_pos h2]; simp [h2]
      · rw [if_neg h2]
        have : ae = be := by omega
        subst this
        by_cases h3 : ac < bc
        · rw [if_pos h3]; simp; omega
        · rw [if_neg h3]
          by_cases h4 : bc < ac
          · rw [if_pos h4]; simp [h4]
          · rw [if_neg h4]; simp [h4]
  rw [hnew]
  have hca := fun W => compare_any ae be W
  have hcc := fun W => compare_any ac bc W
  generalize cmpI ae be = x at hca ⊢
  generalize cmpI ac bc = y at hcc ⊢
  have HCA := Lib.hid hca
  have HCC := Lib.hid hcc
  clear hca hcc hnew
  go_enter Try.func29, Try.ntmps29
  go_upto_region 1 with (fail)
  have hb0 : Below w.heap.size w ((w.alloc (.cells #[.int .i64 ae, .int .i64 ac] TGen)).alloc (.cells #[.int .i64 be, .int .i64 bc] TGen)) := ((Below.refl _ w).alloc (Nat.le_refl _) _).alloc (by simp) _
  have hA := (heap_alloc_new w (.cells #[.int .i64 ae, .int .i64 ac] TGen))
  have hB := (heap_alloc_new (w.alloc (.cells #[.int .i64 ae, .int .i64 ac] TGen)) (.cells #[.int .i64 be, .int .i64 bc] TGen))
  rw [World.size_alloc] at hB
  have hA2 : ((w.alloc (.cells #[.int .i64 ae, .int .i64 ac] TGen)).alloc (.cells #[.int .i64 be, .int .i64 bc] TGen)).heap[w.heap.size]? = some (.cells #[.int .i64 ae, .int .i64 ac] TGen (0, 0)) := (Below.heap_alloc _ _ _ (by simp)).trans hA
  generalize (w.alloc (.cells #[.int .i64 ae, .int .i64 ac] TGen)).alloc (.cells #[.int .i64 be, .int .i64 bc] TGen) = w1 at hb0 hA2 hB ⊢
  have hlt1 : w.heap.size < w1.heap.size := (Array.getElem?_eq_some_iff.1 hA2).1
  have hlt2 : w.heap.size + 1 < w1.heap.size := (Array.getElem?_eq_some_iff.1 hB).1
  have HB0 := Lib.hid hb0
  clear hb0 hA
  generalize hg0 : w.heap.size = g at hA2 hB hlt1 hlt2 HB0 ⊢
  have hS0 : w1.drew.cell? ⟨g, 0, none⟩ = some (.int .i64 ae) ∧ w1.drew.cell? ⟨g, 1, none⟩ = some (.int .i64 ac) ∧ w1.drew.cell? ⟨g + 1, 0, none⟩ = some (.int .i64 be) ∧ w1.drew.cell? ⟨g + 1, 1, none⟩ = some (.int .i64 bc) := ⟨cells_at hA2 0, cells_at hA2 1, cells_at hB 0, cells_at hB 1⟩
  refine reg_begin (fun w' => w'.cell? ⟨g, 0, none⟩ = some (.int .i64 ae) ∧ w'.cell? ⟨g, 1, none⟩ = some (.int .i64 ac) ∧ w'.cell? ⟨g + 1, 0, none⟩ = some (.int .i64 be) ∧ w'.cell? ⟨g + 1, 1, none⟩ = some (.int .i64 bc)) (by kernel_rfl) ?_
  (apply reg_take 0 rfl rfl (by decide +kernel) rfl); (rintro w' ⟨h1, h2, h3, h4⟩; go_simp; rfl); exact hS0; simp only [List.setIfInBounds_toArray, List.set_cons_succ, List.set_cons_zero]
  (apply reg_take 1 rfl rfl (by decide +kernel) rfl); (rintro w' ⟨h1, h2, h3, h4⟩; go_simp; rfl); exact hS0; simp only [List.setIfInBounds_toArray, List.set_cons_succ, List.set_cons_zero]
  (apply reg_take 2 rfl rfl (by decide +kernel) rfl); (rintro w' ⟨h1, h2, h3, h4⟩; go_simp; rfl); exact hS0; simp only [List.setIfInBounds_toArray, List.set_cons_succ, List.set_cons_zero]
  (apply reg_take 3 rfl rfl (by decide +kernel) rfl); (rintro w' ⟨h1, h2, h3, h4⟩; go_simp; rfl); exact hS0; simp only [List.setIfInBounds_toArray, List.set_cons_succ, List.set_cons_zero]
  (apply reg_take 5 rfl rfl (by decide +kernel) rfl); (rintro w' ⟨h1, h2, h3, h4⟩; go_simp; rfl); exact hS0; simp only [List.setIfInBounds_toArray, List.set_cons_succ, List.set_cons_zero]
  (apply reg_take 6 rfl rfl (by decide +kernel) rfl); (rintro w' ⟨h1, h2, h3, h4⟩; go_simp; rfl); exact hS0; simp only [List.setIfInBounds_toArray, List.set_cons_succ, List.set_cons_zero]
  (apply reg_take 7 rfl rfl (by decide +kernel) rfl); (rintro w' ⟨h1, h2, h3, h4⟩; go_simp; rfl); exact hS0; simp only [List.setIfInBounds_toArray, List.set_cons_succ, List.set_cons_zero]
  (apply reg_take 8 rfl rfl (by decide +kernel) rfl); (rintro w' ⟨h1, h2, h3, h4⟩; go_simp; rfl); exact hS0; simp only [List.setIfInBounds_toArray, List.set_cons_succ, List.set_cons_zero]
  refine reg_call 4 rfl rfl (by decide +kernel) rfl (f := 51) (args := #[.int .i64 ae, .int .i64 be]) (R := fun v w' => v = .int .i64 x ∧ w1.drew = w') (by kernel_rfl) ((HCA.out _).mono fun e w' h => ⟨_, h.1, rfl, h.2⟩) ?_
  rintro _ _ ⟨rfl, rfl⟩
  refine ⟨hS0, ?_⟩
  simp only [List.setIfInBounds_toArray, List.set_cons_succ, List.set_cons_zero]
  refine reg_call 9 rfl rfl (by decide +kernel) rfl (f := 51) (args := #[.int .i64 ac, .int .i64 bc]) (R := fun v w' => v = .int .i64 y ∧ w1.drew = w') (by kernel_rfl) ((HCC.out _).mono fun e w' h => ⟨_, h.1, rfl, h.2⟩) ?_
  rintro _ _ ⟨rfl, rfl⟩
  refine ⟨hS0, ?_⟩
  simp only [List.setIfInBounds_toArray, List.set_cons_succ, List.set_cons_zero]
  have hS1 : (w1.drew.alloc (.cells #[.int .i64 x, .int .i64 y] TInt)).cell? ⟨g, 0, none⟩ = some (.int .i64 ae) ∧ (w1.drew.alloc (.cells #[.int .i64 x, .int .i64 y] TInt)).cell? ⟨g, 1, none⟩ = some (.int .i64 ac) ∧ (w1.drew.alloc (.cells #[.int .i64 x, .int .i64 y] TInt)).cell? ⟨g + 1, 0, none⟩ = some (.int .i64 be) ∧ (w1.drew.alloc (.cells #[.int .i64 x, .int .i64 y] TInt)).cell? ⟨g + 1, 1, none⟩ = some (.int .i64 bc) :=
    ⟨(World.cell?_alloc_lt _ _ _ hlt1).trans hS0.1, (World.cell?_alloc_lt _ _ _ hlt1).trans hS0.2.1, (World.cell?_alloc_lt _ _ _ hlt2).trans hS0.2.2.1, (World.cell?_alloc_lt _ _ _ hlt2).trans hS0.2.2.2⟩
  refine reg_run 10 (.slice (some ⟨w1.drew.heap.size, 0, none⟩) 2 2) (w1.drew.alloc (.cells #[.int .i64 x, .int .i64 y] TInt)) rfl rfl (by decide +kernel) rfl (by go_simp) (hS1) ?_; simp only [List.setIfInBounds_toArray, List.set_cons_succ, List.set_cons_zero]
  have hN := heap_alloc_new w1.drew (.cells #[.int .i64 x, .int .i64 y] TInt)
  have hor := or_any x y w1.drew.heap.size (w1.drew.alloc (.cells #[.int .i64 x, .int .i64 y] TInt)) (cells_at hN 0) (cells_at hN 1)
  have HBF := Lib.hid (show Below g w (w1.drew.alloc (.cells #[.int .i64 x, .int .i64 y] TInt)) from HB0.out.drew.alloc (by show g ≤ w1.heap.size; omega) _)
  clear hN
  generalize w1.drew.alloc (.cells #[.int .i64 x, .int .i64 y] TInt) = w3 at hS1 hor HBF ⊢
  refine reg_call 11 rfl rfl (by decide +kernel) rfl (f := 50) (args := #[.slice (some ⟨w1.drew.heap.size, 0, none⟩) 2 2]) (R := fun v w' => v = .int .i64 (orI x y) ∧ w3 = w') (by kernel_rfl) (hor.mono fun e w' h => ⟨_, h.1, rfl, h.2⟩) ?_
  rintro _ _ ⟨rfl, rfl⟩
  refine ⟨hS1, ?_⟩
  simp only [List.setIfInBounds_toArray, List.set_cons_succ, List.set_cons_zero]
  (apply reg_take 12 rfl rfl (by decide +kernel) rfl); (rintro w' ⟨h1, h2, h3, h4⟩; go_simp; rfl); exact hS1; simp only [List.setIfInBounds_toArray, List.set_cons_succ, List.set_cons_zero]
  (apply reg_take 13 rfl rfl (by decide +kernel) rfl); (rintro w' ⟨h1, h2, h3, h4⟩; go_simp; rfl); exact hS1; simp only [List.setIfInBounds_toArray, List.set_cons_succ, List.set_cons_zero]
  refine reg_done (by decide +kernel) ?_
  go_wp2
  go_ret
  exact ⟨rfl, by rw [hg0]; exact HBF.out⟩

theorem slclone_any (s : ByteArray) (w : World) (hlim : s.size ≤ 281474976710656) : Calls Try.prog 80 #[.string s] w fun e w' => e = .returned (.string s) ∧ Below w.heap.size w w' := by
  by_cases h0 : s.size = 0
  · have hs : s = ⟨#[]⟩ := by
      apply ByteArray.ext
      exact Array.eq_empty_of_size_eq_zero h0
    subst hs
    go_enter Try.func80, Try.ntmps80
    go_wp2
    go_ret
    exact ⟨rfl, Below.refl _ _⟩
  · obtain ⟨i0, hi, hz0, hz1, hz2⟩ := info_parts infoB3
    have hinfo : (Try.prog.info? 5).map (·.size) = some 1 := by rw [hi]; simp [hz1]
    have hco : Try.prog.cellsOf 5 = 1 := by simp [Program.cellsOf, hi, hz1]
    obtain ⟨M, hM⟩ : ∃ M, M = madeCells (Value.int .u8 0).cells (((s.size : Nat) : Int).toNat * i0.size) := ⟨_, rfl⟩
    have hMs : M.size = s.size := by rw [hM, size_madeCells, hz1]; simp
    have hmk : ∀ W : World, (Instr.makeSlice 95 (.int .i64 (s.size : Int)) (.int .i64 (s.size : Int))).run Try.prog W = .ok (.slice (some ⟨W.heap.size, 0, none⟩) s.size s.size) (W.alloc (.cells M 5)) := fun W => by
      have h := run_make (P := Try.prog) W 95 5 i0 (.int .u8 0) Try.underlying95 hi hz0 .i64 .i64 (s.size : Int) (s.size : Int) (by omega) (by omega) (by rw [hz2]; omega) (by omega)
      rw [← hM] at h
      simpa using h
    clear hM
    have hcp := Lib.run_copy_row_string (P := Try.prog) (w.alloc (.cells M 5)) 95 9 3 5 w.heap.size 0 s.size s.size s M 5 Try.underlying95 hinfo (heap_alloc_new w _) (Nat.le_refl _) (by omega)
    obtain ⟨Y, hY⟩ : ∃ Y, Y = (M.toList.take 0 ++ Lib.byteCells s.data.toList ++ M.toList.drop (0 + s.size)).toArray := ⟨_, rfl⟩
    rw [← hY] at hcp
    have hYl : Y.toList = Lib.byteCells s.data.toList := by
      rw [hY, List.toList_toArray, List.take_zero, List.nil_append, List.drop_of_length_le (by rw [Array.length_toList]; omega), List.append_nil]
    have hYs : Y.size = s.size := by rw [← Array.length_toList, hYl, Lib.byteCells_length, ← Lib.size_eq]
    have hgY : ((w.alloc (.cells M 5)).setRow w.heap.size Y).heap[w.heap.size]? = some (.cells Y 5 (0, 0)) := setRow_heap _ _ M _ 5 (0, 0) (heap_alloc_new w _)
    have hne : s.data.toList ≠ [] := fun e => h0 (by rw [Lib.size_eq, e]; rfl)
    have hUS := Lib.run_unsafeString_row (P := Try.prog) ((w.alloc (.cells M 5)).setRow w.heap.size Y) 143 3 9 5 Try.underlying143 hco w.heap.size Y.size (by unfold World.shape?; rw [hgY]) s.data.toList hne (by rw [← Lib.size_eq]; omega) (by rw [← Lib.size_eq]; omega)
      (fun j x hx => Lib.cells_of_row hgY Y.size j _ (by rw [List.take_of_length_le (by rw [Array.length_toList]; exact Nat.le_refl _), hYl]; simp [Lib.byteCells, hx]))
    rw [← Lib.size_eq] at hUS
    clear hY
    have h0b : ((s.size : Int) == 0) = false := by simp [h0]
    go_enter Try.func80, Try.ntmps80
    go_wp2
    go_ret
    have hb1 : Below w.heap.size w (w.alloc (.cells M 5)) := (Below.refl _ w).alloc (Nat.le_refl _) _
    have hb2 : Below w.heap.size (w.alloc (.cells M 5)) ((w.alloc (.cells M 5)).setRow w.heap.size Y) := ⟨rfl, rfl, rfl, by simp, fun k hk => setRow_other _ _ _ _ (by omega)⟩
    exact ⟨rfl, Lib.below_freeze (hb1.trans hb2) (p := ⟨w.heap.size, 0, none⟩) (Nat.le_refl _) _⟩
theorem clone_any (s : ByteArray) (w : World) (hlim : s.size ≤ 281474976710656) : Calls Try.prog 70 #[.string s] w fun e w' => e = .returned (.string s) ∧ Below w.heap.size w w' := by
  go_enter Try.func70, Try.ntmps70
  go_wp2_with (go_at_call 80; refine (slclone_any s w hlim).mono ?_; rintro e w1 ⟨rfl, hb⟩)
  go_ret
  exact ⟨rfl, hb⟩

theorem size_any (n : Int) (h0 : 0 ≤ n) (h1 : n ≤ 4611686018427387904) (w : World) : Calls Try.prog 13 #[.int .i64 n] w fun e w' => e = .returned (.int .i64 (sizeM n)) ∧ w = w' := by
  unfold sizeM
  rw [if_neg (by omega)]
  have hd : decide (n < 0) = false := decide_eq_false (by omega)
  go_enter Try.func13, Try.ntmps13
  go_wp2
  go_ret
  exact ⟨by rw [show n + 25 = n + 26 - 1 by omega]; rfl, rfl⟩
theorem size_neg (w : World) : Calls Try.prog 13 #[.int .i64 (-1)] w fun e w' => e = .returned (.int .i64 0) ∧ w = w' := by
  go_enter Try.func13, Try.ntmps13
  go_wp2
  go_ret
  exact ⟨rfl, rfl⟩
theorem wsectors_any (c : CfgM) (h : c.log ≤ 65536) (h0 : 0 ≤ c.log) (w : World) : Calls Try.prog 30 #[.agg (cfgA c)] w fun e w' => e = .returned (.int .i64 (logN c)) ∧ Below w.heap.size w w' := by
  unfold logN
  go_enter Try.func30, Try.ntmps30
  go_wp2
  go_ret
  exact ⟨rfl, (Below.refl _ _).alloc (Nat.le_refl _) _⟩
set_option maxHeartbeats 1000000 in
theorem wvalidGen_any (g : GenM) (w : World) : Calls Try.prog 28 #[.agg (genA g)] w fun e w' => e = .returned (.bool (genV g)) ∧ Below w.heap.size w w' := by
  have he : genV g = (decide (0 ≤ min g.epoch g.count) && decide (max g.epoch g.count < 4294967296)) := rfl
  cases h0 : decide (0 ≤ min g.epoch g.count)
  · rw [he, h0]; clear he
    go_enter Try.func28, Try.ntmps28
    go_wp2
    go_ret
    exact ⟨rfl, (Below.refl _ _).alloc (Nat.le_refl _) _⟩
  rw [he, h0]; clear he
  go_enter Try.func28, Try.ntmps28
  go_wp2
  go_ret
  exact ⟨rfl, (Below.refl _ _).alloc (Nat.le_refl _) _⟩
abbrev TTail : TypeId := 31
abbrev tailA (t : TailM) : Array Value := #[.int .i64 t.next, .int .i64 t.number, .int .i64 t.gen.epoch, .int .i64 t.gen.count]
theorem run_disks (c : CfgM) (w : World) : (Instr.field 53 (.agg (cfgA c)) 0).run Try.prog w = .ok (.int .i64 c.disks) w := by kernel_rfl
set_option maxHeartbeats 2000000 in
set_option maxRecDepth 20000 in
theorem wvalid_any (p : Nat) (S : ShelfM) (F : HProp) (d : Int) (t : TailM) (w : World) (hS : Sat w (shelfAt SH p S * F)) :
    Calls Try.prog 26 #[.pointer (some ⟨p, 0, none⟩), .int .i64 d, .agg (tailA t)] w fun e w' => e = .returned (.bool (decide (0 ≤ d) && decide (d < S.cfg.disks) && tailV t)) ∧ Below w.heap.size w w' := by
  have he : (decide (0 ≤ d) && decide (d < S.cfg.disks) && tailV t) = (decide (0 ≤ d) && decide (d < S.cfg.disks) && decide (0 ≤ min t.next t.number) && decide (max t.next t.number ≤ 2147483647) && genV t.gen) := by unfold tailV; simp only [Bool.and_assoc]
  rw [he]
  clear he
  have HC := Lib.hid (fun W (hb : Below w.heap.size w W) => config_any p S F W (hS.below hb))
  have hgv := fun W => wvalidGen_any t.gen W
  obtain ⟨bv, hbv⟩ : ∃ b, genV t.gen = b := ⟨_, rfl⟩
  rw [hbv] at hgv ⊢
  obtain ⟨nx, nu, ⟨ge, gc⟩⟩ := t
  simp only at hgv ⊢
  clear hbv hS
  have HGV := Lib.hid hgv
  clear hgv
  obtain ⟨c, hc⟩ : ∃ c, S.cfg = c := ⟨_, rfl⟩
  rw [hc] at HC ⊢
  clear hc
  cases h0 : decide (0 ≤ d)
  · simp only [Bool.false_and]
    go_enter Try.func26, Try.ntmps26
    go_wp2
    go_ret
    exact ⟨rfl, (Below.refl _ _).alloc (Nat.le_refl _) _⟩
  cases h1 : decide (d < c.disks)
  · simp only [Bool.and_false, Bool.false_and]
    go_enter Try.func26, Try.ntmps26
    go_wp2_with (first
      | (go_at_call 31; refine (HC.out _ ((Below.refl _ _).alloc (Nat.le_refl _) _)).mono ?_; rintro e w1 ⟨rfl, hb⟩; have c0 := (hb.cell (p := ⟨w.heap.size, 0, none⟩) (by simp)).trans (cells_at (heap_alloc_new w _) 0); have c1 := (hb.cell (p := ⟨w.heap.size, 1, none⟩) (by simp)).trans (cells_at (heap_alloc_new w _) 1); have c2 := (hb.cell (p := ⟨w.heap.size, 2, none⟩) (by simp)).trans (cells_at (heap_alloc_new w _) 2); have c3 := (hb.cell (p := ⟨w.heap.size, 3, none⟩) (by simp)).trans (cells_at (heap_alloc_new w _) 3); have hbb := Lib.hid (((Below.refl w.heap.size w).alloc (Nat.le_refl _) (.cells (tailA ⟨nx, nu, ⟨ge, gc⟩⟩) TTail)).trans (hb.mono (by simp))); have hlt := hb.size; rw [World.size_alloc] at hlt; clear hb; have hfd := run_disks c w1)
      | (go_at_call 28; refine (HGV.out _).mono ?_; rintro e w2 ⟨rfl, hb2⟩))
    go_ret
    exact ⟨rfl, hbb.out⟩
  cases h2 : decide (0 ≤ min nx nu)
  · simp only [Bool.and_false, Bool.false_and]
    go_enter Try.func26, Try.ntmps26
    go_wp2_with (first
      | (go_at_call 31; refine (HC.out _ ((Below.refl _ _).alloc (Nat.le_refl _) _)).mono ?_; rintro e w1 ⟨rfl, hb⟩; have c0 := (hb.cell (p := ⟨w.heap.size, 0, none⟩) (by simp)).trans (cells_at (heap_alloc_new w _) 0); have c1 := (hb.cell (p := ⟨w.heap.size, 1, none⟩) (by simp)).trans (cells_at (heap_alloc_new w _) 1); have c2 := (hb.cell (p := ⟨w.heap.size, 2, none⟩) (by simp)).trans (cells_at (heap_alloc_new w _) 2); have c3 := (hb.cell (p := ⟨w.heap.size, 3, none⟩) (by simp)).trans (cells_at (heap_alloc_new w _) 3); have hbb := Lib.hid (((Below.refl w.heap.size w).alloc (Nat.le_refl _) (.cells (tailA ⟨nx, nu, ⟨ge, gc⟩⟩) TTail)).trans (hb.mono (by simp))); have hlt := hb.size; rw [World.size_alloc] at hlt; clear hb; have hfd := run_disks c w1)
      | (go_at_call 28; refine (HGV.out _).mono ?_; rintro e w2 ⟨rfl, hb2⟩))
    go_ret
    exact ⟨rfl, hbb.out⟩
  cases h3 : decide (max nx nu ≤ 2147483647)
  · simp only [Bool.and_false, Bool.false_and]
    go_enter Try.func26, Try.ntmps26
    go_wp2_with (first
      | (go_at_call 31; refine (HC.out _ ((Below.refl _ _).alloc (Nat.le_refl _) _)).mono ?_; rintro e w1 ⟨rfl, hb⟩; have c0 := (hb.cell (p := ⟨w.heap.size, 0, none⟩) (by simp)).trans (cells_at (heap_alloc_new w _) 0); have c1 := (hb.cell (p := ⟨w.heap.size, 1, none⟩) (by simp)).trans (cells_at (heap_alloc_new w _) 1); have c2 := (hb.cell (p := ⟨w.heap.size, 2, none⟩) (by simp)).trans (cells_at (heap_alloc_new w _) 2); have c3 := (hb.cell (p := ⟨w.heap.size, 3, none⟩) (by simp)).trans (cells_at (heap_alloc_new w _) 3); have hbb := Lib.hid (((Below.refl w.heap.size w).alloc (Nat.le_refl _) (.cells (tailA ⟨nx, nu, ⟨ge, gc⟩⟩) TTail)).trans (hb.mono (by simp))); have hlt := hb.size; rw [World.size_alloc] at hlt; clear hb; have hfd := run_disks c w1)
      | (go_at_call 28; refine (HGV.out _).mono ?_; rintro e w2 ⟨rfl, hb2⟩))
    go_ret
    exact ⟨rfl, hbb.out⟩
  · simp only [Bool.true_and]
    go_enter Try.func26, Try.ntmps26
    go_wp2_with (first
      | (go_at_call 31; refine (HC.out _ ((Below.refl _ _).alloc (Nat.le_refl _) _)).mono ?_; rintro e w1 ⟨rfl, hb⟩; have c0 := (hb.cell (p := ⟨w.heap.size, 0, none⟩) (by simp)).trans (cells_at (heap_alloc_new w _) 0); have c1 := (hb.cell (p := ⟨w.heap.size, 1, none⟩) (by simp)).trans (cells_at (heap_alloc_new w _) 1); have c2 := (hb.cell (p := ⟨w.heap.size, 2, none⟩) (by simp)).trans (cells_at (heap_alloc_new w _) 2); have c3 := (hb.cell (p := ⟨w.heap.size, 3, none⟩) (by simp)).trans (cells_at (heap_alloc_new w _) 3); have hbb := Lib.hid (((Below.refl w.heap.size w).alloc (Nat.le_refl _) (.cells (tailA ⟨nx, nu, ⟨ge, gc⟩⟩) TTail)).trans (hb.mono (by simp))); have hlt := hb.size; rw [World.size_alloc] at hlt; clear hb; have hfd := run_disks c w1)
      | (go_at_call 28; refine (HGV.out _).mono ?_; rintro e w2 ⟨rfl, hb2⟩))
    go_ret
    exact ⟨rfl, hbb.out.trans (hb2.mono hbb.out.size)⟩
end Go.Proofs.Ytbegomjbakidmaa

/- Appending a string, or zeros, to bytes of one's own; sector.Seal. -/
namespace Go.Proofs.Ytbegomjbakidmaa
open Go.RowKit Go.Sl Go.ChangeMaps

theorem secL_length (l : List UInt8) : (secL l).length = l.length := by simp [secL]
theorem strCells_strB (l : List UInt8) : Lib.strCells (strB l) = secL l := by
  simp [Lib.strCells, strB, secL, byteV]
theorem own_fresh {w : World} {F : HProp} (l : List UInt8) (c : Array Value) (hc : c.toList = secL l) (hl : l.length ≤ maxLen) (hF : Sat w F) : Sat (w.alloc (.cells c TByte)) (ownB (.slice (some ⟨w.heap.size, 0, none⟩) l.length l.length) l * F) := by
  have h1 : c.size = l.length := by rw [← Array.length_toList, hc, secL_length]
  refine ownAt_iff.2 (.inr ⟨w.heap.size, l.length, c, ⟨rfl, Nat.le_refl _, hl, by omega, ?_, by rw [secL_length]; omega⟩, hF.alloc _⟩)
  rw [hc, List.take_of_length_le (by rw [secL_length]; omega)]
theorem zero_u8 (n : Nat) : (Builtin.zeroCells (Value.int .u8 0).cells n).toList = List.replicate n (.int .u8 0) := by
  have h : (Value.int .u8 0).cells = #[Value.int .u8 0] := rfl
  rw [h]
  unfold Builtin.zeroCells
  apply List.ext_getElem?
  intro j
  simp [Nat.mod_one, List.getElem?_replicate]
  split <;> simp_all
section
variable {w : World} {F : HProp} {v : Value} {l : List UInt8}
theorem ownB_iff (h0 : 0 < l.length) : Sat w (ownB v l * F) → ∃ g cap cur, v = .slice (some ⟨g, 0, none⟩) l.length cap ∧ l.length ≤ cap ∧ cap ≤ maxLen ∧ cur.size = cap ∧ cur.toList.take l.length = secL l ∧ Sat w (pts g (.cells cur TByte (0, 0)) * F) := by
  intro h
  rcases ownAt_iff.1 h with ⟨_, h2, _⟩ | ⟨g, cap, cur, ⟨h1, h2, h3, h4, h5, _⟩, hs⟩
  · omega
  · exact ⟨g, cap, cur, h1, h2, h3, by omega, by rw [Nat.mul_one] at h5; exact h5, hs⟩
theorem ownB_olds {g : Nat} {cur : Array Value} (ht : cur.toList.take l.length = secL l) (hb : w.heap[g]? = some (.cells cur TByte (0, 0))) : ∀ j u, (secL l)[j]? = some u → w.cell? ((⟨g, 0, none⟩ : Addr).add j) = some u := by
  intro j u hu
  rw [Addr.add_mid, cells_at hb, Nat.zero_add]
  rw [← ht, List.getElem?_take] at hu
  split at hu
  · rw [Array.getElem?_toList] at hu; exact hu
  · cases hu
theorem own_grown (m : List UInt8) (old : Nat) (hF : Sat w F) (h63 : l.length + m.length ≤ maxLen) (c : Array Value) (k : Nat) (hk : k = grownCap w (l.length + m.length) old TByte) (hc : c.toList = secL l ++ secL m ++ List.replicate (k - (l.length + m.length)) (.int .u8 0)) :
    Sat (w.drew.alloc (.cells c TByte)) (ownB (.slice (some ⟨w.heap.size, 0, none⟩) (l.length + m.length) k) (l ++ m) * F) := by
  have hge := grownCap_ge w (l.length + m.length) old TByte
  have hcm : grownCap w (l.length + m.length) old TByte ≤ maxLen := grownCap_le_maxLen w (l.length + m.length) old TByte h63
  rw [← hk] at hge hcm
  have e : (l ++ m).length = l.length + m.length := List.length_append
  have e2 : secL (l ++ m) = secL l ++ secL m := by simp [secL]
  unfold ownB
  rw [e, e2]
  refine ownAt_iff.2 (.inr ⟨w.heap.size, k, c, ⟨rfl, hge, hcm, ?_, ?_, by rw [List.length_append, secL_length, secL_length, Nat.mul_one]⟩, hF.drew.alloc _⟩)
  · rw [← Array.length_toList, hc]
    simp only [List.length_append, secL_length, List.length_replicate]
    omega
  · rw [hc, List.take_left' (by rw [List.length_append, secL_length, secL_length, Nat.mul_one])]
theorem own_room (m : List UInt8) {g cap : Nat} {cur : Array Value} (ht : cur.toList.take l.length = secL l) (hsz : cur.size = cap) (hcm : cap ≤ maxLen) (hr : l.length + m.length ≤ cap) (hs : Sat w (pts g (.cells cur TByte (0, 0)) * F)) (c : Array Value) (hc : c.toList = cur.toList.take l.length ++ secL m ++ cur.toList.drop (l.length + m.length)) :
    Sat (w.setRow g c) (ownB (.slice (some ⟨g, 0, none⟩) (l.length + m.length) cap) (l ++ m) * F) := by
  have e : (l ++ m).length = l.length + m.length := List.length_append
  have e2 : secL (l ++ m) = secL l ++ secL m := by simp [secL]
  have hlen : cur.toList.length = cap := by rw [Array.length_toList]; exact hsz
  unfold ownB
  rw [e, e2]
  refine ownAt_iff.2 (.inr ⟨g, cap, c, ⟨rfl, hr, hcm, ?_, ?_, by rw [List.length_append, secL_length, secL_length, Nat.mul_one]⟩, hs.setRow⟩)
  · rw [← Array.length_toList, hc]
    simp only [List.length_append, List.length_take, List.length_drop, secL_length]
    omega
  · rw [hc, ht, List.take_left' (by rw [List.length_append, secL_length, secL_length, Nat.mul_one])]
theorem run_append_str (h0 : 0 < l.length) (h : Sat w (ownB v l * F)) (m : List UInt8) (hs : l.length + m.length ≤ 1000000) (ty : TypeId) :
    ∃ v' w', (Builtin.append_ #[95, 9] ty #[v, .string (strB m)]).run Try.prog w = .ok v' w' ∧ Same w w' ∧ Sat w' (ownB v' (l ++ m) * F) := by
  obtain ⟨i, hi, hz, hsz, hby⟩ := info_parts infoB3
  obtain ⟨g, cap, cur, rfl, hn, hcm, hcs, ht, hS⟩ := ownB_iff h0 h
  have hms : (strB m).size = m.length := strB_size m
  have hsc := strCells_strB m
  by_cases hr : l.length + m.length ≤ cap
  · have hrun := Lib.run_append_room_string (P := Try.prog) w 95 9 ty TByte i Try.underlying95 Try.underlying9 hi hsz g l.length cap cur hS.block (strB m) (by rw [hms]; exact hr) (by rw [hms, hcs]; exact hr)
    rw [hms, hsc] at hrun
    exact ⟨_, _, hrun, Same.setRow (Same.refl w) _ _, own_room m ht hcs hcm hr hS _ (by simp)⟩
  · have hrun := Lib.run_append_grow_string (P := Try.prog) w 95 9 ty TByte i _ Try.underlying95 Try.underlying9 hi hz ⟨g, 0, none⟩ l.length cap (secL l) (by rw [secL_length, hsz]; omega) (ownB_olds ht hS.block) (strB m) (by rw [hms]; omega) (by rw [hms]; omega) (by rw [hms]; exact growslice_fits (by omega) (by rw [hby]; omega))
    rw [hms, hsc] at hrun
    exact ⟨_, _, hrun, ((Same.refl w).drew).alloc _, own_grown m cap hS.right (by unfold maxLen; omega) _ _ rfl (by
      simp only [Array.toList_append, List.append_assoc]
      rw [zero_u8])⟩
theorem run_append_zeros (h0 : 0 < l.length) (h : Sat w (ownB v l * F)) (m : Nat) (hs : l.length + m ≤ 1000000) (ty : TypeId) :
    ∃ v' w', (Builtin.append_ #[95, 3] ty #[v, .int .i64 (m : Int)]).run Try.prog w = .ok v' w' ∧ Same w w' ∧ Sat w' (ownB v' (l ++ zerosL m) * F) := by
  obtain ⟨i, hi, hz, hsz, hby⟩ := info_parts infoB3
  obtain ⟨g, cap, cur, rfl, hn, hcm, hcs, ht, hS⟩ := ownB_iff h0 h
  have hzl : (zerosL m).length = m := by simp [zerosL]
  by_cases hr : l.length + m ≤ cap
  · have hst := run_storeCells_at Try.prog g l.length TByte (secL (zerosL m)) 0 cur w hS.block (by rw [secL_length, hzl, hcs]; omega) (fun u hu => by
      obtain ⟨x, _, rfl⟩ := List.mem_map.1 hu
      rfl)
    have hz0 : secL (zerosL m) = List.replicate m (.int .u8 0) := by simp [secL, zerosL, byteV]
    have hw : IntKind.i64.wrap (m : Int) = m := by rw [IntKind.wrap_i64]; omega
    have hneg : ¬ ((m : Int) < 0) := by omega
    have h48 : ¬ (281474976710656 < (m : Int)) := by omega
    have hzc : (if m = 0 then #[] else Builtin.zeroCells (Value.int .u8 0).cells m) = (List.replicate m (.int .u8 0)).toArray := by
      apply Array.ext'
      split
      · next h => subst h; rfl
      · rw [zero_u8]
    have hrun : (Builtin.append_ #[95, 3] ty #[.slice (some ⟨g, 0, none⟩) l.length cap, .int .i64 (m : Int)]).run Try.prog w = .ok (.slice (some ⟨g, 0, none⟩) (l.length + m) cap) (w.setRow g (cur.toList.take l.length ++ secL (zerosL m) ++ cur.toList.drop (l.length + m)).toArray) := by
      have hst' : (storeCells ⟨g, l.length, none⟩ (List.replicate m (.int .u8 0)) 0).run Try.prog w = .ok () (w.setRow g (cur.toList.take l.length ++ secL (zerosL m) ++ cur.toList.drop (l.length + m)).toArray) := by
        rw [hz0] at hst ⊢
        simpa using hst
      by_cases hm : m = 0
      · subst hm
        have hw0 : IntKind.i64.wrap 0 = 0 := by decide
        simp [Builtin.append_, run_underlying Try.underlying95, run_underlying Try.underlying3, sizeOf, typeInfo, hi, hsz, asInt, asIntOf, hn, hw0, Addr.add_lit] at hst' ⊢
        first | done | simp [hst']
      · simp [Builtin.append_, run_underlying Try.underlying95, run_underlying Try.underlying3, sizeOf, typeInfo, zeroValue, hi, hz, hsz, hby, asInt, asIntOf, hw, hneg, h48, hr, hm, Addr.add_lit, zero_u8]
        simp [hst']
    exact ⟨_, _, hrun, Same.setRow (Same.refl w) _ _, by
      have := own_room (zerosL m) ht hcs hcm (by rw [hzl]; exact hr) hS (cur.toList.take l.length ++ secL (zerosL m) ++ cur.toList.drop (l.length + m)).toArray (by simp [hzl])
      rwa [hzl] at this⟩
  · have hrun := Lib.run_append_grow_zeros (P := Try.prog) w 95 3 ty TByte i _ .i64 .i64 Try.underlying95 Try.underlying3 hi hz (some ⟨g, 0, none⟩) l.length cap (secL l) (by rw [hsz]; exact run_firstCells_some w.drew 1 l.length ⟨g, 0, none⟩ l.length cap (secL l) (by rw [secL_length]; omega) (ownB_olds ht hS.drew.block)) m (by omega) (by omega) (by omega) (by omega) (by rw [hby]; omega) (growslice_fits (by omega) (by rw [hby]; omega))
    have := own_grown (l := l) (zerosL m) cap hS.right (by rw [hzl]; unfold maxLen; omega) ((secL l).toArray ++ Builtin.zeroCells (Value.int .u8 0).cells m ++ Builtin.zeroCells (Value.int .u8 0).cells (grownCap w (l.length + m) cap TByte - (l.length + m))) _ (by rw [hzl]) (by
      rw [hzl]
      simp only [Array.toList_append, zero_u8]
      simp [secL, zerosL, byteV])
    rw [hzl] at this
    exact ⟨_, _, hrun, ((Same.refl w).drew).alloc _, this⟩
end
end Go.Proofs.Ytbegomjbakidmaa
