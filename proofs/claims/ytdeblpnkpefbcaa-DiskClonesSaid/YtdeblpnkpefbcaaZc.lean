/- DiskClones: a clone of a disk behaves like the disk, and what is done with one of the two does not change the other one. No condition. -/
import Derived.Test.YtdeblpnkpefbcaaLp
namespace Go.Proofs.Ytdeblpnkpefbcaa
open Go.RowKit Go.Sl Go.ChangeMaps Go.ChangeShapes Go.WideShapes Go.ChangeAt

def resL : DiskM → List OpM → List Int
  | _, [] => []
  | D, o :: l => (doM D o).2 :: resL (doM D o).1 l
theorem resL_length : ∀ (l : List OpM) (D : DiskM), (resL D l).length = l.length
  | [], _ => rfl
  | o :: l, D => by simp [resL, resL_length l]
theorem resL_snoc : ∀ (l : List OpM) (D : DiskM) (o : OpM), resL D (l ++ [o]) = resL D l ++ [(doM (runM D l) o).2]
  | [], _, _ => rfl
  | a :: l, D, o => by simp only [List.cons_append, resL, resL_snoc l]; rfl
theorem resL_take (D : DiskM) {l : List OpM} {k : Nat} {o : OpM} (h : l[k]? = some o) : resL D (l.take (k + 1)) = resL D (l.take k) ++ [(doM (runM D (l.take k)) o).2] := by
  rw [List.take_add_one, h]; exact resL_snoc _ _ _
theorem resL_at : ∀ (l : List OpM) (D : DiskM) (k : Nat) (o : OpM), l[k]? = some o → (resL D l)[k]? = some (doM (runM D (l.take k)) o).2
  | [], _, k, _, h => by simp at h
  | a :: l, D, 0, o, h => by simp at h; subst h; rfl
  | a :: l, D, k + 1, o, h => by
    simp only [List.getElem?_cons_succ] at h
    simp only [resL, List.getElem?_cons_succ, List.take_succ_cons]
    exact resL_at l _ k o h

abbrev TErr : TypeId := 33
def rowR (v : Value) (l : List Int) : HProp := ownAt TErr 1 v l.length (l.map (Value.int .i64))
theorem rowR_get {w : World} {v : Value} {l : List Int} {X : HProp} (h : Sat w (rowR v l * X)) (hl : 0 < l.length) :
    ∃ g cap, v = .slice (some ⟨g, 0, none⟩) l.length cap ∧ ∀ (w' : World) (X' : HProp), Sat w' (rowR v l * X') → ∀ j x, l[j]? = some x → w'.cell? ⟨g, j, none⟩ = some (.int .i64 x) := by
  obtain ⟨g, cap, rfl, _⟩ := ownAt_cells h hl
  refine ⟨g, cap, rfl, fun w' X' h' j x hj => ?_⟩
  obtain ⟨g', cap', he, hc⟩ := ownAt_cells h' hl
  injection he with h1 h2 h3
  obtain rfl : g = g' := by simpa using h1
  exact hc j _ (by rw [List.getElem?_map, hj]; rfl)
theorem info_err : (Try.prog.info? TErr).map (fun i => (i.zero, i.size, i.bytes)) = some (some (.int .i64 0), 1, 8) := by kernel_rfl

structure CloSt (w : World) (p q N : Nat) (D : DiskM) (l : List OpM) (ov : Value) (rv i : Value) (wr : World) : Prop where
  st : ∃ k : Nat, k ≤ l.length ∧ i = .int .i64 k ∧ Same w wr ∧ Sat wr (diskAt TD TS q (runM D (l.take k)) * (rowR rv (resL D (l.take k)) * (diskAt TD TS p D * (rowS ov (strB D N) * old w))))
structure CloSt3 (w : World) (p q N : Nat) (D C : DiskM) (l : List OpM) (fv rv : Value) (i : Value) (wr : World) : Prop where
  st : ∃ k : Nat, k ≤ l.length ∧ i = .int .i64 k ∧ Same w wr ∧ Sat wr (diskAt TD TS p (runM D (l.take k)) * (rowR rv (resL D l) * (diskAt TD TS q C * (rowS fv (strB C N) * old w))))

theorem step_do {p : Nat} {D D' : DiskM} {F : HProp} {w : World} {o : OpM} {pv : Value} {k : Int} (hS : Sat w (diskAt TD TS p D * F)) (hpk : ∀ w', Sat w' F → IntsAt w' pv o.picks) (hd : doM D o = (D', k)) :
    Calls Try.prog 15 #[.pointer (some ⟨p, 0, none⟩), .agg (opA o pv)] w fun e w' => e = .returned (.int .i64 k) ∧ Hid (Same w w' ∧ Sat w' (diskAt TD TS p D' * F)) := by
  have := do_any p D F o pv w hS hpk
  rw [hd] at this; exact this

theorem same_true {va vb : Value} {l : List Int} {w : World} (ha : IntsAt w va l) (hb : IntsAt w vb l) (hm : l.length ≤ 4611686018427387904) :
    Calls Try.prog 32 #[va, vb] w fun e w' => e = .returned (.bool true) ∧ Hid (Below w.heap.size w w') := by
  have := same_any va vb l l w ha hb hm
  rw [decide_eq_true rfl] at this; exact this

set_option maxHeartbeats 1000000 in
theorem clones_no (n : Int) (sv mv : Value) (l m : List OpM) (w : World) (hsc : ScrAt w sv l) (hmc : ScrAt w mv m) (h : ¬ (0 ≤ n ∧ n ≤ 40 ∧ l.length ≤ 200 ∧ m.length ≤ 200)) :
    Calls Try.prog 9 #[.int .i64 n, sv, mv] w fun e w' => e = .returned (.bool true) ∧ Below w.heap.size w w' := by
  obtain ⟨ao, cap, rfl, _⟩ := hsc
  obtain ⟨am, cam, rfl, _⟩ := hmc
  by_cases hf : 0 ≤ n ∧ n ≤ 40 ∧ l.length ≤ 200
  · have c1 := few_yes n ao l.length cap w hf.1 hf.2.1 hf.2.2
    have c2 := few_no n am m.length cam w (fun h' => h ⟨hf.1, hf.2.1, hf.2.2, h'.2.2⟩)
    clear h hf
    go_enter Try.func9, Try.ntmps9
    go_wp2_with (first
      | (go_at_call 10; (with_reducible refine c1.mono ?_); rintro e w' ⟨rfl, hw⟩; subst hw)
      | (go_at_call 10; (with_reducible refine c2.mono ?_); rintro e w' ⟨rfl, hw⟩; subst hw)
      | (go_at_call 11; refine (sanity_any _).mono ?_; rintro e w' ⟨rfl, hb⟩; replace hb := Lib.hid hb))
    go_ret
    exact ⟨rfl, hb.out⟩
  · have c1 := few_no n ao l.length cap w hf
    clear h hf
    go_enter Try.func9, Try.ntmps9
    go_wp2_with (first
      | (go_at_call 10; refine c1.mono ?_; rintro e w' ⟨rfl, hw⟩; subst hw)
      | (go_at_call 11; refine (sanity_any _).mono ?_; rintro e w' ⟨rfl, hb⟩; replace hb := Lib.hid hb))
    go_ret
    exact ⟨rfl, hb.out⟩

set_option linter.unusedSimpArgs false in
set_option maxHeartbeats 4000000 in
set_option maxRecDepth 20000 in
theorem clones_yes (N : Nat) (sv mv : Value) (l m : List OpM) (w : World) (hsc : ScrAt w sv l) (hmc : ScrAt w mv m) (hN : N ≤ 40) (hl : l.length ≤ 200) (hml : m.length ≤ 200) :
    Calls Try.prog 9 #[.int .i64 (N : Int), sv, mv] w fun e w' => e = .returned (.bool true) ∧ Below w.heap.size w w' := by
  obtain ⟨ao, cap, rfl, hsr⟩ := hsc
  obtain ⟨am, cam, rfl, hmr⟩ := hmc
  have HSR := Lib.hid hsr
  have HMR := Lib.hid hmr
  clear hsr hmr
  have HO := Lib.hid (Sat.old w)
  have c1 := few_yes (N : Int) ao l.length cap w (by omega) (by omega) hl
  have c2 := few_yes (N : Int) am m.length cam w (by omega) (by omega) hml
  obtain ⟨te, hte, hze, htse, hzse⟩ := info_parts info_err
  go_enter Try.func9, Try.ntmps9
  go_upto_region 4 with (first
    | (go_at_call 10; (with_reducible refine c1.mono ?_); rintro e w' ⟨rfl, hw⟩; subst hw)
    | (go_at_call 10; (with_reducible refine c2.mono ?_); rintro e w' ⟨rfl, hw⟩; subst hw)
    | (go_at_call 12; refine (new_any (N : Int) (emp * old w) w ((emp_star (old w)).symm ▸ HO.out)).mono ?_; rintro e w1 ⟨p, rfl, H1⟩; replace H1 := Lib.hid H1))
  go_wp2
  go_loopw [35] (fun i wr => LoopSt w p (DiskM.new (N : Int)) l (emp) i wr) (fun i _ => l.length - (intOf i).toNat)
  case atStart => exact ⟨⟨0, Nat.zero_le _, rfl, H1.out⟩⟩
  case round =>
    obtain ⟨k, hk, rfl, hsmr, hsr⟩ := hrel.st
    clear hrel
    have H2 := Lib.hid (And.intro hsmr hsr)
    by_cases hlt : k < l.length
    · obtain ⟨o, ho⟩ : ∃ o, l[k]? = some o := ⟨_, List.getElem?_eq_getElem hlt⟩
      obtain ⟨b, off, rfl, hro⟩ := HSR.out (by rintro rfl; simp at hlt)
      obtain ⟨pv, hro1, hint⟩ := hro k o ho
      have hrow : wr.rangeAt b (off + k * 6) (opA o pv).toList := fun t u hu => (World.cell?_of_block ((hsr.perm (show _ = (diskAt TD TS p (runM (DiskM.new (N : Int)) (l.take k)) * (emp)) * old w from by ac_rfl)).of_old b (World.block_lt_of_cell? w ⟨b, off + k * 6 + t, none⟩ (hro1 t u hu)))).trans (hro1 t u hu)
      have hone := IntsAt.one hint
      have hltd : decide ((k : Int) < (l.length : Int)) = true := decide_eq_true (by omega)
      have hki : (k : Int) ≤ 200 := by omega
      have HO := Lib.hid ho
      have HI := Lib.hid (show ∀ w', Sat w' ((emp) * old w) → IntsAt w' pv o.picks from fun w' h => IntsAt.old hint h)
      clear ho hro hro1 hsmr hsr hint
      go_wp2_with (first
        | ((with_reducible (apply wp_load_scr hrow)); rfl; rfl; rfl)
        | ((with_reducible (refine wpList_alloc_zero ?_ TOp ?_ _ (zeroTOp _) ?_)); rfl; rfl)
        | ((with_reducible (apply wp_store_opf hone)); rfl; rfl; rfl; rfl)
        | ((with_reducible (apply wp_load_opf)); rfl; rfl; rfl)
        | (go_at_call 15; refine (do_any p _ _ o pv _ (H2.out.2.allocKeep _) HI.out).mono ?_; rintro e w' ⟨rfl, h2⟩; replace H2 := Lib.hid (And.intro ((H2.out.1.alloc _).trans h2.out.1) h2.out.2); clear h2))
      go_roundw
      case rel => exact ⟨⟨k + 1, hlt, rfl, H2.out.1, by rw [runM_take _ HO.out]; exact H2.out.2⟩⟩
      case measure => simp only [intOf]; omega
    · obtain rfl : k = l.length := by omega
      have hltd : decide ((l.length : Int) < (l.length : Int)) = false := decide_eq_false (by omega)
      clear hsmr hsr
      obtain ⟨D, hD⟩ : ∃ D, D = runM (DiskM.new (N : Int)) l := ⟨_, rfl⟩
      have hDn : D.n = N := by rw [hD, runM_n]; simp only [DiskM.new]; omega
      replace H1 := Lib.hid (show Same w wr ∧ Sat wr (diskAt TD TS p D * (emp * old w)) by have := H2.out; rw [runM_all, ← hD] at this; exact this)
      clear H2 hD
      have HDN := Lib.hid hDn
      clear hDn
      go_upto_region 12 with (go_at_call 31; refine (clone_any p D _ _ H1.out.2).mono ?_; rintro e w' ⟨q, rfl, h2⟩; replace H1 := Lib.hid (show Same w w' ∧ Sat w' (diskAt TD TS p D * (diskAt TD TS q D * old w)) from ⟨H1.out.1.trans h2.1, by have := h2.2; rw [emp_star] at this; exact this.perm (by ac_rfl)⟩); clear h2)
      go_upto_region 15 with (go_at_call 22; refine (step_contents H1.out.2 HDN.out).mono ?_; rintro e w' ⟨ov, rfl, h2⟩; replace H1 := Lib.hid (And.intro (H1.out.1.trans h2.out.1) h2.out.2); clear h2)
      replace H1 := Lib.hid (show Same w w' ∧ Sat w' (diskAt TD TS q (runM D (m.take 0)) * (rowR (.slice none 0 0) (resL D (m.take 0)) * (diskAt TD TS p D * (rowS ov (strB D N) * old w)))) from ⟨H1.out.1, by
        have := ownAt_nil (T := TErr) (sz := 1).2 H1.out.2
        exact this.perm (show _ = _ from by show ownAt TErr 1 (.slice none 0 0) 0 [] * (rowS ov (strB D N) * (diskAt TD TS p D * (diskAt TD TS q D * old w))) = diskAt TD TS q D * (ownAt TErr 1 (.slice none 0 0) 0 [] * (diskAt TD TS p D * (rowS ov (strB D N) * old w))); ac_rfl)⟩)
      go_wp2
      go_loopw [12, 52] (fun rv i wr => CloSt w p q N D m ov rv i wr) (fun _ i _ => m.length - (intOf i).toNat)
      case atStart => exact ⟨⟨0, Nat.zero_le _, rfl, H1.out⟩⟩
      case round =>
        obtain ⟨k, hk, rfl, hsmr, hsr⟩ := hrel.st
        clear hrel
        have H2 := Lib.hid (And.intro hsmr hsr)
        by_cases hlt : k < m.length
        · obtain ⟨o, ho⟩ : ∃ o, m[k]? = some o := ⟨_, List.getElem?_eq_getElem hlt⟩
          obtain ⟨b, off, rfl, hro⟩ := HMR.out (by rintro rfl; simp at hlt)
          obtain ⟨pv, hro1, hint⟩ := hro k o ho
          have hrow : wr.rangeAt b (off + k * 6) (opA o pv).toList := fun t u hu => (World.cell?_of_block ((hsr.perm (show _ = (diskAt TD TS q (runM D (m.take k)) * (rowR u12 (resL D (m.take k)) * (diskAt TD TS p D * rowS ov (strB D N)))) * old w from by ac_rfl)).of_old b (World.block_lt_of_cell? w ⟨b, off + k * 6 + t, none⟩ (hro1 t u hu)))).trans (hro1 t u hu)
          have hone := IntsAt.one hint
          have hltd : decide ((k : Int) < (m.length : Int)) = true := decide_eq_true (by omega)
          have hki : (k : Int) ≤ 200 := by omega
          have HO := Lib.hid ho
          have HI := Lib.hid (show ∀ w', Sat w' (rowR u12 (resL D (m.take k)) * (diskAt TD TS p D * (rowS ov (strB D N) * old w))) → IntsAt w' pv o.picks from fun w' h => IntsAt.old hint (h.perm (show _ = (rowR u12 (resL D (m.take k)) * (diskAt TD TS p D * rowS ov (strB D N))) * old w from by ac_rfl)))
          obtain ⟨⟨D', kr⟩, hdm⟩ : ∃ r : DiskM × Int, doM (runM D (m.take k)) o = r := ⟨_, rfl⟩
          have HD := Lib.hid hdm
          have hlen : (resL D (m.take k)).length = k := by rw [resL_length, List.length_take]; omega
          have HL := Lib.hid hlen
          clear ho hro hro1 hsmr hsr hint hdm hlen
          go_wp2_with (first
            | ((with_reducible (apply wp_load_scr hrow)); rfl; rfl; rfl)
            | ((with_reducible (refine wpList_alloc_zero ?_ TOp ?_ _ (zeroTOp _) ?_)); rfl; rfl)
            | ((with_reducible (apply wp_store_opf hone)); rfl; rfl; rfl; rfl)
            | ((with_reducible (apply wp_load_opf)); rfl; rfl; rfl)
            | (go_at_call 15; refine (step_do (H2.out.2.allocKeep _) HI.out HD.out).mono ?_; rintro e w' ⟨rfl, h2⟩; replace H2 := Lib.hid (And.intro ((H2.out.1.alloc _).trans h2.out.1) h2.out.2); clear h2)
            | (at_builtin; refine wpList_append_ownAt (F := diskAt TD TS q D' * (diskAt TD TS p D * (rowS ov (strB D N) * old w))) rfl _ _ 58 TErr rfl te _ Try.underlying58 hte hze htse hzse rfl ((H2.out.2.allocKeep _).perm (show _ = ownAt TErr 1 u12 (resL D (m.take k)).length ((resL D (m.take k)).map (Value.int .i64)) * (diskAt TD TS q D' * (diskAt TD TS p D * (rowS ov (strB D N) * old w))) from by unfold rowR; ac_rfl)) [.int .i64 kr] rfl rfl rfl ?_ (by simp [Value.oneCell']) (by rw [HL.out]; unfold maxLen; omega) (by rw [HL.out]; omega) ?_))
          · intro j u hu
            match j, hu with
            | 0, hu => rw [Addr.add_mid, cells_at (heap_alloc_new _ _)]; simpa using hu
          intro v' w2 h2
          replace H2 := Lib.hid (And.intro ((H2.out.1.alloc _).trans h2.out.1) h2.out.2)
          clear h2
          go_wp2
          go_roundw
          case rel =>
            refine ⟨⟨k + 1, hlt, rfl, H2.out.1, ?_⟩⟩
            rw [runM_take _ HO.out, resL_take _ HO.out, HD.out]
            have := H2.out.2
            refine this.perm ?_
            rw [show rowR v' (resL D (m.take k) ++ [kr]) = ownAt TErr 1 v' ((resL D (m.take k)).length + 1) ((resL D (m.take k)).map (Value.int .i64) ++ [Value.int .i64 kr]) by unfold rowR; simp]
            ac_rfl
          case measure => simp only [intOf]; omega
        · obtain rfl : k = m.length := by omega
          have hltd : decide ((m.length : Int) < (m.length : Int)) = false := decide_eq_false (by omega)
          clear hsmr hsr H1
          obtain ⟨C, hC⟩ : ∃ C, C = runM D m := ⟨_, rfl⟩
          have hCn : C.n = N := by rw [hC, runM_n, HDN.out]
          have HCN := Lib.hid hCn
          have HC := Lib.hid hC
          have H1 := Lib.hid (show Same w wr ∧ Sat wr (diskAt TD TS p D * (rowS ov (strB D N) * (diskAt TD TS q C * (rowR u12 (resL D m) * old w)))) from ⟨H2.out.1, by have := H2.out.2; rw [List.take_length, ← hC] at this; exact this.perm (by ac_rfl)⟩)
          clear H2 hC hCn
          have hE1 := fun (w' : World) (v : Value) (h : Sat w' (rowS v (strB D N) * (diskAt TD TS p D * (rowS ov (strB D N) * (diskAt TD TS q C * (rowR u12 (resL D m) * old w)))))) => step_equal (va := ov) (la := strB D N) h (fun w2 h2 => rowS_strs (h2.perm (show _ = rowS ov (strB D N) * (diskAt TD TS p D * (diskAt TD TS q C * (rowR u12 (resL D m) * old w))) from by ac_rfl))) (by simp [strB_length]; omega) true (decide_eq_true (rfl))
          go_upto_region 23 with (first
            | (go_at_call 22; refine (step_contents H1.out.2 HDN.out).mono ?_; rintro e w' ⟨cv, rfl, h2⟩; replace H1 := Lib.hid (And.intro (H1.out.1.trans h2.out.1) h2.out.2); clear h2)
            | (go_at_call 28; (with_reducible refine (hE1 _ _ ?_).mono ?_); exact H1.out.2; rintro e w' ⟨rfl, h2⟩; replace H1 := Lib.hid (And.intro (H1.out.1.trans h2.out.1) h2.out.2); clear h2))
          have hz := hE1
          clear hE1 hz
          go_upto_region 24 with (go_at_call 22; refine (step_contents (H1.out.2.perm (show _ = diskAt TD TS q C * (diskAt TD TS p D * (rowR u12 (resL D m) * (rowS ov (strB D N) * old w))) from by ac_rfl)) HCN.out).mono ?_; rintro e w' ⟨fv, rfl, h2⟩; replace H1 := Lib.hid (And.intro (H1.out.1.trans h2.out.1) h2.out.2); clear h2)
          replace H1 := Lib.hid (show Same w w' ∧ Sat w' (diskAt TD TS p (runM D (m.take 0)) * (rowR u12 (resL D m) * (diskAt TD TS q C * (rowS fv (strB C N) * old w)))) from ⟨H1.out.1, (H1.out.2.perm (show _ = rowS ov (strB D N) * (diskAt TD TS p (runM D (m.take 0)) * (rowR u12 (resL D m) * (diskAt TD TS q C * (rowS fv (strB C N) * old w)))) from by show _ = rowS ov (strB D N) * (diskAt TD TS p D * (rowR u12 (resL D m) * (diskAt TD TS q C * (rowS fv (strB C N) * old w)))); ac_rfl)).right⟩)
          have hE4 := fun (w' : World) (v : Value) (h : Sat w' (rowS v (strB C N) * (diskAt TD TS p C * (rowR u12 (resL D m) * (diskAt TD TS q C * (rowS fv (strB C N) * old w)))))) => step_equal (va := fv) (la := strB C N) h (fun w2 h2 => rowS_strs (h2.perm (show _ = rowS fv (strB C N) * (diskAt TD TS p C * (rowR u12 (resL D m) * (diskAt TD TS q C * old w))) from by ac_rfl))) (by simp [strB_length]; omega) true (decide_eq_true (rfl))
          have HE4 := Lib.hid hE4
          clear hE4
          go_wp2
          go_loopw [74] (fun i wr => CloSt3 w p q N D C m fv u12 i wr) (fun i _ => m.length - (intOf i).toNat)
          case atStart => exact ⟨⟨0, Nat.zero_le _, rfl, H1.out⟩⟩
          case round =>
            obtain ⟨k, hk, rfl, hsmr, hsr⟩ := hrel.st
            clear hrel
            have H2 := Lib.hid (And.intro hsmr hsr)
            by_cases hlt : k < m.length
            · obtain ⟨o, ho⟩ : ∃ o, m[k]? = some o := ⟨_, List.getElem?_eq_getElem hlt⟩
              obtain ⟨b, off, rfl, hro⟩ := HMR.out (by rintro rfl; simp at hlt)
              obtain ⟨pv, hro1, hint⟩ := hro k o ho
              have hrow : wr.rangeAt b (off + k * 6) (opA o pv).toList := fun t u hu => (World.cell?_of_block ((hsr.perm (show _ = (diskAt TD TS p (runM D (m.take k)) * (rowR u12 (resL D m) * (diskAt TD TS q C * rowS fv (strB C N)))) * old w from by ac_rfl)).of_old b (World.block_lt_of_cell? w ⟨b, off + k * 6 + t, none⟩ (hro1 t u hu)))).trans (hro1 t u hu)
              have hone := IntsAt.one hint
              have hltd : decide ((k : Int) < (m.length : Int)) = true := decide_eq_true (by omega)
              have hki : (k : Int) ≤ 200 := by omega
              have HI := Lib.hid (show ∀ (B : Nat) w', Sat w' (pts B (.cells (opA o pv) TOp (0, 0)) * (rowR u12 (resL D m) * (diskAt TD TS q C * (rowS fv (strB C N) * old w)))) → IntsAt w' pv o.picks from fun B w' h => IntsAt.old hint (h.perm (show _ = (pts B (.cells (opA o pv) TOp (0, 0)) * (rowR u12 (resL D m) * (diskAt TD TS q C * rowS fv (strB C N)))) * old w from by ac_rfl)))
              obtain ⟨⟨D', kr⟩, hdm⟩ : ∃ r : DiskM × Int, doM (runM D (m.take k)) o = r := ⟨_, rfl⟩
              have hrk : (resL D m)[k]? = some kr := by rw [resL_at m D k o ho, hdm]
              have HRK := Lib.hid hrk
              have HD := Lib.hid hdm
              have HT := Lib.hid ho
              have hsa := (hsr.alloc (.cells (opA o pv) TOp)).perm (show _ = diskAt TD TS p (runM D (m.take k)) * (pts wr.heap.size (.cells (opA o pv) TOp (0, 0)) * (rowR u12 (resL D m) * (diskAt TD TS q C * (rowS fv (strB C N) * old w)))) from by ac_rfl)
              have hsma := hsmr.alloc (.cells (opA o pv) TOp)
              obtain ⟨g, rc, hv, hget⟩ := rowR_get (hsr.perm (show _ = rowR u12 (resL D m) * (diskAt TD TS p (runM D (m.take k)) * (diskAt TD TS q C * (rowS fv (strB C N) * old w))) from by ac_rfl)) (by rw [resL_length]; omega)
              rw [resL_length] at hv
              have HG := Lib.hid hget
              have HV := Lib.hid hv
              clear hv ho hro hro1 hsmr hsr hint hdm hrk hget
              go_upto_region 27 with (first
                | ((with_reducible (apply wp_load_scr hrow)); rfl; rfl; rfl)
                | ((with_reducible (refine wpList_alloc_zero ?_ TOp ?_ _ (zeroTOp _) ?_)); rfl; rfl)
                | ((with_reducible (apply wp_store_opf hone)); rfl; rfl; rfl; rfl))
              clear hrow
              generalize wr.alloc (.cells (opA o pv) TOp) = w1 at hsa hsma ⊢
              generalize wr.heap.size = B at hsa ⊢
              have hrow : w1.rangeAt B 0 (opA o pv).toList := by
                intro j u hu
                rw [cells_at (hsa.right).block, Nat.zero_add, ← hu]; simp
              have hck : w1.cell? ⟨g, 0 + k * 1, none⟩ = some (.int .i64 kr) := by
                rw [show 0 + k * 1 = k by omega]
                exact HG.out _ _ (hsa.perm (show _ = rowR u12 (resL D m) * (diskAt TD TS p (runM D (m.take k)) * (pts B (.cells (opA o pv) TOp (0, 0)) * (diskAt TD TS q C * (rowS fv (strB C N) * old w)))) from by ac_rfl)) k kr HRK.out
              have H3 := Lib.hid (And.intro hsma hsa)
              clear hsa hsma
              have hS0 : w1.drew.rangeAt B 0 (opA o pv).toList ∧ w1.drew.cell? ⟨g, 0 + k * 1, none⟩ = some (.int .i64 kr) := ⟨hrow, hck⟩
              rw [HV.out]
              have hkn : (kr != kr) = false := by simp
              refine reg_begin (fun w2 => w2.rangeAt B 0 (opA o pv).toList ∧ w2.cell? ⟨g, 0 + k * 1, none⟩ = some (.int .i64 kr)) (by kernel_rfl) ?_
              (apply reg_take 0 rfl rfl (by decide +kernel) rfl); (rintro w2 ⟨h1, h2⟩; go_simp; rfl); exact hS0; simp only [List.setIfInBounds_toArray, List.set_cons_succ, List.set_cons_zero]
              refine reg_take 1 (v := .agg (opA o pv)) rfl rfl (by decide +kernel) rfl (fun w2 h => exec_load rfl rfl (run_loadAt_mid w2 B 0 TOp (opA o pv).toList _ h.1 Try.underlying32 rfl (by rw [infoTOp o pv]; rfl))) hS0 ?_; simp only [List.setIfInBounds_toArray, List.set_cons_succ, List.set_cons_zero]
              (apply reg_take 3 rfl rfl (by decide +kernel) rfl); (rintro w2 ⟨h1, h2⟩; go_simp; rfl); exact hS0; simp only [List.setIfInBounds_toArray, List.set_cons_succ, List.set_cons_zero]
              (apply reg_take 4 rfl rfl (by decide +kernel) rfl); (rintro w2 ⟨h1, h2⟩; go_simp; rfl); exact hS0; simp only [List.setIfInBounds_toArray, List.set_cons_succ, List.set_cons_zero]
              refine reg_take 5 (v := .pointer (some ⟨g, 0 + k * 1, none⟩)) rfl rfl (by decide +kernel) rfl (fun _ _ => exec_index_slice rfl rfl rfl Try.underlying58 hte htse hlt) hS0 ?_; simp only [List.setIfInBounds_toArray, List.set_cons_succ, List.set_cons_zero]
              refine reg_take 6 (v := .int .i64 kr) rfl rfl (by decide +kernel) rfl (fun _ h => exec_load_cell rfl rfl Try.underlying33 rfl h.2) hS0 ?_; simp only [List.setIfInBounds_toArray, List.set_cons_succ, List.set_cons_zero]
              refine reg_call 2 rfl rfl (by decide +kernel) rfl (f := 15) (args := #[.pointer (some ⟨p, 0, none⟩), .agg (opA o pv)]) (R := fun v w2 => v = .int .i64 kr ∧ Hid (Same w1 w2 ∧ Sat w2 (diskAt TD TS p D' * (pts B (.cells (opA o pv) TOp (0, 0)) * (rowR u12 (resL D m) * (diskAt TD TS q C * (rowS fv (strB C N) * old w))))))) (by kernel_rfl) ((step_do H3.out.2.drew (HI.out B) HD.out).mono fun e w2 h => ⟨_, h.1, rfl, ⟨((Same.refl w1).drew).trans h.2.out.1, h.2.out.2⟩⟩) ?_
              rintro _ w3 ⟨rfl, h3⟩
              have hS1 : w3.rangeAt B 0 (opA o pv).toList ∧ w3.cell? ⟨g, 0 + k * 1, none⟩ = some (.int .i64 kr) := by
                refine ⟨fun j u hu => by rw [cells_at (h3.out.2.right).block, Nat.zero_add, ← hu]; simp, ?_⟩
                rw [show 0 + k * 1 = k by omega]
                exact HG.out _ _ (h3.out.2.perm (show _ = rowR u12 (resL D m) * (diskAt TD TS p D' * (pts B (.cells (opA o pv) TOp (0, 0)) * (diskAt TD TS q C * (rowS fv (strB C N) * old w)))) from by ac_rfl)) k kr HRK.out
              refine ⟨hS1, ?_⟩
              simp only [List.setIfInBounds_toArray, List.set_cons_succ, List.set_cons_zero]
              (apply reg_take 7 rfl rfl (by decide +kernel) rfl); (rintro w2 ⟨h1, h2⟩; go_simp; rfl); exact hS1; simp only [List.setIfInBounds_toArray, List.set_cons_succ, List.set_cons_zero]
              refine reg_done (by decide +kernel) ?_
              clear hS0 hS1 hrow hck
              rw [← HV.out]
              go_wp2
              go_roundw
              case rel => exact ⟨⟨k + 1, hlt, rfl, H3.out.1.trans h3.out.1, by rw [runM_take _ HT.out, HD.out]; exact (h3.out.2.perm (show _ = pts B (.cells (opA o pv) TOp (0, 0)) * (diskAt TD TS p D' * (rowR u12 (resL D m) * (diskAt TD TS q C * (rowS fv (strB C N) * old w)))) from by ac_rfl)).right⟩⟩
              case measure => simp only [intOf]; omega
            · obtain rfl : k = m.length := by omega
              have hltd : decide ((m.length : Int) < (m.length : Int)) = false := decide_eq_false (by omega)
              clear hsmr hsr
              have H4 := Lib.hid (show Same w wr ∧ Sat wr (diskAt TD TS p C * (rowR u12 (resL D m) * (diskAt TD TS q C * (rowS fv (strB C N) * old w)))) from ⟨H2.out.1, by have := H2.out.2; rw [List.take_length, ← HC.out] at this; exact this⟩)
              clear H2
              go_wp2_with (first
                | (go_at_call 11; refine (sanity_any _).mono ?_; rintro e w' ⟨rfl, hb⟩; replace H4 := Lib.hid (And.intro (H4.out.1.below hb) (H4.out.2.below hb)); clear hb)
                | (go_at_call 22; (with_reducible refine (step_contents (p := p) (D := C) (N := N) (F := rowR u12 (resL D m) * (diskAt TD TS q C * (rowS fv (strB C N) * old w))) ?_ ?_).mono ?_); exact H4.out.2; exact HCN.out; rintro e w' ⟨cv, rfl, h2⟩; replace H4 := Lib.hid (And.intro (H4.out.1.trans h2.out.1) h2.out.2); clear h2)
                | (go_at_call 22; (with_reducible refine (step_contents (p := q) (D := C) (N := N) (F := diskAt TD TS p C * (rowR u12 (resL D m) * (rowS fv (strB C N) * old w))) ?_ ?_).mono ?_); exact H4.out.2.perm (show _ = diskAt TD TS q C * (diskAt TD TS p C * (rowR u12 (resL D m) * (rowS fv (strB C N) * old w))) from by ac_rfl); exact HCN.out; rintro e w' ⟨cv, rfl, h2⟩; replace H4 := Lib.hid (And.intro (H4.out.1.trans h2.out.1) (h2.out.2.perm (show _ = rowS cv (strB C N) * (diskAt TD TS p C * (rowR u12 (resL D m) * (diskAt TD TS q C * (rowS fv (strB C N) * old w)))) from by ac_rfl))); clear h2)
                | (go_at_call 28; (with_reducible refine (HE4.out _ _ ?_).mono ?_); exact H4.out.2; rintro e w' ⟨rfl, h2⟩; replace H4 := Lib.hid (And.intro (H4.out.1.trans h2.out.1) h2.out.2); clear h2)
                | (go_at_call 24; (with_reducible refine (step_pend (p := q) (D := C) (F := diskAt TD TS p C * (rowR u12 (resL D m) * (rowS fv (strB C N) * old w))) ?_).mono ?_); exact H4.out.2.perm (by ac_rfl); rintro e w' ⟨pv1, R1, rfl, h2⟩; have HP1 := Lib.hid h2.out.2.2; replace H4 := Lib.hid (And.intro (H4.out.1.below h2.out.1) h2.out.2.1); clear h2)
                | (go_at_call 24; (with_reducible refine (step_pend (p := p) (D := C) (F := R1 * (diskAt TD TS q C * (rowR u12 (resL D m) * (rowS fv (strB C N) * old w)))) ?_).mono ?_); exact H4.out.2.perm (by ac_rfl); rintro e w' ⟨pv2, R2, rfl, h2⟩; have HP2 := Lib.hid h2.out.2.2; replace H4 := Lib.hid (And.intro (H4.out.1.below h2.out.1) h2.out.2.1); clear h2)
                | (go_at_call 32; (with_reducible refine (same_true (l := C.pending.map Int.ofNat) ?_ ?_ ?_).mono ?_); exact HP1.out _ _ (H4.out.2.perm (show _ = R1 * (R2 * (diskAt TD TS p C * (rowR u12 (resL D m) * (diskAt TD TS q C * (rowS fv (strB C N) * old w))))) from by ac_rfl)); exact HP2.out _ _ H4.out.2; exact (by rw [List.length_map]; have h1 : C.pending.length ≤ C.n := (by unfold DiskM.pending; have := List.length_filter_le (fun i => (C.cache i).isSome) (List.range C.n); simpa using this); have := HCN.out; omega); rintro e w' ⟨rfl, hb⟩; replace H4 := Lib.hid (And.intro (H4.out.1.below hb.out) (H4.out.2.below hb.out)); clear hb))
              go_ret
              exact ⟨rfl, H4.out.1.below_of (H4.out.2.perm (show _ = R1 * R2 * diskAt TD TS p C * rowR u12 (resL D m) * diskAt TD TS q C * rowS fv (strB C N) * old w from by ac_rfl))⟩

theorem clones_any (n : Int) (sv mv : Value) (l m : List OpM) (w : World) (hsc : ScrAt w sv l) (hmc : ScrAt w mv m) :
    Calls Try.prog 9 #[.int .i64 n, sv, mv] w fun e w' => e = .returned (.bool true) ∧ Below w.heap.size w w' := by
  by_cases h : 0 ≤ n ∧ n ≤ 40 ∧ l.length ≤ 200 ∧ m.length ≤ 200
  · obtain ⟨h0, h1, h2, h3⟩ := h
    obtain ⟨N, rfl⟩ := Int.eq_ofNat_of_zero_le h0
    exact clones_yes N sv mv l m w hsc hmc (by omega) h2 h3
  · exact clones_no n sv mv l m w hsc hmc h

set_option maxRecDepth 100000 in
theorem diskClones_lifted (os : Os) (started : os.Started) (H : Type) (enc : TypeId × Value → H) :
    ReturnsInHanded {} Try.checked os 9 .any (Rows.diskClonesSpec.pre6 enc Try.prog Try.f9 Rows.diskClonesRow.domain false) (Rows.diskClonesSpec.post enc Try.prog Try.f9 false true false false) := by
  refine returnsInHanded_of_change (C := Try.checked) law_own started (by kernel_rfl) Try.func9
    (ChangeSpec.witness6 (enc := enc) (C := Try.checked) false ⟨#[], #[.int .i64 0, .slice none 0 0, .slice none 0 0], []⟩ 8 (by kernel_rfl) (by kernel_rfl) (by kernel_rfl) (by kernel_rfl)) ?_
  intro W base args ds gs before hval0 hW _ _
  have hval : ∀ (j : Nat) t v, Try.f9.params[j]? = some t → args[j]? = some v → Value.okWide Try.prog W .any base t v := hval0
  have hW' := hW
  obtain ⟨p, q, hA0, hV, rfl, _, _⟩ := hW
  have hA : DataW.TrodAll enc Try.prog W 0 (fun _ => true) true Try.f9.params.toList args.toList ds p := hA0
  rw [Try.params9] at hA hval
  obtain ⟨w0, vs0, d0, ds0, p0, q0, hargs, rfl, rfl, h0, r0⟩ := trodAll_cons hA
  obtain ⟨w1, vs1, d1, ds1, p1, q1, rfl, rfl, rfl, h1, r1⟩ := trodAll_cons r0
  obtain ⟨w2, vs2, d2, ds2, p2, q2, rfl, rfl, rfl, h2, r2⟩ := trodAll_cons r1
  obtain ⟨rfl, rfl, rfl⟩ := trodAll_nil r2
  obtain rfl : args = #[w0, w1, w2] := by cases args; simp_all
  obtain ⟨rfl, rfl⟩ := trodVars_none hV
  obtain ⟨a0, rfl, rfl, rfl, _⟩ := open_int Try.underlying3 (hval 0 3 w0 rfl rfl) h0
  obtain ⟨v1, l1, e1, s1⟩ := rd_script (trod_rd h1)
  obtain ⟨x1, y1, z1, rfl⟩ := okWide_slice Try.underlying22 (hval 1 _ w1 rfl rfl)
  obtain rfl : .slice x1 y1 z1 = v1 := by simpa [Value.cells] using e1
  obtain ⟨v2, l2, e2, s2⟩ := rd_script (trod_rd h2)
  obtain ⟨x2, y2, z2, rfl⟩ := okWide_slice Try.underlying22 (hval 2 _ w2 rfl rfl)
  obtain rfl : .slice x2 y2 z2 = v2 := by simpa [Value.cells] using e2
  refine (clones_any a0 _ _ l1 l2 W s1 s2).mono fun e W' ⟨he, hg⟩ => ?_
  subst he
  exact ⟨_, rfl, law_post (by kernel_rfl) rfl (of_decide_eq_true (by kernel_rfl)) rfl hW' hg⟩

theorem diskClones_holds : Rows.DiskClonesSaid :=
  OpenClaim.holds_of_wide 9 Try.f9 rfl rfl rfl rfl rfl rfl rfl ⟨rfl, rfl, rfl, rfl, rfl⟩ rfl rfl rfl rfl rfl (by kernel_rfl) Try.func9 (by kernel_rfl)
    (of_decide_eq_true (by kernel_rfl)) (by unfold Func.isWrapper; first | (rw [if_pos (by decide +kernel)]; kernel_rfl) | (rw [if_neg (by decide +kernel)]; exact ⟨rfl, rfl⟩))
    (fun os started H enc _ => diskClones_lifted os started H enc)

end Go.Proofs.Ytdeblpnkpefbcaa
