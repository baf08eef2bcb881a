/- volume.Space: New, volumesAre, snapshotsAre, create, Create. -/
import Derived.Test.YtednjhlkhecihaaGreatDoorVi
import Derived.Test.YtednjhlkhecihaaGreatDoorRh
namespace Go.Proofs.YtednjhlkhecihaaGreatDoor
open Go.RowKit Go.Vol Go.Sl

abbrev TSp : TypeId := 52
/-- A pointer to a space, or nil. -/
def SpPtr (w : World) (v : Value) (o : Option SpaceM) : Prop := match o with
  | none => v = .pointer none
  | some S => ∃ p : Nat, v = .pointer (some ⟨p, 0, none⟩) ∧ SpaceAt TNode TSp w p S
def Res3 (w : World) (R : ResM) (e : Ending) (w' : World) : Prop := ∃ v, e = .returned (.tuple #[v, .int .i64 R.id, .int .i64 R.e]) ∧ Below w.heap.size w w' ∧ SpPtr w' v R.sp
def Res2 (w : World) (R : ResM) (e : Ending) (w' : World) : Prop := ∃ v, e = .returned (.tuple #[v, .int .i64 R.e]) ∧ Below w.heap.size w w' ∧ SpPtr w' v R.sp
theorem insertIdx_map_fst {l : List ElM} : ∀ {i : Nat} {x : ElM}, (l.insertIdx i x).map Prod.fst = (l.map Prod.fst).insertIdx i x.1 := by
  induction l with
  | nil => intro i x; cases i <;> simp
  | cons y r ih =>
    intro i x
    cases i with
    | zero => simp
    | succ i => simp [ih]
theorem ElsAt.insert {T : TypeId} {w : World} {l : List ElM} {i : Nat} {x : ElM} (h : ElsAt T w l) (hx : NodeAt T w 2 x.2 x.1.m) : ElsAt T w (l.insertIdx i x) := fun y hy => by
  rcases mem_insertIdx_of hy with rfl | hy
  · exact hx
  · exact h y hy
theorem ElsAt.ptrs {T : TypeId} {w : World} {l : List ElM} (h : ElsAt T w l) : ∀ x ∈ l, PtrV x.2 := fun x hx => NodeAt.ptr (h x hx)
/-- What lies at a space's pointer. -/
theorem sp_cells {w : World} {p : Nat} {vv vs : Value} (h : w.heap[p]? = some (.cells #[vv, vs] TSp (0, 0))) : w.cell? ⟨p, 0, none⟩ = some vv ∧ w.cell? ⟨p, 1, none⟩ = some vs ∧ p < w.heap.size :=
  ⟨cells_at h 0, cells_at h 1, (Array.getElem?_eq_some_iff.1 h).1⟩
/-- A space made anew out of two rows. -/
theorem SpAt.mk' {w : World} {p : Nat} {vv vs : Value} {lv ls : List ElM} (h : w.heap[p]? = some (.cells #[vv, vs] TSp (0, 0))) (h1 : RowsAt w vv lv.length (lv.flatMap volE)) (h2 : RowsAt w vs ls.length (ls.flatMap snapE)) (h3 : ElsAt TNode w lv) (h4 : ElsAt TNode w ls) : SpAt TNode TSp w p lv ls :=
  ⟨⟨vv, vs, h, h1, h2⟩, h3, h4⟩

theorem volumesAre_any (p : Nat) (vv vs : Value) (ao : Option Addr) (n cap : Nat) (w : World) (so : vs.oneCell' = true) (hs : ∃ a m c, vs = .slice a m c) (h : w.heap[p]? = some (.cells #[vv, vs] TSp (0, 0))) :
    Calls Tryz.prog 55 #[.pointer (some ⟨p, 0, none⟩), .slice ao n cap] w fun e w' => e = .returned (.pointer (some ⟨w.heap.size, 0, none⟩)) ∧ w' = w.alloc (.cells #[.slice ao n cap, vs] TSp) := by
  obtain ⟨a, m, c, rfl⟩ := hs
  obtain ⟨c0, c1, _⟩ := sp_cells h
  clear h so
  go_enter Tryz.func55, Tryz.ntmps55
  go_wp2
  go_ret
  exact ⟨rfl, rfl⟩

theorem snapshotsAre_any (p : Nat) (vv vs : Value) (ao : Option Addr) (n cap : Nat) (w : World) (so : vv.oneCell' = true) (hs : ∃ a m c, vv = .slice a m c) (h : w.heap[p]? = some (.cells #[vv, vs] TSp (0, 0))) :
    Calls Tryz.prog 66 #[.pointer (some ⟨p, 0, none⟩), .slice ao n cap] w fun e w' => e = .returned (.pointer (some ⟨w.heap.size, 0, none⟩)) ∧ w' = w.alloc (.cells #[vv, .slice ao n cap] TSp) := by
  obtain ⟨a, m, c, rfl⟩ := hs
  obtain ⟨c0, c1, _⟩ := sp_cells h
  clear h so
  go_enter Tryz.func66, Tryz.ntmps66
  go_wp2
  go_ret
  exact ⟨rfl, rfl⟩

theorem new_any (w : World) : Calls Tryz.prog 5 #[] w fun e w' => ∃ p : Nat, e = .returned (.pointer (some ⟨p, 0, none⟩)) ∧ Hid (Below w.heap.size w w' ∧ SpaceAt TNode TSp w' p SpaceM.new) := by
  go_enter Tryz.func5, Tryz.ntmps5
  go_wp2
  go_ret
  exact ⟨_, rfl, (Below.refl _ _).alloc (Nat.le_refl _) _, [], [], rfl, rfl, SpAt.mk' (heap_alloc_new _ _) (RowsAt.nil _) (RowsAt.nil _) (by intro x hx; simp at hx) (by intro x hx; simp at hx)⟩

theorem insvol_any (s : Value) (n i : Nat) (L xs : List Value) (vb : Nat) (F : HProp) (w : World) (hi : i ≤ n) (hn : n ≤ 1000) (hF : Sat w (ownAt TVol 4 s n L * (pts vb (.cells xs.toArray TVol (0, 0)) * F))) (hxl : xs.length = 4) (h1 : ∀ u ∈ L, u.oneCell' = true) (h1x : ∀ u ∈ xs, u.oneCell' = true) :
    Calls Tryz.prog 87 #[s, .int .i64 (i : Int), .slice (some ⟨vb, 0, none⟩) 1 1] w fun e w' => ∃ s', e = .returned s' ∧ Hid (Same w w' ∧ Sat w' (ownAt TVol 4 s' (n + 1) (L.take (i * 4) ++ xs ++ L.drop (i * 4)) * (pts vb (.cells xs.toArray TVol (0, 0)) * F))) := by
  rcases Nat.lt_or_ge i n with h | h
  · exact insmidvol_any s n i L xs vb F w h hn hF hxl h1 h1x
  · obtain rfl : i = n := by omega
    have hl := ownAt_len hF
    rw [List.take_of_length_le (by omega), List.drop_of_length_le (by omega), List.append_nil]
    exact insendvol_any s i L xs vb F w hn hF hxl h1x
theorem inssnap_any (s : Value) (n i : Nat) (L xs : List Value) (vb : Nat) (F : HProp) (w : World) (hi : i ≤ n) (hn : n ≤ 1000) (hF : Sat w (ownAt TSnap 5 s n L * (pts vb (.cells xs.toArray TSnap (0, 0)) * F))) (hxl : xs.length = 5) (h1 : ∀ u ∈ L, u.oneCell' = true) (h1x : ∀ u ∈ xs, u.oneCell' = true) :
    Calls Tryz.prog 67 #[s, .int .i64 (i : Int), .slice (some ⟨vb, 0, none⟩) 1 1] w fun e w' => ∃ s', e = .returned s' ∧ Hid (Same w w' ∧ Sat w' (ownAt TSnap 5 s' (n + 1) (L.take (i * 5) ++ xs ++ L.drop (i * 5)) * (pts vb (.cells xs.toArray TSnap (0, 0)) * F))) := by
  rcases Nat.lt_or_ge i n with h | h
  · exact insmidsnap_any s n i L xs vb F w h hn hF hxl h1 h1x
  · obtain rfl : i = n := by omega
    have hl := ownAt_len hF
    rw [List.take_of_length_le (by omega), List.drop_of_length_le (by omega), List.append_nil]
    exact insendsnap_any s i L xs vb F w hn hF hxl h1x

set_option maxRecDepth 20000 in
set_option maxHeartbeats 4000000 in
theorem create_any (p : Nat) (S : SpaceM) (t : Int) (r : Value) (m : MapM) (w : World) (hS : SpaceAt TNode TSp w p S) (hwf : S.WF) (hr : NodeAt TNode w 2 r m) :
    Calls Tryz.prog 54 #[.pointer (some ⟨p, 0, none⟩), .int .i64 t, .agg #[r, .int .i64 (cnt m : Int)]] w (Res3 w (S.create t m)) := by
  obtain ⟨lv, ls, hlv, hls, ⟨vv, vs, hp, hrv, hrs⟩, hev, hes⟩ := hS
  obtain ⟨q, rfl⟩ := NodeAt.ptr hr
  obtain ⟨ao, cap, rfl, hvx⟩ := id hrv
  obtain ⟨so, scap, rfl, hsx⟩ := id hrs
  have hlen : S.vols.length = lv.length := by rw [← hlv, List.length_map]
  have hn64 : lv.length ≤ 64 := by rw [← hlen]; exact hwf.vlen
  obtain ⟨c0, c1, hpl⟩ := sp_cells hp
  have H1 := Lib.hid (And.intro ((Same.refl w).alloc (.cells #[.pointer q, .int .i64 (cnt m : Int)] TTree)) ((Sat.old w).alloc (.cells #[.pointer q, .int .i64 (cnt m : Int)] TTree)))
  have hb0 := (Below.refl w.heap.size w).alloc (Nat.le_refl _) (.cells #[.pointer q, .int .i64 (cnt m : Int)] TTree)
  have HT := Lib.hid (tenantOK_any t (w.alloc (.cells #[.pointer q, .int .i64 (cnt m : Int)] TTree)))
  have HB0 := Lib.hid hb0
  have hlc : (lv.length : Int) ≤ 64 := by omega
  cases ht : tenB t with
  | false =>
    have hres : S.create t m = ⟨none, 0, 1⟩ := by unfold SpaceM.create; rw [if_pos ht]
    have HRES := Lib.hid hres
    rw [ht] at HT
    clear hlv hls hp hrv hrs hev hes hr hvx hsx hlen hwf hres H1 hb0 ht
    go_enter Tryz.func54, Tryz.ntmps54
    go_wp2_with (go_at_call 58; refine HT.out.mono ?_; rintro e w' ⟨rfl, rfl⟩)
    refine bodyPost_ret (v := .tuple #[.pointer none, .int .i64 0, .int .i64 1]) (by simp [results, Tryz.results54, go_sem]) rfl ?_
    rw [HRES.out]
    exact ⟨_, rfl, HB0.out, rfl⟩
  | true =>
    rw [ht] at HT
    by_cases h64 : 64 ≤ lv.length
    · have hres : S.create t m = ⟨none, 0, 2⟩ := by unfold SpaceM.create; rw [if_neg (by simp [ht]), if_pos (by rw [hlen]; exact h64)]
      have HRES := Lib.hid hres
      have hd : decide ((64 : Int) ≤ (lv.length : Int)) = true := decide_eq_true (by omega)
      clear hlv hls hp hrv hrs hev hes hr hvx hsx hlen hwf hres H1 hb0 ht
      go_enter Tryz.func54, Tryz.ntmps54
      go_wp2_with (go_at_call 58; refine HT.out.mono ?_; rintro e w' ⟨rfl, rfl⟩)
      refine bodyPost_ret (v := .tuple #[.pointer none, .int .i64 0, .int .i64 2]) (by simp [results, Tryz.results54, go_sem]) rfl ?_
      rw [HRES.out]
      exact ⟨_, rfl, HB0.out, rfl⟩
    · have hres : S.create t m = ⟨some { S with vols := S.vols.insertIdx (free S.vols) ⟨free S.vols, t, 0, m⟩ }, free S.vols, 0⟩ := by unfold SpaceM.create; rw [if_neg (by simp [ht]), if_neg (by rw [hlen]; exact h64)]
      have HRES := Lib.hid hres
      have hd : decide ((64 : Int) ≤ (lv.length : Int)) = false := decide_eq_false (by omega)
      have HFR := Lib.hid (show free S.vols ≤ lv.length by rw [← hlen]; exact free_le hwf.vols)
      have hfr := freevol_any (.slice ao lv.length cap) lv (w.alloc (.cells #[.pointer q, .int .i64 (cnt m : Int)] TTree)) (hrv.below hb0) (ElsAt.ptrs hev)
      rw [hlv] at hfr
      have HF := Lib.hid hfr
      have HM := Lib.hid (And.intro hlv (And.intro hls (And.intro hrs (And.intro hev (And.intro hes hr)))))
      have HRV := Lib.hid hrv
      have HO4 := Lib.hid (ElsAt.one4 hev)
      have HN := Lib.hid (show lv.length ≤ 1000 by omega)
      have HP := Lib.hid hp
      have HPL := Lib.hid hpl
      have HC0 := Lib.hid c0
      have hfi : (free S.vols : Int) ≤ 64 := by have := HFR.out; omega
      clear hlv hls hp hrv hrs hev hes hr hvx hsx hlen hwf hres ht hfr hb0
      go_enter Tryz.func54, Tryz.ntmps54
      go_upto_region 6 with (first
        | (go_at_call 58; refine HT.out.mono ?_; clear HT; rintro e w' ⟨rfl, rfl⟩)
        | (go_at_call 86; refine HF.out.mono ?_; clear HF; rintro e w1 ⟨rfl, h2⟩; replace H1 := Lib.hid (And.intro (H1.out.1.below h2) (H1.out.2.below h2)); clear h2))
      generalize w.heap.size = B5 at H1 ⊢
      have hbw1 := H1.out.1.below_of H1.out.2
      have hS0 : w1.drew.cell? ⟨p, 0, none⟩ = some (.slice ao lv.length cap) ∧ w1.drew.cell? ⟨B5, 0, none⟩ = some (.pointer q) ∧ w1.drew.cell? ⟨B5, 1, none⟩ = some (.int .i64 (cnt m : Int)) := ⟨(hbw1.cell (p := ⟨p, 0, none⟩) hpl).trans c0, (tree_cells H1.out.2).1, (tree_cells H1.out.2).2.1⟩
      clear c0 c1 hpl hbw1 hd
      refine reg_begin (fun w' => w'.cell? ⟨p, 0, none⟩ = some (.slice ao lv.length cap) ∧ w'.cell? ⟨B5, 0, none⟩ = some (.pointer q) ∧ w'.cell? ⟨B5, 1, none⟩ = some (.int .i64 (cnt m : Int))) (by kernel_rfl) ?_
      (apply reg_take 0 rfl rfl (by decide +kernel) rfl); (rintro w' ⟨h1, h2, h3⟩; go_simp; rfl); exact hS0; simp only [List.setIfInBounds_toArray, List.set_cons_succ, List.set_cons_zero]
      (apply reg_take 1 rfl rfl (by decide +kernel) rfl); (rintro w' ⟨h1, h2, h3⟩; go_simp; rfl); exact hS0; simp only [List.setIfInBounds_toArray, List.set_cons_succ, List.set_cons_zero]
      (apply reg_take 2 rfl rfl (by decide +kernel) rfl); (rintro w' ⟨h1, h2, h3⟩; go_simp; rfl); exact hS0; simp only [List.setIfInBounds_toArray, List.set_cons_succ, List.set_cons_zero]
      (apply reg_take 3 rfl rfl (by decide +kernel) rfl); (rintro w' ⟨h1, h2, h3⟩; go_simp; rfl); exact hS0; simp only [List.setIfInBounds_toArray, List.set_cons_succ, List.set_cons_zero]
      (apply reg_take 4 rfl rfl (by decide +kernel) rfl); (rintro w' ⟨h1, h2, h3⟩; go_simp; rfl); exact hS0; simp only [List.setIfInBounds_toArray, List.set_cons_succ, List.set_cons_zero]
      (apply reg_take 6 rfl rfl (by decide +kernel) rfl); (rintro w' ⟨h1, h2, h3⟩; go_simp; rfl); exact hS0; simp only [List.setIfInBounds_toArray, List.set_cons_succ, List.set_cons_zero]
      (apply reg_take 7 rfl rfl (by decide +kernel) rfl); (rintro w' ⟨h1, h2, h3⟩; go_simp; rfl); exact hS0; simp only [List.setIfInBounds_toArray, List.set_cons_succ, List.set_cons_zero]
      (apply reg_take 8 rfl rfl (by decide +kernel) rfl); (rintro w' ⟨h1, h2, h3⟩; go_simp; rfl); exact hS0; simp only [List.setIfInBounds_toArray, List.set_cons_succ, List.set_cons_zero]
      (apply reg_take 9 rfl rfl (by decide +kernel) rfl); (rintro w' ⟨h1, h2, h3⟩; go_simp; rfl); exact hS0; simp only [List.setIfInBounds_toArray, List.set_cons_succ, List.set_cons_zero]
      (apply reg_take 10 rfl rfl (by decide +kernel) rfl); (rintro w' ⟨h1, h2, h3⟩; go_simp; rfl); exact hS0; simp only [List.setIfInBounds_toArray, List.set_cons_succ, List.set_cons_zero]
      (apply reg_take 11 rfl rfl (by decide +kernel) rfl); (rintro w' ⟨h1, h2, h3⟩; go_simp; rfl); exact hS0; simp only [List.setIfInBounds_toArray, List.set_cons_succ, List.set_cons_zero]
      (apply reg_take 15 rfl rfl (by decide +kernel) rfl); (rintro w' ⟨h1, h2, h3⟩; go_simp; rfl); exact hS0; simp only [List.setIfInBounds_toArray, List.set_cons_succ, List.set_cons_zero]
      have hclone := fun (W : World) (F : HProp) (hb : Below w.heap.size w W) (hF : Sat W F) => clonevol_any (.slice ao lv.length cap) lv.length (lv.flatMap volE) F W (HRV.out.below hb) (flat_len volE_len lv) HO4.out HN.out hF
      have HCL := Lib.hid hclone
      clear hclone
      refine reg_fork 5 12 (by decide +kernel) ?_ ?_
      · -- the copy first
        refine rstep_call rfl rfl (by decide +kernel) rfl (f := 88) (args := #[.slice ao lv.length cap]) (R := fun v w' => ∃ a c, v = .slice a lv.length c ∧ Hid (Same w w' ∧ Sat w' (ownAt TVol 4 (.slice a lv.length c) lv.length (lv.flatMap volE) * (pts B5 (.cells #[.pointer q, .int .i64 (cnt m : Int)] TTree (0, 0)) * old w)))) (by kernel_rfl)
          ((HCL.out w1.drew (pts B5 (.cells #[.pointer q, .int .i64 (cnt m : Int)] TTree (0, 0)) * old w) ((H1.out.1.drew).below_of H1.out.2.drew) H1.out.2.drew).mono fun e w' h => by
            obtain ⟨v', rfl, h1, h2⟩ := h
            obtain ⟨a, c, rfl⟩ := ownAt_slice h2
            exact ⟨_, rfl, a, c, rfl, (H1.out.1.drew).trans h1, h2⟩) ?_
        rintro _ W2 ⟨a1, c1, rfl, h2⟩
        have hbw2 := h2.out.1.below_of (h2.out.2.perm (star_assoc _ _ _).symm)
        have hS2 : W2.cell? ⟨p, 0, none⟩ = some (.slice ao lv.length cap) ∧ W2.cell? ⟨B5, 0, none⟩ = some (.pointer q) ∧ W2.cell? ⟨B5, 1, none⟩ = some (.int .i64 (cnt m : Int)) := ⟨(hbw2.cell (p := ⟨p, 0, none⟩) HPL.out).trans HC0.out, (tree_cells h2.out.2.right).1, (tree_cells h2.out.2.right).2.1⟩
        refine ⟨hS2, ?_⟩
        simp only [List.setIfInBounds_toArray, List.set_cons_succ, List.set_cons_zero]
        have hbw3 := hbw2.alloc hbw2.size (.cells #[.int .i64 (free S.vols : Int), .int .i64 t, .pointer q, .int .i64 (cnt m : Int)] TVol)
        have hA := (h2.out.2.alloc (.cells #[.int .i64 (free S.vols : Int), .int .i64 t, .pointer q, .int .i64 (cnt m : Int)] TVol)).perm (star_comm3 _ _ _)
        have hS3 : (W2.alloc (.cells #[.int .i64 (free S.vols : Int), .int .i64 t, .pointer q, .int .i64 (cnt m : Int)] TVol)).cell? ⟨p, 0, none⟩ = some (.slice ao lv.length cap) ∧ (W2.alloc (.cells #[.int .i64 (free S.vols : Int), .int .i64 t, .pointer q, .int .i64 (cnt m : Int)] TVol)).cell? ⟨B5, 0, none⟩ = some (.pointer q) ∧ (W2.alloc (.cells #[.int .i64 (free S.vols : Int), .int .i64 t, .pointer q, .int .i64 (cnt m : Int)] TVol)).cell? ⟨B5, 1, none⟩ = some (.int .i64 (cnt m : Int)) := ⟨(hbw3.cell (p := ⟨p, 0, none⟩) HPL.out).trans HC0.out, (tree_cells hA.right.right).1, (tree_cells hA.right.right).2.1⟩
        refine reg_run 12 (.slice (some ⟨W2.heap.size, 0, none⟩) 1 1) (W2.alloc (.cells #[.int .i64 (free S.vols : Int), .int .i64 t, .pointer q, .int .i64 (cnt m : Int)] TVol)) rfl rfl (by decide +kernel) rfl (by go_simp) (hS3) ?_; simp only [List.setIfInBounds_toArray, List.set_cons_succ, List.set_cons_zero]
        replace H1 := Lib.hid (And.intro (h2.out.1.alloc (.cells #[.int .i64 (free S.vols : Int), .int .i64 t, .pointer q, .int .i64 (cnt m : Int)] TVol)) hA)
        clear hS3 hbw3 hA hS2 hbw2 h2 hS0
        generalize W2.alloc (.cells #[.int .i64 (free S.vols : Int), .int .i64 t, .pointer q, .int .i64 (cnt m : Int)] TVol) = W3 at H1 ⊢
        generalize W2.heap.size = vb at H1 ⊢
        -- H1 : Same w W3 ∧ Sat W3 (ownAt v1 * (pts vb * (BX * old w)))
        have hbw := H1.out.1.below_of (H1.out.2.perm (show _ = (ownAt TVol 4 (.slice a1 lv.length c1) lv.length (lv.flatMap volE) * (pts vb (.cells #[.int .i64 (free S.vols : Int), .int .i64 t, .pointer q, .int .i64 (cnt m : Int)] TVol (0, 0)) * pts B5 (.cells #[.pointer q, .int .i64 (cnt m : Int)] TTree (0, 0)))) * old w from by ac_rfl))
        have hS3 : W3.cell? ⟨p, 0, none⟩ = some (.slice ao lv.length cap) ∧ W3.cell? ⟨B5, 0, none⟩ = some (.pointer q) ∧ W3.cell? ⟨B5, 1, none⟩ = some (.int .i64 (cnt m : Int)) := ⟨(hbw.cell (p := ⟨p, 0, none⟩) HPL.out).trans HC0.out, (tree_cells H1.out.2.right.right).1, (tree_cells H1.out.2.right.right).2.1⟩
        refine reg_call 13 rfl rfl (by decide +kernel) rfl (f := 87) (args := #[.slice a1 lv.length c1, .int .i64 (free S.vols : Int), .slice (some ⟨vb, 0, none⟩) 1 1]) (R := fun v w' => ∃ a c, v = .slice a (lv.length + 1) c ∧ Hid (Same w w' ∧ Sat w' (ownAt TVol 4 (.slice a (lv.length + 1) c) (lv.length + 1) ((lv.flatMap volE).take (free S.vols * 4) ++ #[.int .i64 (free S.vols : Int), .int .i64 t, .pointer q, .int .i64 (cnt m : Int)].toList ++ (lv.flatMap volE).drop (free S.vols * 4)) * (pts vb (.cells #[.int .i64 (free S.vols : Int), .int .i64 t, .pointer q, .int .i64 (cnt m : Int)] TVol (0, 0)) * (pts B5 (.cells #[.pointer q, .int .i64 (cnt m : Int)] TTree (0, 0)) * old w))))) (by kernel_rfl)
          ((insvol_any (.slice a1 lv.length c1) lv.length (free S.vols) (lv.flatMap volE) #[.int .i64 (free S.vols : Int), .int .i64 t, .pointer q, .int .i64 (cnt m : Int)].toList vb (pts B5 (.cells #[.pointer q, .int .i64 (cnt m : Int)] TTree (0, 0)) * old w) W3 HFR.out HN.out H1.out.2 rfl HO4.out (by intro u hu; simp at hu; rcases hu with rfl | rfl | rfl | rfl <;> rfl)).mono fun e w' h => by
            obtain ⟨s', rfl, h1, h2⟩ := h
            obtain ⟨a, c, rfl⟩ := ownAt_slice h2
            exact ⟨_, rfl, a, c, rfl, H1.out.1.trans h1, h2⟩) ?_
        rintro _ W4 ⟨a4, c4, rfl, h4⟩
        have hbw4 := h4.out.1.below_of (h4.out.2.perm (show _ = (ownAt TVol 4 (.slice a4 (lv.length + 1) c4) (lv.length + 1) ((lv.flatMap volE).take (free S.vols * 4) ++ #[.int .i64 (free S.vols : Int), .int .i64 t, .pointer q, .int .i64 (cnt m : Int)].toList ++ (lv.flatMap volE).drop (free S.vols * 4)) * (pts vb (.cells #[.int .i64 (free S.vols : Int), .int .i64 t, .pointer q, .int .i64 (cnt m : Int)] TVol (0, 0)) * pts B5 (.cells #[.pointer q, .int .i64 (cnt m : Int)] TTree (0, 0)))) * old w from by ac_rfl))
        have hS4 : W4.cell? ⟨p, 0, none⟩ = some (.slice ao lv.length cap) ∧ W4.cell? ⟨B5, 0, none⟩ = some (.pointer q) ∧ W4.cell? ⟨B5, 1, none⟩ = some (.int .i64 (cnt m : Int)) := ⟨(hbw4.cell (p := ⟨p, 0, none⟩) HPL.out).trans HC0.out, (tree_cells h4.out.2.right.right).1, (tree_cells h4.out.2.right.right).2.1⟩
        refine ⟨hS4, ?_⟩
        simp only [List.setIfInBounds_toArray, List.set_cons_succ, List.set_cons_zero]
        have hva := volumesAre_any p (.slice ao lv.length cap) (.slice so ls.length scap) a4 (lv.length + 1) c4 W4 rfl ⟨_, _, _, rfl⟩ (by rw [hbw4.block p HPL.out]; exact HP.out)
        refine reg_call 14 rfl rfl (by decide +kernel) rfl (f := 55) (args := #[.pointer (some ⟨p, 0, none⟩), .slice a4 (lv.length + 1) c4]) (R := fun v w' => v = .pointer (some ⟨W4.heap.size, 0, none⟩) ∧ w' = W4.alloc (.cells #[.slice a4 (lv.length + 1) c4, .slice so ls.length scap] TSp)) (by kernel_rfl) (hva.mono fun e w' h => ⟨_, h.1, rfl, h.2⟩) ?_
        rintro _ _ ⟨rfl, rfl⟩
        have hbw5 := hbw4.alloc hbw4.size (.cells #[.slice a4 (lv.length + 1) c4, .slice so ls.length scap] TSp)
        have hb45 := (Below.refl W4.heap.size W4).alloc (Nat.le_refl _) (.cells #[.slice a4 (lv.length + 1) c4, .slice so ls.length scap] TSp)
        have hS5 : (W4.alloc (.cells #[.slice a4 (lv.length + 1) c4, .slice so ls.length scap] TSp)).cell? ⟨p, 0, none⟩ = some (.slice ao lv.length cap) ∧ (W4.alloc (.cells #[.slice a4 (lv.length + 1) c4, .slice so ls.length scap] TSp)).cell? ⟨B5, 0, none⟩ = some (.pointer q) ∧ (W4.alloc (.cells #[.slice a4 (lv.length + 1) c4, .slice so ls.length scap] TSp)).cell? ⟨B5, 1, none⟩ = some (.int .i64 (cnt m : Int)) := ⟨(hbw5.cell (p := ⟨p, 0, none⟩) HPL.out).trans HC0.out, by rw [World.cell?_alloc_lt _ _ _ (h4.out.2.right.right.lt)]; exact hS4.2.1, by rw [World.cell?_alloc_lt _ _ _ (h4.out.2.right.right.lt)]; exact hS4.2.2⟩
        have hfin : SpaceAt TNode TSp (W4.alloc (.cells #[.slice a4 (lv.length + 1) c4, .slice so ls.length scap] TSp)) W4.heap.size { S with vols := S.vols.insertIdx (free S.vols) ⟨free S.vols, t, 0, m⟩ } := by
          refine ⟨lv.insertIdx (free S.vols) (⟨free S.vols, t, 0, m⟩, .pointer q), ls, by rw [insertIdx_map_fst, HM.out.1], HM.out.2.1, SpAt.mk' (heap_alloc_new _ _) ?_ (HM.out.2.2.1.below hbw5) (ElsAt.insert (HM.out.2.2.2.1.below hbw5) (NodeAt.below hbw5 HM.out.2.2.2.2.2)) (HM.out.2.2.2.2.1.below hbw5)⟩
          have hr := (RowsAt.own h4.out.2 (by omega)).below hb45
          rw [List.length_insertIdx_of_le_length HFR.out, flat_insert volE_len _ _ _ HFR.out]
          exact hr
        have HFIN := Lib.hid (And.intro hbw5 hfin)
        generalize W4.alloc (.cells #[.slice a4 (lv.length + 1) c4, .slice so ls.length scap] TSp) = W5 at hS5 HFIN ⊢
        generalize W4.heap.size = B7 at HFIN ⊢
        refine ⟨hS5, ?_⟩
        simp only [List.setIfInBounds_toArray, List.set_cons_succ, List.set_cons_zero]
        (apply reg_take 16 rfl rfl (by decide +kernel) rfl); (rintro w' ⟨h1, h2, h3⟩; go_simp; rfl); exact hS5; simp only [List.setIfInBounds_toArray, List.set_cons_succ, List.set_cons_zero]
        (apply reg_take 17 rfl rfl (by decide +kernel) rfl); (rintro w' ⟨h1, h2, h3⟩; go_simp; rfl); exact hS5; simp only [List.setIfInBounds_toArray, List.set_cons_succ, List.set_cons_zero]
        (apply reg_take 18 rfl rfl (by decide +kernel) rfl); (rintro w' ⟨h1, h2, h3⟩; go_simp; rfl); exact hS5; simp only [List.setIfInBounds_toArray, List.set_cons_succ, List.set_cons_zero]
        refine reg_done (by decide +kernel) ?_
        clear hS3 hS4 hS5 hbw hbw4 h4 hva hfin hbw5 hb45
        go_wp2
        refine bodyPost_ret (v := .tuple #[.pointer (some ⟨B7, 0, none⟩), .int .i64 (free S.vols : Int), .int .i64 0]) (by simp [results, Tryz.results54, go_sem]) rfl ?_
        rw [HRES.out]
        exact ⟨_, rfl, HFIN.out.1, B7, rfl, HFIN.out.2⟩
      · -- the new element first
        have hbw2 := ((H1.out.1.drew).below_of H1.out.2.drew)
        have hA := H1.out.2.drew.alloc (.cells #[.int .i64 (free S.vols : Int), .int .i64 t, .pointer q, .int .i64 (cnt m : Int)] TVol)
        have hbw3 := hbw2.alloc hbw2.size (.cells #[.int .i64 (free S.vols : Int), .int .i64 t, .pointer q, .int .i64 (cnt m : Int)] TVol)
        have hS3 : (w1.drew.alloc (.cells #[.int .i64 (free S.vols : Int), .int .i64 t, .pointer q, .int .i64 (cnt m : Int)] TVol)).cell? ⟨p, 0, none⟩ = some (.slice ao lv.length cap) ∧ (w1.drew.alloc (.cells #[.int .i64 (free S.vols : Int), .int .i64 t, .pointer q, .int .i64 (cnt m : Int)] TVol)).cell? ⟨B5, 0, none⟩ = some (.pointer q) ∧ (w1.drew.alloc (.cells #[.int .i64 (free S.vols : Int), .int .i64 t, .pointer q, .int .i64 (cnt m : Int)] TVol)).cell? ⟨B5, 1, none⟩ = some (.int .i64 (cnt m : Int)) := ⟨(hbw3.cell (p := ⟨p, 0, none⟩) HPL.out).trans HC0.out, (tree_cells hA.right).1, (tree_cells hA.right).2.1⟩
        refine rstep_run (.slice (some ⟨w1.drew.heap.size, 0, none⟩) 1 1) (w1.drew.alloc (.cells #[.int .i64 (free S.vols : Int), .int .i64 t, .pointer q, .int .i64 (cnt m : Int)] TVol)) rfl rfl (by decide +kernel) rfl (by go_simp) hS3 ?_
        simp only [List.setIfInBounds_toArray, List.set_cons_succ, List.set_cons_zero]
        replace H1 := Lib.hid (And.intro ((H1.out.1.drew).alloc (.cells #[.int .i64 (free S.vols : Int), .int .i64 t, .pointer q, .int .i64 (cnt m : Int)] TVol)) hA)
        clear hS3 hbw2 hA hS0
        generalize w1.drew.alloc (.cells #[.int .i64 (free S.vols : Int), .int .i64 t, .pointer q, .int .i64 (cnt m : Int)] TVol) = W2 at H1 hbw3 ⊢
        generalize w1.drew.heap.size = vb at H1 ⊢
        refine reg_call 5 rfl rfl (by decide +kernel) rfl (f := 88) (args := #[.slice ao lv.length cap]) (R := fun v w' => ∃ a c, v = .slice a lv.length c ∧ Hid (Same w w' ∧ Sat w' (ownAt TVol 4 (.slice a lv.length c) lv.length (lv.flatMap volE) * (pts vb (.cells #[.int .i64 (free S.vols : Int), .int .i64 t, .pointer q, .int .i64 (cnt m : Int)] TVol (0, 0)) * (pts B5 (.cells #[.pointer q, .int .i64 (cnt m : Int)] TTree (0, 0)) * old w))))) (by kernel_rfl)
          ((HCL.out W2 (pts vb (.cells #[.int .i64 (free S.vols : Int), .int .i64 t, .pointer q, .int .i64 (cnt m : Int)] TVol (0, 0)) * (pts B5 (.cells #[.pointer q, .int .i64 (cnt m : Int)] TTree (0, 0)) * old w)) hbw3 H1.out.2).mono fun e w' h => by
            obtain ⟨v', rfl, h1, h2⟩ := h
            obtain ⟨a, c, rfl⟩ := ownAt_slice h2
            exact ⟨_, rfl, a, c, rfl, H1.out.1.trans h1, h2⟩) ?_
        rintro _ W3 ⟨a1, c1, rfl, h2⟩
        replace H1 := Lib.hid h2.out
        clear h2 hbw3
        have hbw := H1.out.1.below_of (H1.out.2.perm (show _ = (ownAt TVol 4 (.slice a1 lv.length c1) lv.length (lv.flatMap volE) * (pts vb (.cells #[.int .i64 (free S.vols : Int), .int .i64 t, .pointer q, .int .i64 (cnt m : Int)] TVol (0, 0)) * pts B5 (.cells #[.pointer q, .int .i64 (cnt m : Int)] TTree (0, 0)))) * old w from by ac_rfl))
        have hS3 : W3.cell? ⟨p, 0, none⟩ = some (.slice ao lv.length cap) ∧ W3.cell? ⟨B5, 0, none⟩ = some (.pointer q) ∧ W3.cell? ⟨B5, 1, none⟩ = some (.int .i64 (cnt m : Int)) := ⟨(hbw.cell (p := ⟨p, 0, none⟩) HPL.out).trans HC0.out, (tree_cells H1.out.2.right.right).1, (tree_cells H1.out.2.right.right).2.1⟩
        refine ⟨hS3, ?_⟩
        clear hbw hS3
        simp only [List.setIfInBounds_toArray, List.set_cons_succ, List.set_cons_zero]
        -- H1 : Same w W3 ∧ Sat W3 (ownAt v1 * (pts vb * (BX * old w)))
        have hbw := H1.out.1.below_of (H1.out.2.perm (show _ = (ownAt TVol 4 (.slice a1 lv.length c1) lv.length (lv.flatMap volE) * (pts vb (.cells #[.int .i64 (free S.vols : Int), .int .i64 t, .pointer q, .int .i64 (cnt m : Int)] TVol (0, 0)) * pts B5 (.cells #[.pointer q, .int .i64 (cnt m : Int)] TTree (0, 0)))) * old w from by ac_rfl))
        have hS3 : W3.cell? ⟨p, 0, none⟩ = some (.slice ao lv.length cap) ∧ W3.cell? ⟨B5, 0, none⟩ = some (.pointer q) ∧ W3.cell? ⟨B5, 1, none⟩ = some (.int .i64 (cnt m : Int)) := ⟨(hbw.cell (p := ⟨p, 0, none⟩) HPL.out).trans HC0.out, (tree_cells H1.out.2.right.right).1, (tree_cells H1.out.2.right.right).2.1⟩
        refine reg_call 13 rfl rfl (by decide +kernel) rfl (f := 87) (args := #[.slice a1 lv.length c1, .int .i64 (free S.vols : Int), .slice (some ⟨vb, 0, none⟩) 1 1]) (R := fun v w' => ∃ a c, v = .slice a (lv.length + 1) c ∧ Hid (Same w w' ∧ Sat w' (ownAt TVol 4 (.slice a (lv.length + 1) c) (lv.length + 1) ((lv.flatMap volE).take (free S.vols * 4) ++ #[.int .i64 (free S.vols : Int), .int .i64 t, .pointer q, .int .i64 (cnt m : Int)].toList ++ (lv.flatMap volE).drop (free S.vols * 4)) * (pts vb (.cells #[.int .i64 (free S.vols : Int), .int .i64 t, .pointer q, .int .i64 (cnt m : Int)] TVol (0, 0)) * (pts B5 (.cells #[.pointer q, .int .i64 (cnt m : Int)] TTree (0, 0)) * old w))))) (by kernel_rfl)
          ((insvol_any (.slice a1 lv.length c1) lv.length (free S.vols) (lv.flatMap volE) #[.int .i64 (free S.vols : Int), .int .i64 t, .pointer q, .int .i64 (cnt m : Int)].toList vb (pts B5 (.cells #[.pointer q, .int .i64 (cnt m : Int)] TTree (0, 0)) * old w) W3 HFR.out HN.out H1.out.2 rfl HO4.out (by intro u hu; simp at hu; rcases hu with rfl | rfl | rfl | rfl <;> rfl)).mono fun e w' h => by
            obtain ⟨s', rfl, h1, h2⟩ := h
            obtain ⟨a, c, rfl⟩ := ownAt_slice h2
            exact ⟨_, rfl, a, c, rfl, H1.out.1.trans h1, h2⟩) ?_
        rintro _ W4 ⟨a4, c4, rfl, h4⟩
        have hbw4 := h4.out.1.below_of (h4.out.2.perm (show _ = (ownAt TVol 4 (.slice a4 (lv.length + 1) c4) (lv.length + 1) ((lv.flatMap volE).take (free S.vols * 4) ++ #[.int .i64 (free S.vols : Int), .int .i64 t, .pointer q, .int .i64 (cnt m : Int)].toList ++ (lv.flatMap volE).drop (free S.vols * 4)) * (pts vb (.cells #[.int .i64 (free S.vols : Int), .int .i64 t, .pointer q, .int .i64 (cnt m : Int)] TVol (0, 0)) * pts B5 (.cells #[.pointer q, .int .i64 (cnt m : Int)] TTree (0, 0)))) * old w from by ac_rfl))
        have hS4 : W4.cell? ⟨p, 0, none⟩ = some (.slice ao lv.length cap) ∧ W4.cell? ⟨B5, 0, none⟩ = some (.pointer q) ∧ W4.cell? ⟨B5, 1, none⟩ = some (.int .i64 (cnt m : Int)) := ⟨(hbw4.cell (p := ⟨p, 0, none⟩) HPL.out).trans HC0.out, (tree_cells h4.out.2.right.right).1, (tree_cells h4.out.2.right.right).2.1⟩
        refine ⟨hS4, ?_⟩
        simp only [List.setIfInBounds_toArray, List.set_cons_succ, List.set_cons_zero]
        have hva := volumesAre_any p (.slice ao lv.length cap) (.slice so ls.length scap) a4 (lv.length + 1) c4 W4 rfl ⟨_, _, _, rfl⟩ (by rw [hbw4.block p HPL.out]; exact HP.out)
        refine reg_call 14 rfl rfl (by decide +kernel) rfl (f := 55) (args := #[.pointer (some ⟨p, 0, none⟩), .slice a4 (lv.length + 1) c4]) (R := fun v w' => v = .pointer (some ⟨W4.heap.size, 0, none⟩) ∧ w' = W4.alloc (.cells #[.slice a4 (lv.length + 1) c4, .slice so ls.length scap] TSp)) (by kernel_rfl) (hva.mono fun e w' h => ⟨_, h.1, rfl, h.2⟩) ?_
        rintro _ _ ⟨rfl, rfl⟩
        have hbw5 := hbw4.alloc hbw4.size (.cells #[.slice a4 (lv.length + 1) c4, .slice so ls.length scap] TSp)
        have hb45 := (Below.refl W4.heap.size W4).alloc (Nat.le_refl _) (.cells #[.slice a4 (lv.length + 1) c4, .slice so ls.length scap] TSp)
        have hS5 : (W4.alloc (.cells #[.slice a4 (lv.length + 1) c4, .slice so ls.length scap] TSp)).cell? ⟨p, 0, none⟩ = some (.slice ao lv.length cap) ∧ (W4.alloc (.cells #[.slice a4 (lv.length + 1) c4, .slice so ls.length scap] TSp)).cell? ⟨B5, 0, none⟩ = some (.pointer q) ∧ (W4.alloc (.cells #[.slice a4 (lv.length + 1) c4, .slice so ls.length scap] TSp)).cell? ⟨B5, 1, none⟩ = some (.int .i64 (cnt m : Int)) := ⟨(hbw5.cell (p := ⟨p, 0, none⟩) HPL.out).trans HC0.out, by rw [World.cell?_alloc_lt _ _ _ (h4.out.2.right.right.lt)]; exact hS4.2.1, by rw [World.cell?_alloc_lt _ _ _ (h4.out.2.right.right.lt)]; exact hS4.2.2⟩
        have hfin : SpaceAt TNode TSp (W4.alloc (.cells #[.slice a4 (lv.length + 1) c4, .slice so ls.length scap] TSp)) W4.heap.size { S with vols := S.vols.insertIdx (free S.vols) ⟨free S.vols, t, 0, m⟩ } := by
          refine ⟨lv.insertIdx (free S.vols) (⟨free S.vols, t, 0, m⟩, .pointer q), ls, by rw [insertIdx_map_fst, HM.out.1], HM.out.2.1, SpAt.mk' (heap_alloc_new _ _) ?_ (HM.out.2.2.1.below hbw5) (ElsAt.insert (HM.out.2.2.2.1.below hbw5) (NodeAt.below hbw5 HM.out.2.2.2.2.2)) (HM.out.2.2.2.2.1.below hbw5)⟩
          have hr := (RowsAt.own h4.out.2 (by omega)).below hb45
          rw [List.length_insertIdx_of_le_length HFR.out, flat_insert volE_len _ _ _ HFR.out]
          exact hr
        have HFIN := Lib.hid (And.intro hbw5 hfin)
        generalize W4.alloc (.cells #[.slice a4 (lv.length + 1) c4, .slice so ls.length scap] TSp) = W5 at hS5 HFIN ⊢
        generalize W4.heap.size = B7 at HFIN ⊢
        refine ⟨hS5, ?_⟩
        simp only [List.setIfInBounds_toArray, List.set_cons_succ, List.set_cons_zero]
        (apply reg_take 16 rfl rfl (by decide +kernel) rfl); (rintro w' ⟨h1, h2, h3⟩; go_simp; rfl); exact hS5; simp only [List.setIfInBounds_toArray, List.set_cons_succ, List.set_cons_zero]
        (apply reg_take 17 rfl rfl (by decide +kernel) rfl); (rintro w' ⟨h1, h2, h3⟩; go_simp; rfl); exact hS5; simp only [List.setIfInBounds_toArray, List.set_cons_succ, List.set_cons_zero]
        (apply reg_take 18 rfl rfl (by decide +kernel) rfl); (rintro w' ⟨h1, h2, h3⟩; go_simp; rfl); exact hS5; simp only [List.setIfInBounds_toArray, List.set_cons_succ, List.set_cons_zero]
        refine reg_done (by decide +kernel) ?_
        clear hS3 hS4 hS5 hbw hbw4 h4 hva hfin hbw5 hb45
        go_wp2
        refine bodyPost_ret (v := .tuple #[.pointer (some ⟨B7, 0, none⟩), .int .i64 (free S.vols : Int), .int .i64 0]) (by simp [results, Tryz.results54, go_sem]) rfl ?_
        rw [HRES.out]
        exact ⟨_, rfl, HFIN.out.1, B7, rfl, HFIN.out.2⟩

theorem createN_any (p : Nat) (S : SpaceM) (t : Int) (w : World) (hS : SpaceAt TNode TSp w p S) (hwf : S.WF) :
    Calls Tryz.prog 19 #[.pointer (some ⟨p, 0, none⟩), .int .i64 t] w (Res3 w (S.create t Vol.empty)) := by
  have hc := create_any p S t (.pointer none) Vol.empty w hS hwf (NodeOk.mk_nil (anyB_false.2 fun _ _ => rfl))
  have h0 : (cnt Vol.empty : Int) = 0 := by
    have : cnt Vol.empty = 0 := by unfold cnt cntF Vol.empty; simp
    omega
  rw [h0] at hc
  have HC := Lib.hid hc
  clear hc h0
  go_enter Tryz.func19, Tryz.ntmps19
  go_wp2_with (go_at_call 54; refine HC.out.mono ?_; rintro e w' ⟨v, rfl, hb, hp⟩)
  refine bodyPost_ret (v := .tuple #[v, .int .i64 (S.create t Vol.empty).id, .int .i64 (S.create t Vol.empty).e]) (by simp [results, Tryz.results19, go_sem]) rfl ?_
  exact ⟨v, rfl, hb, hp⟩

end Go.Proofs.YtednjhlkhecihaaGreatDoor
