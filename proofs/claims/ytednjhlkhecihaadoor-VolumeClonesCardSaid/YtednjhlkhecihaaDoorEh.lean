/- VolumeClones: a clone of a snapshot maps what the snapshot maps, a volume that was restored from it does so, too, and taking a snapshot of the clone gives one without differences. -/
import Derived.Test.YtednjhlkhecihaaDoorWc
import Derived.Test.YtednjhlkhecihaaDoorWv
import Derived.Test.YtednjhlkhecihaaDoorZx
import Derived.Test.YtednjhlkhecihaaDoorEg
namespace Go.Vol
open SpaceM
theorem items_dm_self (m : MapM) : items (dm m m) = [] := itemsF_nil 0 4096 fun _ _ => dm_none rfl
end Go.Vol
namespace Go.Proofs.YtednjhlkhecihaaDoor
open Go.RowKit Go.Vol Go.Sl

theorem imageM_ok {S : SpaceM} {v : Int} (h : (imageM S v).2 = 0) : ∃ p, snapF S v = some p := by
  unfold imageM at h
  cases hv : snapF S v with
  | none => rw [hv] at h; simp at h
  | some p => exact ⟨p, rfl⟩
theorem clone_new {S : SpaceM} {s t : Int} {x : PartM} (hw : S.WF) (hs : snapF S s = some x) (he : (stepM S ⟨8, s, t, 0⟩).e = 0) :
    (∃ p, volF (doM S ⟨8, s, t, 0⟩) (stepM S ⟨8, s, t, 0⟩).id = some p ∧ p.m = x.m ∧ p.tenant = t) ∧ snapF (doM S ⟨8, s, t, 0⟩) s = some x := by
  have e1 : stepM S ⟨8, s, t, 0⟩ = S.clone s t := by simp [stepM]
  have e2 : S.clone s t = S.create t x.m := by
    unfold SpaceM.clone
    rw [atN_find, show S.snaps.find? (fun p => p.id == s) = some x from hs]
  rw [e1, e2] at he ⊢
  rcases create_link S t x.m with ⟨_, T, hT⟩ | ⟨h, _⟩
  · have hd : doM S ⟨8, s, t, 0⟩ = T := by unfold doM; rw [e1, e2, hT]
    rw [hd]
    refine ⟨?_, by unfold snapF; rw [create_snap hT]; exact hs⟩
    unfold SpaceM.create at hT ⊢
    split at hT
    · cases hT
    · split at hT
      · cases hT
      · rename_i h1 h2
        rw [if_neg h1, if_neg h2]
        simp only [Option.some.injEq] at hT
        subst hT
        exact ⟨⟨free S.vols, t, 0, x.m⟩, find_new (free_new hw.vols) rfl _ (free_le hw.vols), rfl, rfl⟩
  · exact absurd he h
theorem restore_new {S : SpaceM} {v s : Int} {x : PartM} (hs : snapF S s = some x) (he : (stepM S ⟨9, v, s, 0⟩).e = 0) :
    contM (doM S ⟨9, v, s, 0⟩) v = (items x.m, 0) ∧ tenM (doM S ⟨9, v, s, 0⟩) v = tenM S v := by
  have e1 : stepM S ⟨9, v, s, 0⟩ = S.restore v s := by simp [stepM]
  have e2 : S.restore v s = S.change v true fun q => { q with m := x.m } := by
    unfold SpaceM.restore
    rw [atN_find, show S.snaps.find? (fun p => p.id == s) = some x from hs]
  rw [e1, e2] at he
  unfold SpaceM.change at he
  cases hv : S.vols[atN S.vols v]? with
  | none => rw [hv] at he; simp at he
  | some p =>
    have hd : doM S ⟨9, v, s, 0⟩ = { S with vols := S.vols.set (atN S.vols v) { p with m := x.m } } := by
      unfold doM; rw [e1, e2]; unfold SpaceM.change; rw [hv]; rfl
    have hid := atN_some hv
    have hlt := (List.getElem?_eq_some_iff.1 hv).1
    have hf : volF (doM S ⟨9, v, s, 0⟩) v = some { p with m := x.m } := by
      rw [hd]
      unfold volF
      simp only
      rw [← atN_find]
      have : atN (S.vols.set (atN S.vols v) { p with m := x.m }) v = atN S.vols v := by
        unfold atN
        have hgen : ∀ (l : List PartM) (i : Nat) (a b : PartM), l[i]? = some a → b.id = a.id → (l.set i b).findIdx (fun p => p.id == v) = l.findIdx fun p => p.id == v := by
          intro l
          induction l with
          | nil => intro i a b h; simp at h
          | cons c r ih =>
            intro i a b h hb
            cases i with
            | zero =>
              simp only [List.getElem?_cons_zero, Option.some.injEq] at h
              subst h
              simp [List.findIdx_cons, hb]
            | succ i =>
              simp only [List.getElem?_cons_succ] at h
              rw [List.set_cons_succ, List.findIdx_cons, List.findIdx_cons, ih i a b h hb]
        exact hgen _ _ _ _ hv rfl
      rw [this, List.getElem?_set, if_pos rfl, if_pos hlt]
    have hf0 : volF S v = some p := by unfold volF; rw [← atN_find]; exact hv
    constructor
    · unfold contM; rw [hf]
    · unfold tenM; rw [hf, hf0]
theorem diff_none {S : SpaceM} {a b : Int} {x y : PartM} (ha : snapF S a = some x) (hb : snapF S b = some y) (h : x.m = y.m) : diffMM S a b = ([], 0) := by
  unfold diffMM; rw [ha, hb]; simp only; rw [h, items_dm_self]
theorem snap_mem {S : SpaceM} {v : Int} {p q : PartM} (hw : S.WF) (h1 : (stepM S ⟨6, v, 0, 0⟩).e = 0) (hp : volF S v = some p) (hq : snapF (doM S ⟨6, v, 0, 0⟩) (stepM S ⟨6, v, 0, 0⟩).id = some q) : q.m = p.m := by
  have hs : stepM S ⟨6, v, 0, 0⟩ = S.snapshot v := by simp [stepM]
  rw [hs] at h1 hq
  rcases snapshot_link S v with ⟨_, T, hT⟩ | ⟨h, _⟩
  · obtain ⟨q', h2, h3⟩ := snapshot_new hw hT hp
    have hd : doM S ⟨6, v, 0, 0⟩ = T := by unfold doM; rw [hs, hT]
    rw [hd, h2] at hq
    cases hq
    exact h3
  · exact absurd h1 h
theorem contM_of {S : SpaceM} {v : Int} {q : PartM} (h : volF S v = some q) : contM S v = (items q.m, 0) := by unfold contM; rw [h]
theorem tenM_of {S : SpaceM} {v : Int} {q : PartM} (h : volF S v = some q) : tenM S v = q.tenant := by unfold tenM; rw [h]

set_option maxRecDepth 20000 in
set_option maxHeartbeats 4000000 in
theorem clones_law (sv : Value) (l : List VOp) (snap t vol : Int) (w : World) (hscr : ScrV w sv l) (hT : TabW w) :
    Calls Tryd.prog 3 #[sv, .int .i64 snap, .int .i64 t, .int .i64 vol] w fun e w' => e = .returned (.bool true) ∧ Below w.heap.size w w' := by
  have hw0 : 0 < w.heap.size := by
    have := hT 0 (by decide)
    unfold World.cell? at this
    rcases Nat.eq_zero_or_pos w.heap.size with h | h
    · rw [Array.getElem?_eq_none (by simp only; omega)] at this; cases this
    · exact h
  have HTB := Lib.hid (fun (W : World) (hb : Below w.heap.size w W) => hT.keep (hb.block 0 hw0))
  clear hT hw0
  obtain ⟨ao, cap, rfl, hm, hc⟩ := hscr
  have HC := Lib.hid hc
  have HM := Lib.hid hm
  clear hc hm
  by_cases h1 : 60 < l.length
  · have h1d : decide ((60 : Int) < (l.length : Int)) = true := decide_eq_true (by omega)
    clear h1
    go_enter Tryd.func3, Tryd.ntmps3
    go_wp2_with (go_at_call 4; refine (sanity_any _).mono ?_; rintro e w10 ⟨rfl, h10⟩)
    go_ret
    exact ⟨rfl, h10⟩
  have h1d : decide ((60 : Int) < (l.length : Int)) = false := decide_eq_false (by omega)
  have hlen : l.length ≤ 60 := by omega
  clear h1
  have HN := Lib.hid (new_any w)
  go_enter Tryd.func3, Tryd.ntmps3
  go_wp2_with (go_at_call 5; refine HN.out.mono ?_; rintro e w1 ⟨p0, rfl, h1⟩)
  clear h1d
  go_loopw [9, 10] (fun s i wr => RunSt w l s i wr) (fun _ i _ => l.length - (intOf i).toNat)
  case atStart => exact ⟨0, p0, Nat.zero_le _, rfl, rfl, h1⟩
  case round =>
    clear h1 HN
    obtain ⟨k, p, hk, rfl, rfl, HS⟩ := hrel.st
    clear hrel
    by_cases hlt : k < l.length
    · have hltd : decide ((k : Int) < (l.length : Int)) = true := decide_eq_true (by omega)
      have hki : (k : Int) ≤ 60 := by omega
      obtain ⟨o, ho⟩ : ∃ o, l[k]? = some o := ⟨_, List.getElem?_eq_getElem hlt⟩
      obtain ⟨g, off, rfl, hcell⟩ := HC.out (by rintro rfl; simp at hlt)
      have hcw := fun i u hu => (HS.out.1.cell (World.block_lt_of_cell? _ _ (hcell k o ho i u hu))).trans (hcell k o ho i u hu)
      have c0 := hcw 0 _ rfl; have c1 := hcw 1 _ rfl; have c2 := hcw 2 _ rfl; have c3 := hcw 3 _ rfl
      rw [Nat.add_zero] at c0
      have HD := Lib.hid (And.intro (do_any p _ o wr HS.out.2 (runV_wf SpaceM.WF.new _)) (runV_take ho SpaceM.new))
      obtain ⟨od, oa, ob, oc⟩ := o
      clear hcell hcw ho
      go_wp2_with (go_at_call 6; refine HD.out.1.mono ?_; rintro e w2 ⟨p', rfl, h2⟩)
      refine ⟨⟨k + 1, p', by omega, rfl, rfl, ⟨HS.out.1.trans (h2.out.1.mono HS.out.1.size), by rw [HD.out.2]; exact h2.out.2⟩⟩, ?_⟩
      simp only [intOf]; omega
    · obtain rfl : k = l.length := by omega
      have hltd : decide ((l.length : Int) < (l.length : Int)) = false := decide_eq_false (by omega)
      rw [List.take_length] at HS
      have hwf := runV_wf SpaceM.WF.new l
      generalize runV SpaceM.new l = S at HS hwf
      have HW := Lib.hid (And.intro hwf (do_wf (o := ⟨8, snap, t, 0⟩) hwf))
      have HA := Lib.hid (FactsV.start HS.out.1 HS.out.2)
      clear hwf HC HS
      go_upto_region 10 with (first
        | (go_at_call 7; refine (imgS_any p S snap _ (HA.out.sp (p, S) (by simp))).mono ?_; rintro e w2 ⟨r1, rfl, h2⟩; replace HA := Lib.hid ((HA.out.next h2.out.1).addR h2.out.2); clear h2)
        | (go_at_call 6; refine (do_any p S ⟨8, snap, t, 0⟩ _ (HA.out.sp (p, S) (by simp)) HW.out.1).mono ?_; rintro e w3 ⟨q, rfl, h3⟩; replace HA := Lib.hid ((HA.out.next h3.out.1).addS h3.out.2); clear h3))
      by_cases he : (imageM S snap).2 = 0
      · have hed : ((imageM S snap).2 != 0) = false := by simp [he]
        by_cases hf : (stepM S ⟨8, snap, t, 0⟩).e = 0
        · have hfd : ((stepM S ⟨8, snap, t, 0⟩).e != 0) = false := by simp [hf]
          obtain ⟨x, hx⟩ := imageM_ok he
          have him := imageM_of hx
          have HE := Lib.hid (And.intro (clone_new HW.out.1 hx hf) (And.intro him hx))
          rw [him] at HA
          clear he hf him hx
          go_upto_region 12 with (fail)
          clear hed hfd hltd hk hlt
          -- the clone's own part
          have HWC := Lib.hid HW.out.2
          obtain ⟨⟨pc, hpc, hpm, hpt⟩, hsc⟩ := HE.out.1
          have hcont := contM_of hpc
          rw [hpm] at hcont
          have hten := tenM_of hpc
          rw [hpt] at hten
          have HC1 := Lib.hid (And.intro hcont (And.intro hten (And.intro hpm (And.intro hpc hsc))))
          clear hpc hpm hpt hsc hcont hten
          generalize (stepM S ⟨8, snap, t, 0⟩).id = id at HC1 ⊢
          generalize doM S ⟨8, snap, t, 0⟩ = T at HC1 HWC HA ⊢
          go_upto_region 14 with (first
            | (go_at_call 8; refine (contS_any q T id _ (HA.out.sp (q, T) (by simp))).mono ?_; rintro e w4 ⟨r2, rfl, h4⟩; rw [HC1.out.1] at h4 ⊢; replace HA := Lib.hid ((HA.out.next h4.out.1).addR h4.out.2); clear h4)
            | (go_at_call 6; refine (do_any q T ⟨6, id, 0, 0⟩ _ (HA.out.sp (q, T) (by simp)) HWC.out).mono ?_; rintro e w3 ⟨q2, rfl, h3⟩; replace HA := Lib.hid ((HA.out.next h3.out.1).addS h3.out.2); clear h3))
          go_upto_region 16 with (first
            | (go_at_call 9; refine (maps_any r2 r1 (items x.m) (items x.m) _ (HA.out.rw (r2, items x.m) (by simp)) (HA.out.rw (r1, items x.m) (by simp))).mono ?_; rintro e w5 ⟨rfl, h5⟩; rw [decide_eq_true rfl]; replace HA := Lib.hid (HA.out.next h5); clear h5)
            | (go_at_call 10; with_reducible refine (ten_any q T id _ (HA.out.sp (q, T) (by simp)) HWC.out).mono ?_; rintro e w6 ⟨rfl, h6⟩; rw [HC1.out.2.1]; replace HA := Lib.hid (HA.out.next h6); clear h6))
          by_cases hh : (stepM T ⟨6, id, 0, 0⟩).e = 0
          · have hhd : ((stepM T ⟨6, id, 0, 0⟩).e == 0) = true := by simp [hh]
            obtain ⟨q6, hq6, hm6⟩ := snap_keep HWC.out (by rw [HC1.out.1]) hh
            have hk6 := doM_snap (o := ⟨6, id, 0, 0⟩) HWC.out (fun h => by cases h.1) HC1.out.2.2.2.2
            have hD := diff_none hk6 hq6 (by
              have e1 := snap_mem HWC.out hh HC1.out.2.2.2.1 hq6
              rw [e1]; exact HC1.out.2.2.1.symm)
            have HD := Lib.hid hD
            clear hh hq6 hm6 hk6 hD
            go_upto_region 20 with (go_at_call 11; refine (diffS_any q2 (doM T ⟨6, id, 0, 0⟩) snap (stepM T ⟨6, id, 0, 0⟩).id _ (HA.out.sp (q2, doM T ⟨6, id, 0, 0⟩) (by simp)) (HTB.out _ HA.out.bl)).mono ?_; rintro e w4 ⟨r3, rfl, h4⟩; rw [HD.out] at h4 ⊢; obtain ⟨ao3, cap3, rfl, -⟩ := h4.out.2; replace HA := Lib.hid (HA.out.next h4.out.1); clear h4; simp only [List.length_nil])
            clear hhd
            by_cases hm9 : (stepM S ⟨9, vol, snap, 0⟩).e = 0
            · have hm9d : ((stepM S ⟨9, vol, snap, 0⟩).e != 0) = false := by simp [hm9]
              obtain ⟨hb1, hb2⟩ := restore_new HE.out.2.2 hm9
              have HB := Lib.hid (And.intro hb1 (And.intro hb2 (do_wf (o := ⟨9, vol, snap, 0⟩) HW.out.1)))
              clear hm9 hb1 hb2
              go_wp2_with (first
                | (go_at_call 6; refine (do_any p S ⟨9, vol, snap, 0⟩ _ (HA.out.sp (p, S) (by simp)) HW.out.1).mono ?_; rintro e w3 ⟨q3, rfl, h3⟩; replace HA := Lib.hid ((HA.out.next h3.out.1).addS h3.out.2); clear h3)
                | (go_at_call 8; refine (contS_any q3 (doM S ⟨9, vol, snap, 0⟩) vol _ (HA.out.sp (q3, doM S ⟨9, vol, snap, 0⟩) (by simp))).mono ?_; rintro e w4 ⟨r4, rfl, h4⟩; rw [HB.out.1] at h4 ⊢; replace HA := Lib.hid ((HA.out.next h4.out.1).addR h4.out.2); clear h4)
                | (go_at_call 4; refine (sanity_any _).mono ?_; rintro e w10 ⟨rfl, h10⟩; replace HA := Lib.hid (HA.out.next h10); clear h10)
                | (go_at_call 9; refine (maps_any r4 r1 (items x.m) (items x.m) _ (HA.out.rw (r4, items x.m) (by simp)) (HA.out.rw (r1, items x.m) (by simp))).mono ?_; rintro e w5 ⟨rfl, h5⟩; rw [decide_eq_true rfl]; replace HA := Lib.hid (HA.out.next h5); clear h5)
                | (go_at_call 10; with_reducible refine (ten_any p S vol _ (HA.out.sp (p, S) (by simp)) HW.out.1).mono ?_; rintro e w6 ⟨rfl, h6⟩; skip; replace HA := Lib.hid (HA.out.next h6); clear h6)
                | (go_at_call 10; with_reducible refine (ten_any q3 (doM S ⟨9, vol, snap, 0⟩) vol _ (HA.out.sp (q3, (doM S ⟨9, vol, snap, 0⟩)) (by simp)) HB.out.2.2).mono ?_; rintro e w6 ⟨rfl, h6⟩; rw [HB.out.2.1]; replace HA := Lib.hid (HA.out.next h6); clear h6))
              go_ret
              exact ⟨rfl, HA.out.bl⟩
            · have hm9d : ((stepM S ⟨9, vol, snap, 0⟩).e != 0) = true := by simp [hm9]
              clear hm9
              go_wp2_with (first
                | (go_at_call 6; refine (do_any p S ⟨9, vol, snap, 0⟩ _ (HA.out.sp (p, S) (by simp)) HW.out.1).mono ?_; rintro e w3 ⟨q3, rfl, h3⟩; replace HA := Lib.hid ((HA.out.next h3.out.1).addS h3.out.2); clear h3)
                | (go_at_call 4; refine (sanity_any _).mono ?_; rintro e w10 ⟨rfl, h10⟩; replace HA := Lib.hid (HA.out.next h10); clear h10))
              go_ret
              exact ⟨rfl, HA.out.bl⟩
          · have hhd : ((stepM T ⟨6, id, 0, 0⟩).e == 0) = false := by simp [hh]
            clear hh
            go_upto_region 20 with (fail)
            clear hhd
            by_cases hm9 : (stepM S ⟨9, vol, snap, 0⟩).e = 0
            · have hm9d : ((stepM S ⟨9, vol, snap, 0⟩).e != 0) = false := by simp [hm9]
              obtain ⟨hb1, hb2⟩ := restore_new HE.out.2.2 hm9
              have HB := Lib.hid (And.intro hb1 (And.intro hb2 (do_wf (o := ⟨9, vol, snap, 0⟩) HW.out.1)))
              clear hm9 hb1 hb2
              go_wp2_with (first
                | (go_at_call 6; refine (do_any p S ⟨9, vol, snap, 0⟩ _ (HA.out.sp (p, S) (by simp)) HW.out.1).mono ?_; rintro e w3 ⟨q3, rfl, h3⟩; replace HA := Lib.hid ((HA.out.next h3.out.1).addS h3.out.2); clear h3)
                | (go_at_call 8; refine (contS_any q3 (doM S ⟨9, vol, snap, 0⟩) vol _ (HA.out.sp (q3, doM S ⟨9, vol, snap, 0⟩) (by simp))).mono ?_; rintro e w4 ⟨r4, rfl, h4⟩; rw [HB.out.1] at h4 ⊢; replace HA := Lib.hid ((HA.out.next h4.out.1).addR h4.out.2); clear h4)
                | (go_at_call 4; refine (sanity_any _).mono ?_; rintro e w10 ⟨rfl, h10⟩; replace HA := Lib.hid (HA.out.next h10); clear h10)
                | (go_at_call 9; refine (maps_any r4 r1 (items x.m) (items x.m) _ (HA.out.rw (r4, items x.m) (by simp)) (HA.out.rw (r1, items x.m) (by simp))).mono ?_; rintro e w5 ⟨rfl, h5⟩; rw [decide_eq_true rfl]; replace HA := Lib.hid (HA.out.next h5); clear h5)
                | (go_at_call 10; with_reducible refine (ten_any p S vol _ (HA.out.sp (p, S) (by simp)) HW.out.1).mono ?_; rintro e w6 ⟨rfl, h6⟩; skip; replace HA := Lib.hid (HA.out.next h6); clear h6)
                | (go_at_call 10; with_reducible refine (ten_any q3 (doM S ⟨9, vol, snap, 0⟩) vol _ (HA.out.sp (q3, (doM S ⟨9, vol, snap, 0⟩)) (by simp)) HB.out.2.2).mono ?_; rintro e w6 ⟨rfl, h6⟩; rw [HB.out.2.1]; replace HA := Lib.hid (HA.out.next h6); clear h6))
              go_ret
              exact ⟨rfl, HA.out.bl⟩
            · have hm9d : ((stepM S ⟨9, vol, snap, 0⟩).e != 0) = true := by simp [hm9]
              clear hm9
              go_wp2_with (first
                | (go_at_call 6; refine (do_any p S ⟨9, vol, snap, 0⟩ _ (HA.out.sp (p, S) (by simp)) HW.out.1).mono ?_; rintro e w3 ⟨q3, rfl, h3⟩; replace HA := Lib.hid ((HA.out.next h3.out.1).addS h3.out.2); clear h3)
                | (go_at_call 4; refine (sanity_any _).mono ?_; rintro e w10 ⟨rfl, h10⟩; replace HA := Lib.hid (HA.out.next h10); clear h10))
              go_ret
              exact ⟨rfl, HA.out.bl⟩
        · have hfd : ((stepM S ⟨8, snap, t, 0⟩).e != 0) = true := by simp [hf]
          clear he hf
          go_wp2_with (go_at_call 4; refine (sanity_any _).mono ?_; rintro e w10 ⟨rfl, h10⟩; replace HA := Lib.hid (HA.out.next h10); clear h10)
          go_ret
          exact ⟨rfl, HA.out.bl⟩
      · have hed : ((imageM S snap).2 != 0) = true := by simp [he]
        clear he
        go_wp2_with (go_at_call 4; refine (sanity_any _).mono ?_; rintro e w10 ⟨rfl, h10⟩; replace HA := Lib.hid (HA.out.next h10); clear h10)
        go_ret
        exact ⟨rfl, HA.out.bl⟩
end Go.Proofs.YtednjhlkhecihaaDoor
