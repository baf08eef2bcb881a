import Derived.Test.YtogmkbhbmmgidaaGreatP34
import Derived.Test.YtogmkbhbmmgidaaGreatP35
import Derived.Test.YtogmkbhbmmgidaaGreatP36
import Derived.Laws.StructEq
import Derived.Test.YtogmkbhbmmgidaaGreatRows
import Derived.Test.YtogmkbhbmmgidaaGreatChecked
/- ShelfPlays: the row. Printed by row17.py. -/
section
namespace Go.Proofs.YtogmkbhbmmgidaaGreat
open Go.RowKit Go.Sl Go.ChangeMaps Go.ChangeShapes Go.WideShapes Go.ChangeAt
def plF (B : Nat) (c : CfgM) (v : Value) (cp : Int) (w : World) (X : HProp) : HProp := pts B (.cells (plyA c v cp) TPlay (0, 0)) * (X * old w)
theorem plF_cells {w w' : World} {B : Nat} {c : CfgM} {v : Value} {cp : Int} {X : HProp} (h : Sat w' (plF B c v cp w X)) :
    (w'.cell? ⟨B, 0, none⟩ = some (.int .i64 c.disks) ∧ w'.cell? ⟨B, 1, none⟩ = some (.int .i64 c.racks) ∧ w'.cell? ⟨B, 2, none⟩ = some (.int .i64 c.rows) ∧ w'.cell? ⟨B, 3, none⟩ = some (.int .i64 c.spare) ∧ w'.cell? ⟨B, 4, none⟩ = some (.int .i64 c.log) ∧ w'.cell? ⟨B, 5, none⟩ = some (.int .i64 c.image)) ∧
    w'.cell? ⟨B, 6, none⟩ = some v ∧ w'.cell? ⟨B, 7, none⟩ = some (.int .i64 cp) := by
  unfold plF at h
  obtain ⟨h1, h2, _⟩ := ply_cells h
  exact ⟨h1, h2, cells_at h.block 7⟩
structure PlySt (w : World) (B p q : Nat) (c : CfgM) (v : Value) (cp : Int) (l : List (OpN × Value)) (va vb i : Value) (wr : World) : Prop where
  st : ∃ (k ra rb : Nat) (S C : ShelfM) (X : HProp), k ≤ l.length ∧ i = .int .i64 (k : Int) ∧ va = .pointer (some ⟨ra, 0, none⟩) ∧ vb = .pointer (some ⟨rb, 0, none⟩) ∧
    (S.cfg = c ∧ S.images.length ≤ k ∧ C.cfg = c ∧ C.images.length ≤ 60) ∧ Hid (Same w wr ∧ Sat wr (shelfAt SH p S * (rshAt RS q S * (shelfAt SH ra C * (rshAt RS rb C * plF B c v cp w X)))))
structure PlySt2 (w : World) (B p q ra rb : Nat) (c : CfgM) (v : Value) (cp : Int) (l : List (OpN × Value)) (S : ShelfM) (i : Value) (wr : World) : Prop where
  st : ∃ (k : Nat) (C : ShelfM) (X : HProp), k ≤ l.length ∧ i = .int .i64 (k : Int) ∧ (C.cfg = c ∧ C.images.length ≤ 60 + k) ∧ Hid (Same w wr ∧ Sat wr (shelfAt SH ra C * (rshAt RS rb C * (shelfAt SH p S * (rshAt RS q S * plF B c v cp w X)))))
set_option maxRecDepth 20000 in
theorem neq_res (r : ResM) (w : World) : (binOp .neq TRes (.agg (resA r)) (.agg (resA r))).run Tryz.prog w = .ok (.bool false) w := by
  have h1 : ((strB r.text).toList == (strB r.text).toList) = true := beq_self_eq_true _
  have h2 : (r.n == r.n) = true := beq_self_eq_true _
  have h3 : (r.e == r.e) = true := beq_self_eq_true _
  go_simp
set_option maxRecDepth 100000 in
set_option maxHeartbeats 4000000 in
theorem plays_any (c : CfgM) (v : Value) (l : List (OpN × Value)) (cp : Int) (w : World) (hscr : ScrN w v l) :
    Calls Tryz.prog 3 #[.agg (plyA c v cp)] w fun e w' => e = .returned (.bool true) ∧ Below w.heap.size w w' := by
  obtain ⟨ao, cap, rfl, _⟩ := id hscr
  have HSC := Lib.hid (show ∀ (w' : World) (P X : HProp), Sat w' (P * (X * old w)) → ScrN w' (.slice ao l.length cap) l from fun w' P X h => hscr.old (P := P * X) (h.perm (by ac_rfl)))
  have hA := (Sat.old w).alloc (.cells (plyA c (.slice ao l.length cap) cp) TPlay)
  have H := Lib.hid (show Same w (w.alloc (.cells (plyA c (.slice ao l.length cap) cp) TPlay)) ∧ Sat (w.alloc (.cells (plyA c (.slice ao l.length cap) cp) TPlay)) (plF w.heap.size c (.slice ao l.length cap) cp w emp) from ⟨(Same.refl w).alloc _, hA.perm (by unfold plF; rw [emp_star])⟩)
  clear hA hscr
  have HS := Lib.hid (fun w => small_any c w)
  go_enter Tryz.func3, Tryz.ntmps3
  go_upto_region 1 with (fail)
  generalize w.alloc (.cells (plyA c (.slice ao l.length cap) cp) TPlay) = W at H ⊢
  generalize hB : w.heap.size = B at H ⊢
  have HB := Lib.hid hB
  clear hB
  go_upto_region 2 with (go_at_call 4; refine (sanity_any _ W H.out.2).mono ?_; rintro e w1 ⟨rfl, h1⟩; replace H := Lib.hid (And.intro (H.out.1.trans h1.out.1) h1.out.2); clear h1)
  have FIN := Lib.hid (show ∀ (w' : World) (P X : HProp), Same w w' → Sat w' (P * plF B c (.slice ao l.length cap) cp w X) → Below B w w' from fun w' P X h1 h2 => by
    rw [← HB.out]
    refine h1.below_of (P := P * (pts B (.cells (plyA c (.slice ao l.length cap) cp) TPlay (0, 0)) * X)) (h2.perm ?_)
    unfold plF; ac_rfl)
  have FIN0 := Lib.hid (show ∀ (w' : World) (X : HProp), Same w w' → Sat w' (plF B c (.slice ao l.length cap) cp w X) → Below B w w' from fun w' X h1 h2 => FIN.out w' emp X h1 (by rw [emp_star]; exact h2))
  obtain ⟨⟨c0, c1, c2, c3, c4, c5⟩, c6, c7⟩ := plF_cells H.out.2
  cases hsm : smallB c
  case false =>
    rw [hsm] at HS
    go_wp2_with (go_at_call 5; refine (HS.out _).mono ?_; rintro e w2 ⟨rfl, h2⟩; replace H := Lib.hid (And.intro (H.out.1.below h2.out) (H.out.2.below h2.out)); clear h2 c0 c1 c2 c3 c4 c5 c6 c7)
    go_ret
    exact ⟨rfl, by rw [HB.out]; exact FIN0.out _ _ H.out.1 H.out.2⟩
  case true =>
    rw [hsm] at HS
    by_cases hl : l.length ≤ 60
    case neg =>
      have hld : decide ((60 : Int) < (l.length : Int)) = true := decide_eq_true (by omega)
      have hld2 : decide (60 < l.length) = true := decide_eq_true (by omega)
      have HL := Lib.hid hl
      clear hl
      go_wp2_with (go_at_call 5; refine (HS.out _).mono ?_; rintro e w2 ⟨rfl, h2⟩; replace H := Lib.hid (And.intro (H.out.1.below h2.out) (H.out.2.below h2.out)); clear c0 c1 c2 c3 c4 c5 c6 c7; obtain ⟨⟨c0, c1, c2, c3, c4, c5⟩, c6, c7⟩ := plF_cells H.out.2; clear h2)
      go_ret
      exact ⟨rfl, by rw [HB.out]; exact FIN0.out _ _ H.out.1 H.out.2⟩
    have hld : decide ((60 : Int) < (l.length : Int)) = false := decide_eq_false (by omega)
    have hld2 : decide (60 < l.length) = false := decide_eq_false (by omega)
    go_upto_region 4 with (go_at_call 5; refine (HS.out _).mono ?_; rintro e w2 ⟨rfl, h2⟩; replace H := Lib.hid (And.intro (H.out.1.below h2.out) (H.out.2.below h2.out)); clear c0 c1 c2 c3 c4 c5 c6 c7; obtain ⟨⟨c0, c1, c2, c3, c4, c5⟩, c6, c7⟩ := plF_cells H.out.2; clear h2)
    clear hld hld2
    cases hok : c.ok
    case false =>
      go_upto_region 5 with (go_at_call 6; refine (snew_bad c _ w2 H.out.2 hok).mono ?_; rintro e w3 ⟨rfl, h3⟩; replace H := Lib.hid (And.intro (H.out.1.trans h3.out.1) h3.out.2); clear h3 c0 c1 c2 c3 c4 c5 c6 c7)
      obtain ⟨⟨c0, c1, c2, c3, c4, c5⟩, c6, c7⟩ := plF_cells H.out.2
      go_wp2_with (go_at_call 7; refine (rnew17_bad c _ w3 H.out.2 hok).mono ?_; rintro e w4 ⟨rfl, h4⟩; replace H := Lib.hid (And.intro (H.out.1.trans h4.out.1) h4.out.2); clear h4 c0 c1 c2 c3 c4 c5 c6 c7)
      go_ret
      exact ⟨rfl, by rw [HB.out]; exact FIN0.out _ _ H.out.1 H.out.2⟩
    case true =>
      have HSM := Lib.hid (small_of hsm hok)
      go_upto_region 5 with (go_at_call 6; refine (snew_ok c _ w2 H.out.2 hok HSM.out.1).mono ?_; rintro e w3 ⟨p, rfl, h3⟩; replace H := Lib.hid (show Same w w3 ∧ Sat w3 (plF B c (.slice ao l.length cap) cp w (shelfAt SH p (ShelfM.new c))) from ⟨H.out.1.trans h3.out.1, h3.out.2.perm (by unfold plF; rw [emp_star]; ac_rfl)⟩); clear h3 c0 c1 c2 c3 c4 c5 c6 c7)
      obtain ⟨⟨c0, c1, c2, c3, c4, c5⟩, c6, c7⟩ := plF_cells H.out.2
      go_upto_region 6 with (go_at_call 7; refine (rnew17_ok c _ w3 H.out.2 hok HSM.out.1).mono ?_; rintro e w4 ⟨q, rfl, h4⟩; replace H := Lib.hid (show Same w w4 ∧ Sat w4 (shelfAt SH p (ShelfM.new c) * (rshAt RS q (ShelfM.new c) * plF B c (.slice ao l.length cap) cp w emp)) from ⟨H.out.1.trans h4.out.1, h4.out.2.perm (by unfold plF; rw [emp_star]; ac_rfl)⟩); clear h4 c0 c1 c2 c3 c4 c5 c6 c7)
      clear hok hsm
      have HI := Lib.hid (show (ShelfM.new c).cfg = c ∧ (ShelfM.new c).images.length ≤ 0 from ⟨rfl, Nat.le_refl _⟩)
      obtain ⟨S0, hS0⟩ : ∃ S, Hid (ShelfM.new c = S) := ⟨_, Lib.hid rfl⟩
      rw [hS0.out] at H HI
      clear hS0
      go_upto_region 9 with (first
        | (go_at_call 8; refine (shclone_any p S0 _ w4 H.out.2 (by have := HI.out.2; omega)).mono ?_; rintro e w5 ⟨ra, rfl, h5⟩; replace H := Lib.hid (show Same w w5 ∧ Sat w5 (rshAt RS q S0 * (shelfAt SH p S0 * (shelfAt SH ra S0 * plF B c (.slice ao l.length cap) cp w emp))) from ⟨H.out.1.trans h5.out.1, h5.out.2.perm (by ac_rfl)⟩); clear h5)
        | (go_at_call 9; refine (rshclone_any q S0 _ w5 H.out.2 (by have := HI.out.2; omega)).mono ?_; rintro e w6 ⟨rb, rfl, h6⟩; replace H := Lib.hid (show Same w w6 ∧ Sat w6 (shelfAt SH p S0 * (rshAt RS q S0 * (shelfAt SH ra S0 * (rshAt RS rb S0 * plF B c (.slice ao l.length cap) cp w emp)))) from ⟨H.out.1.trans h6.out.1, h6.out.2.perm (by ac_rfl)⟩); clear h6))
      have H0 := Lib.hid (show PlySt w B p q c (.slice ao l.length cap) cp l (.pointer (some ⟨ra, 0, none⟩)) (.pointer (some ⟨rb, 0, none⟩)) (.int .i64 0) w6 from ⟨0, ra, rb, S0, S0, emp, Nat.zero_le _, rfl, rfl, rfl, ⟨HI.out.1, HI.out.2, HI.out.1, Nat.le_trans HI.out.2 (Nat.zero_le _)⟩, H.out⟩)
      clear H HI
      go_upto_region 10 with (fail)
      go_loopw [8, 9, 10] (fun va vb i wr => PlySt w B p q c (.slice ao l.length cap) cp l va vb i wr) (fun _ _ i _ => l.length - (intOf i).toNat)
      case atStart => exact H0.out
      case round =>
        clear H0
        obtain ⟨k, ra, rb, S, C, X, hk, rfl, rfl, rfl, hSC, H⟩ := hrel.st
        clear hrel
        have HCI := Lib.hid hSC
        clear hSC
        have hk60 : (k : Int) ≤ 60 := by omega
        obtain ⟨-, c6, c7⟩ := plF_cells H.out.2.right.right.right.right
        by_cases hlt : k < l.length
        case neg =>
          obtain rfl : k = l.length := by omega
          have hltd : decide ((l.length : Int) < (l.length : Int)) = false := decide_eq_false (by omega)
          have hltd2 : decide (l.length < l.length) = false := decide_eq_false (by omega)
          clear hk hlt
          replace H := Lib.hid (And.intro H.out.1 (H.out.2.perm (show _ = shelfAt SH ra C * (rshAt RS rb C * (shelfAt SH p S * (rshAt RS q S * plF B c (.slice ao l.length cap) cp w X))) from by ac_rfl)))
          go_upto_region 23 with (go_at_call 12; refine (alike_any ra rb C _ wr H.out.2 (by rw [HCI.out.2.2.1]; exact HSM.out.2.1) (by rw [HCI.out.2.2.1]; exact HSM.out.2.2)).mono ?_; rintro e w5 ⟨rfl, h5⟩; replace H := Lib.hid (And.intro (H.out.1.trans h5.out.1) h5.out.2); clear h5)
          clear c6 c7 hltd hltd2
          have HSc := Lib.hid HCI.out.1
          have H0 := Lib.hid (show PlySt2 w B p q ra rb c (.slice ao l.length cap) cp l S (.int .i64 0) w5 from ⟨0, C, X, Nat.zero_le _, rfl, ⟨HCI.out.2.2.1, HCI.out.2.2.2⟩, H.out⟩)
          clear H HCI
          go_loopw [15] (fun i wr => PlySt2 w B p q ra rb c (.slice ao l.length cap) cp l S i wr) (fun i _ => l.length - (intOf i).toNat)
          case atStart => exact H0.out
          case round =>
            clear H0 hk60
            obtain ⟨k, C, X, hk, rfl, hC, H⟩ := hrel.st
            clear hrel
            have HCI := Lib.hid hC
            clear hC
            have hk60 : (k : Int) ≤ 60 := by omega
            obtain ⟨-, c6, -⟩ := plF_cells H.out.2.right.right.right.right
            by_cases hlt : k < l.length
            case neg =>
              obtain rfl : k = l.length := by omega
              have hltd : decide ((l.length : Int) < (l.length : Int)) = false := decide_eq_false (by omega)
              have hltd2 : decide (l.length < l.length) = false := decide_eq_false (by omega)
              clear hk hlt
              go_wp2_with (first
                | (go_at_call 12; refine (alike_any ra rb C _ wr H.out.2 (by rw [HCI.out.1]; exact HSM.out.2.1) (by rw [HCI.out.1]; exact HSM.out.2.2)).mono ?_; rintro e w5 ⟨rfl, h5⟩; replace H := Lib.hid (And.intro (H.out.1.trans h5.out.1) (h5.out.2.perm (show _ = shelfAt SH p S * (rshAt RS q S * (shelfAt SH ra C * (rshAt RS rb C * plF B c (.slice ao l.length cap) cp w X))) from by ac_rfl))); clear h5 c6)
                | (go_at_call 12; refine (alike_any p q S _ w5 H.out.2 (by rw [HSc.out]; exact HSM.out.2.1) (by rw [HSc.out]; exact HSM.out.2.2)).mono ?_; rintro e w6 ⟨rfl, h6⟩; replace H := Lib.hid (And.intro (H.out.1.trans h6.out.1) h6.out.2); clear h6))
              go_ret
              exact ⟨rfl, by rw [HB.out]; exact FIN.out _ (shelfAt SH p S * (rshAt RS q S * (shelfAt SH ra C * rshAt RS rb C))) X H.out.1 (H.out.2.perm (by ac_rfl))⟩
            case pos =>
              have hltd : decide ((k : Int) < (l.length : Int)) = true := decide_eq_true (by omega)
              have hkn : (k : Int) < (l.length : Int) := by omega
              have hk0 : (0 : Int) ≤ (k : Int) := by omega
              have hwk : IntKind.i64.wrap ((k : Int) + 1) = (k : Int) + 1 := IntWalk.i64_in _ (by omega)
              obtain ⟨o, ho⟩ : ∃ o, l[k]? = some o := ⟨_, List.getElem?_eq_getElem hlt⟩
              obtain ⟨ao', cap', hv, hcell⟩ := HSC.out wr (shelfAt SH ra C * (rshAt RS rb C * (shelfAt SH p S * (rshAt RS q S * pts B (.cells (plyA c (.slice ao l.length cap) cp) TPlay (0, 0)))))) X (H.out.2.perm (by unfold plF; ac_rfl))
              simp only [Value.slice.injEq, true_and] at hv
              obtain ⟨rfl, rfl⟩ := hv
              obtain ⟨b, off, rfl, hc⟩ := hcell (by rintro rfl; simp at hlt)
              have hwo := (hc k o ho).1
              have SCR := Lib.hid (show ∀ (w' : World) (P X : HProp), Sat w' (P * (X * old w)) → w'.rangeAt b (off + k * 11) (opN o.1 o.2).toList ∧ IntsC w' o.2 o.1.picks from fun w' P X h => by
                obtain ⟨ao2, cap2, hv2, hcell2⟩ := HSC.out w' P X h
                simp only [Value.slice.injEq, true_and] at hv2
                obtain ⟨rfl, rfl⟩ := hv2
                obtain ⟨b2, off2, hb2, hc2⟩ := hcell2 (by rintro rfl; simp at hlt)
                simp only [Option.some.injEq, Addr.mk.injEq, and_true] at hb2
                obtain ⟨rfl, rfl⟩ := hb2
                exact (hc2 k o ho).2)
              have HO := Lib.hid (And.intro ho (And.intro hwo hlt))
              clear hcell hc hwo ho hlt
              obtain ⟨⟨S2, r⟩, hZ⟩ : ∃ Z, doN C o.1 = Z := ⟨_, rfl⟩
              have HZ := Lib.hid hZ
              have HS2 := Lib.hid (show S2.cfg = c ∧ S2.images.length ≤ 60 + (k + 1) from by
                have h1 := doN_cfg C o.1
                have h2 := doN_images C o.1
                rw [hZ] at h1 h2
                exact ⟨h1.trans HCI.out.1, by have := HCI.out.2; simp only at h2; omega⟩)
              clear hZ
              have hra := (SCR.out wr (shelfAt SH ra C * (rshAt RS rb C * (shelfAt SH p S * (rshAt RS q S * pts B (.cells (plyA c (.slice (some ⟨b, off, none⟩) l.length cap) cp) TPlay (0, 0)))))) X (H.out.2.perm (by unfold plF; ac_rfl))).1
              have HDO := Lib.hid (do_any ra C _ o.1 o.2 wr H.out.2 (fun w' h => (SCR.out w' (rshAt RS rb C * (shelfAt SH p S * (rshAt RS q S * pts B (.cells (plyA c (.slice (some ⟨b, off, none⟩) l.length cap) cp) TPlay (0, 0))))) X (h.perm (by unfold plF; ac_rfl))).2) HO.out.2.1.picks (by have := HCI.out.2; omega) HO.out.2.1.n)
              unfold DoOut at HDO
              rw [HZ.out] at HDO
              go_upto_region 26 with (first
                | ((with_reducible (apply wp_load_scr hra)); rfl; rfl; rfl)
                | (go_at_call 10; refine HDO.out.mono ?_; rintro e w7 ⟨rfl, h7⟩; replace H := Lib.hid (And.intro (H.out.1.trans h7.1) h7.2); clear h7 hra c6))
              have hA7 := H.out.2.alloc (.cells #[.string (strB r.text), .int .i64 r.n, .int .i64 r.e] TRes)
              replace H := Lib.hid (show Same w (w7.alloc (.cells #[.string (strB r.text), .int .i64 r.n, .int .i64 r.e] TRes)) ∧ Sat (w7.alloc (.cells #[.string (strB r.text), .int .i64 r.n, .int .i64 r.e] TRes)) (rshAt RS rb C * (pts w7.heap.size (.cells #[.string (strB r.text), .int .i64 r.n, .int .i64 r.e] TRes (0, 0)) * (shelfAt SH ra S2 * (shelfAt SH p S * (rshAt RS q S * plF B c (.slice (some ⟨b, off, none⟩) l.length cap) cp w X))))) from ⟨H.out.1.alloc _, hA7.perm (by ac_rfl)⟩)
              clear hA7 HDO
              generalize w7.alloc (.cells #[.string (strB r.text), .int .i64 r.n, .int .i64 r.e] TRes) = w8 at H ⊢
              generalize w7.heap.size = B11 at H ⊢
              obtain ⟨-, c6, -⟩ := plF_cells H.out.2.right.right.right.right.right
              have hra := (SCR.out w8 (rshAt RS rb C * (pts B11 (.cells #[.string (strB r.text), .int .i64 r.n, .int .i64 r.e] TRes (0, 0)) * (shelfAt SH ra S2 * (shelfAt SH p S * (rshAt RS q S * pts B (.cells (plyA c (.slice (some ⟨b, off, none⟩) l.length cap) cp) TPlay (0, 0))))))) X (H.out.2.perm (by unfold plF; ac_rfl))).1
              have HDO := Lib.hid (rdo17_any rb C _ o.1 o.2 w8 H.out.2 (fun w' h => (SCR.out w' (pts B11 (.cells #[.string (strB r.text), .int .i64 r.n, .int .i64 r.e] TRes (0, 0)) * (shelfAt SH ra S2 * (shelfAt SH p S * (rshAt RS q S * pts B (.cells (plyA c (.slice (some ⟨b, off, none⟩) l.length cap) cp) TPlay (0, 0)))))) X (h.perm (by unfold plF; ac_rfl))).2) HO.out.2.1.picks (by have := HCI.out.2; omega) HO.out.2.1.n)
              unfold RDoOut at HDO
              rw [HZ.out] at HDO
              go_upto_region 27 with (first
                | ((with_reducible (apply wp_load_scr hra)); rfl; rfl; rfl)
                | (go_at_call 11; refine HDO.out.mono ?_; rintro e w9 ⟨rfl, hsm9, X9, h9⟩; replace H := Lib.hid (And.intro (H.out.1.trans hsm9) h9); clear hsm9 h9 hra c6))
              have hA9 := H.out.2.alloc (.cells #[.string (strB r.text), .int .i64 r.n, .int .i64 r.e] TRes)
              replace H := Lib.hid (show Same w (w9.alloc (.cells #[.string (strB r.text), .int .i64 r.n, .int .i64 r.e] TRes)) ∧ Sat (w9.alloc (.cells #[.string (strB r.text), .int .i64 r.n, .int .i64 r.e] TRes)) (shelfAt SH ra S2 * (rshAt RS rb S2 * (pts w9.heap.size (.cells #[.string (strB r.text), .int .i64 r.n, .int .i64 r.e] TRes (0, 0)) * (pts B11 (.cells #[.string (strB r.text), .int .i64 r.n, .int .i64 r.e] TRes (0, 0)) * (shelfAt SH p S * (rshAt RS q S * plF B c (.slice (some ⟨b, off, none⟩) l.length cap) cp w (X9 * X))))))) from ⟨H.out.1.alloc _, hA9.perm (by unfold plF; ac_rfl)⟩)
              clear hA9 HDO
              generalize w9.alloc (.cells #[.string (strB r.text), .int .i64 r.n, .int .i64 r.e] TRes) = w10 at H ⊢
              generalize w9.heap.size = B12 at H ⊢
              have hn := fun w => neq_res r w
              obtain ⟨⟨x0, x1, x2⟩, -, -⟩ := res_cells H.out.2.right.right
              obtain ⟨⟨y0, y1, y2⟩, -, -⟩ := res_cells H.out.2.right.right.right
              go_wp2
              go_roundw
              case rel => exact ⟨⟨k + 1, S2, _, HO.out.2.2, by push_cast; rfl, HS2.out, H.out.1, (H.out.2.perm (show _ = shelfAt SH ra S2 * (rshAt RS rb S2 * (shelfAt SH p S * (rshAt RS q S * plF B c (.slice (some ⟨b, off, none⟩) l.length cap) cp w (pts B12 (.cells #[.string (strB r.text), .int .i64 r.n, .int .i64 r.e] TRes (0, 0)) * (pts B11 (.cells #[.string (strB r.text), .int .i64 r.n, .int .i64 r.e] TRes (0, 0)) * (X9 * X)))))) from by unfold plF; ac_rfl))⟩⟩
              case measure => have := HO.out.2.2; simp only [intOf]; omega
        case pos =>
          have hltd : decide ((k : Int) < (l.length : Int)) = true := decide_eq_true (by omega)
          have hkn : (k : Int) < (l.length : Int) := by omega
          have hk0 : (0 : Int) ≤ (k : Int) := by omega
          have hwk : IntKind.i64.wrap ((k : Int) + 1) = (k : Int) + 1 := IntWalk.i64_in _ (by omega)
          obtain ⟨o, ho⟩ : ∃ o, l[k]? = some o := ⟨_, List.getElem?_eq_getElem hlt⟩
          obtain ⟨ao', cap', hv, hcell⟩ := HSC.out wr (shelfAt SH p S * (rshAt RS q S * (shelfAt SH ra C * (rshAt RS rb C * pts B (.cells (plyA c (.slice ao l.length cap) cp) TPlay (0, 0)))))) X (H.out.2.perm (by unfold plF; ac_rfl))
          simp only [Value.slice.injEq, true_and] at hv
          obtain ⟨rfl, rfl⟩ := hv
          obtain ⟨b, off, rfl, hc⟩ := hcell (by rintro rfl; simp at hlt)
          have hwo := (hc k o ho).1
          have SCR := Lib.hid (show ∀ (w' : World) (P X : HProp), Sat w' (P * (X * old w)) → w'.rangeAt b (off + k * 11) (opN o.1 o.2).toList ∧ IntsC w' o.2 o.1.picks from fun w' P X h => by
            obtain ⟨ao2, cap2, hv2, hcell2⟩ := HSC.out w' P X h
            simp only [Value.slice.injEq, true_and] at hv2
            obtain ⟨rfl, rfl⟩ := hv2
            obtain ⟨b2, off2, hb2, hc2⟩ := hcell2 (by rintro rfl; simp at hlt)
            simp only [Option.some.injEq, Addr.mk.injEq, and_true] at hb2
            obtain ⟨rfl, rfl⟩ := hb2
            exact (hc2 k o ho).2)
          have HO := Lib.hid (And.intro ho (And.intro hwo hlt))
          clear hcell hc hwo ho hlt
          obtain ⟨⟨S2, r⟩, hZ⟩ : ∃ Z, doN S o.1 = Z := ⟨_, rfl⟩
          have HZ := Lib.hid hZ
          have HS2 := Lib.hid (show S2.cfg = c ∧ S2.images.length ≤ k + 1 from by
            have h1 := doN_cfg S o.1
            have h2 := doN_images S o.1
            rw [hZ] at h1 h2
            exact ⟨h1.trans HCI.out.1, by have := HCI.out.2.1; simp only at h2; omega⟩)
          clear hZ
          by_cases hcp : (k : Int) = cp
          case pos =>
            have hcpd : ((k : Int) == cp) = true := by simp [hcp]
            clear hcp
            go_upto_region 14 with (first
              | (go_at_call 8; refine (shclone_any p S _ wr H.out.2 (by have := HCI.out.2.1; omega)).mono ?_; rintro e w5 ⟨ra2, rfl, h5⟩; replace H := Lib.hid (show Same w w5 ∧ Sat w5 (rshAt RS q S * (shelfAt SH p S * (shelfAt SH ra2 S * plF B c (.slice (some ⟨b, off, none⟩) l.length cap) cp w (shelfAt SH ra C * (rshAt RS rb C * X))))) from ⟨H.out.1.trans h5.out.1, h5.out.2.perm (by unfold plF; ac_rfl)⟩); clear h5)
              | (go_at_call 9; refine (rshclone_any q S _ w5 H.out.2 (by have := HCI.out.2.1; omega)).mono ?_; rintro e w6 ⟨rb2, rfl, h6⟩; replace H := Lib.hid (show Same w w6 ∧ Sat w6 (shelfAt SH p S * (rshAt RS q S * (shelfAt SH ra2 S * (rshAt RS rb2 S * plF B c (.slice (some ⟨b, off, none⟩) l.length cap) cp w (shelfAt SH ra C * (rshAt RS rb C * X)))))) from ⟨H.out.1.trans h6.out.1, h6.out.2.perm (by ac_rfl)⟩); clear h6))
            clear c6 c7 hcpd
            obtain ⟨X2, hX2⟩ : ∃ X2, Hid (shelfAt SH ra C * (rshAt RS rb C * X) = X2) := ⟨_, Lib.hid rfl⟩
            rw [hX2.out] at H
            clear hX2
            obtain ⟨-, c6, -⟩ := plF_cells H.out.2.right.right.right.right
            have hra := (SCR.out w6 (shelfAt SH p S * (rshAt RS q S * (shelfAt SH ra2 S * (rshAt RS rb2 S * pts B (.cells (plyA c (.slice (some ⟨b, off, none⟩) l.length cap) cp) TPlay (0, 0)))))) X2 (H.out.2.perm (by unfold plF; ac_rfl))).1
            have HDO := Lib.hid (do_any p S _ o.1 o.2 w6 H.out.2 (fun w' h => (SCR.out w' (rshAt RS q S * (shelfAt SH ra2 S * (rshAt RS rb2 S * pts B (.cells (plyA c (.slice (some ⟨b, off, none⟩) l.length cap) cp) TPlay (0, 0))))) X2 (h.perm (by unfold plF; ac_rfl))).2) HO.out.2.1.picks (by have := HCI.out.2.1; omega) HO.out.2.1.n)
            unfold DoOut at HDO
            rw [HZ.out] at HDO
            go_upto_region 15 with (first
              | ((with_reducible (apply wp_load_scr hra)); rfl; rfl; rfl)
              | (go_at_call 10; refine HDO.out.mono ?_; rintro e w7 ⟨rfl, h7⟩; replace H := Lib.hid (And.intro (H.out.1.trans h7.1) h7.2); clear h7 hra c6))
            have hA7 := H.out.2.alloc (.cells #[.string (strB r.text), .int .i64 r.n, .int .i64 r.e] TRes)
            replace H := Lib.hid (show Same w (w7.alloc (.cells #[.string (strB r.text), .int .i64 r.n, .int .i64 r.e] TRes)) ∧ Sat (w7.alloc (.cells #[.string (strB r.text), .int .i64 r.n, .int .i64 r.e] TRes)) (rshAt RS q S * (pts w7.heap.size (.cells #[.string (strB r.text), .int .i64 r.n, .int .i64 r.e] TRes (0, 0)) * (shelfAt SH p S2 * (shelfAt SH ra2 S * (rshAt RS rb2 S * plF B c (.slice (some ⟨b, off, none⟩) l.length cap) cp w X2))))) from ⟨H.out.1.alloc _, hA7.perm (by ac_rfl)⟩)
            clear hA7 HDO
            generalize w7.alloc (.cells #[.string (strB r.text), .int .i64 r.n, .int .i64 r.e] TRes) = w8 at H ⊢
            generalize w7.heap.size = B11 at H ⊢
            obtain ⟨-, c6, -⟩ := plF_cells H.out.2.right.right.right.right.right
            have hra := (SCR.out w8 (rshAt RS q S * (pts B11 (.cells #[.string (strB r.text), .int .i64 r.n, .int .i64 r.e] TRes (0, 0)) * (shelfAt SH p S2 * (shelfAt SH ra2 S * (rshAt RS rb2 S * pts B (.cells (plyA c (.slice (some ⟨b, off, none⟩) l.length cap) cp) TPlay (0, 0))))))) X2 (H.out.2.perm (by unfold plF; ac_rfl))).1
            have HDO := Lib.hid (rdo17_any q S _ o.1 o.2 w8 H.out.2 (fun w' h => (SCR.out w' (pts B11 (.cells #[.string (strB r.text), .int .i64 r.n, .int .i64 r.e] TRes (0, 0)) * (shelfAt SH p S2 * (shelfAt SH ra2 S * (rshAt RS rb2 S * pts B (.cells (plyA c (.slice (some ⟨b, off, none⟩) l.length cap) cp) TPlay (0, 0)))))) X2 (h.perm (by unfold plF; ac_rfl))).2) HO.out.2.1.picks (by have := HCI.out.2.1; omega) HO.out.2.1.n)
            unfold RDoOut at HDO
            rw [HZ.out] at HDO
            go_upto_region 16 with (first
              | ((with_reducible (apply wp_load_scr hra)); rfl; rfl; rfl)
              | (go_at_call 11; refine HDO.out.mono ?_; rintro e w9 ⟨rfl, hsm9, X9, h9⟩; replace H := Lib.hid (And.intro (H.out.1.trans hsm9) h9); clear hsm9 h9 hra c6))
            have hA9 := H.out.2.alloc (.cells #[.string (strB r.text), .int .i64 r.n, .int .i64 r.e] TRes)
            replace H := Lib.hid (show Same w (w9.alloc (.cells #[.string (strB r.text), .int .i64 r.n, .int .i64 r.e] TRes)) ∧ Sat (w9.alloc (.cells #[.string (strB r.text), .int .i64 r.n, .int .i64 r.e] TRes)) (shelfAt SH p S2 * (rshAt RS q S2 * (pts w9.heap.size (.cells #[.string (strB r.text), .int .i64 r.n, .int .i64 r.e] TRes (0, 0)) * (pts B11 (.cells #[.string (strB r.text), .int .i64 r.n, .int .i64 r.e] TRes (0, 0)) * (shelfAt SH ra2 S * (rshAt RS rb2 S * plF B c (.slice (some ⟨b, off, none⟩) l.length cap) cp w (X9 * X2))))))) from ⟨H.out.1.alloc _, hA9.perm (by unfold plF; ac_rfl)⟩)
            clear hA9 HDO
            generalize w9.alloc (.cells #[.string (strB r.text), .int .i64 r.n, .int .i64 r.e] TRes) = w10 at H ⊢
            generalize w9.heap.size = B12 at H ⊢
            go_upto_region 17 with (go_at_call 12; refine (alike_any p q S2 _ w10 H.out.2 (by rw [HS2.out.1]; exact HSM.out.2.1) (by rw [HS2.out.1]; exact HSM.out.2.2)).mono ?_; rintro e w11 ⟨rfl, h11⟩; replace H := Lib.hid (And.intro (H.out.1.trans h11.out.1) h11.out.2); clear h11)
            have hn := fun w => neq_res r w
            obtain ⟨⟨x0, x1, x2⟩, -, -⟩ := res_cells H.out.2.right.right
            obtain ⟨⟨y0, y1, y2⟩, -, -⟩ := res_cells H.out.2.right.right.right
            go_wp2
            go_roundw
            case rel => exact ⟨⟨k + 1, ra2, rb2, S2, S, _, HO.out.2.2, by push_cast; rfl, rfl, rfl, ⟨HS2.out.1, HS2.out.2, HCI.out.1, by have := HCI.out.2.1; omega⟩, H.out.1, (H.out.2.perm (show _ = shelfAt SH p S2 * (rshAt RS q S2 * (shelfAt SH ra2 S * (rshAt RS rb2 S * plF B c (.slice (some ⟨b, off, none⟩) l.length cap) cp w (pts B12 (.cells #[.string (strB r.text), .int .i64 r.n, .int .i64 r.e] TRes (0, 0)) * (pts B11 (.cells #[.string (strB r.text), .int .i64 r.n, .int .i64 r.e] TRes (0, 0)) * (X9 * X2)))))) from by unfold plF; ac_rfl))⟩⟩
            case measure => have := HO.out.2.2; simp only [intOf]; omega
          case neg =>
            have hcpd : ((k : Int) == cp) = false := by simp [hcp]
            clear hcp
            go_upto_region 14 with (fail)
            clear c6 c7 hcpd
            obtain ⟨-, c6, -⟩ := plF_cells H.out.2.right.right.right.right
            have hra := (SCR.out wr (shelfAt SH p S * (rshAt RS q S * (shelfAt SH ra C * (rshAt RS rb C * pts B (.cells (plyA c (.slice (some ⟨b, off, none⟩) l.length cap) cp) TPlay (0, 0)))))) X (H.out.2.perm (by unfold plF; ac_rfl))).1
            have HDO := Lib.hid (do_any p S _ o.1 o.2 wr H.out.2 (fun w' h => (SCR.out w' (rshAt RS q S * (shelfAt SH ra C * (rshAt RS rb C * pts B (.cells (plyA c (.slice (some ⟨b, off, none⟩) l.length cap) cp) TPlay (0, 0))))) X (h.perm (by unfold plF; ac_rfl))).2) HO.out.2.1.picks (by have := HCI.out.2.1; omega) HO.out.2.1.n)
            unfold DoOut at HDO
            rw [HZ.out] at HDO
            go_upto_region 15 with (first
              | ((with_reducible (apply wp_load_scr hra)); rfl; rfl; rfl)
              | (go_at_call 10; refine HDO.out.mono ?_; rintro e w7 ⟨rfl, h7⟩; replace H := Lib.hid (And.intro (H.out.1.trans h7.1) h7.2); clear h7 hra c6))
            have hA7 := H.out.2.alloc (.cells #[.string (strB r.text), .int .i64 r.n, .int .i64 r.e] TRes)
            replace H := Lib.hid (show Same w (w7.alloc (.cells #[.string (strB r.text), .int .i64 r.n, .int .i64 r.e] TRes)) ∧ Sat (w7.alloc (.cells #[.string (strB r.text), .int .i64 r.n, .int .i64 r.e] TRes)) (rshAt RS q S * (pts w7.heap.size (.cells #[.string (strB r.text), .int .i64 r.n, .int .i64 r.e] TRes (0, 0)) * (shelfAt SH p S2 * (shelfAt SH ra C * (rshAt RS rb C * plF B c (.slice (some ⟨b, off, none⟩) l.length cap) cp w X))))) from ⟨H.out.1.alloc _, hA7.perm (by ac_rfl)⟩)
            clear hA7 HDO
            generalize w7.alloc (.cells #[.string (strB r.text), .int .i64 r.n, .int .i64 r.e] TRes) = w8 at H ⊢
            generalize w7.heap.size = B11 at H ⊢
            obtain ⟨-, c6, -⟩ := plF_cells H.out.2.right.right.right.right.right
            have hra := (SCR.out w8 (rshAt RS q S * (pts B11 (.cells #[.string (strB r.text), .int .i64 r.n, .int .i64 r.e] TRes (0, 0)) * (shelfAt SH p S2 * (shelfAt SH ra C * (rshAt RS rb C * pts B (.cells (plyA c (.slice (some ⟨b, off, none⟩) l.length cap) cp) TPlay (0, 0))))))) X (H.out.2.perm (by unfold plF; ac_rfl))).1
            have HDO := Lib.hid (rdo17_any q S _ o.1 o.2 w8 H.out.2 (fun w' h => (SCR.out w' (pts B11 (.cells #[.string (strB r.text), .int .i64 r.n, .int .i64 r.e] TRes (0, 0)) * (shelfAt SH p S2 * (shelfAt SH ra C * (rshAt RS rb C * pts B (.cells (plyA c (.slice (some ⟨b, off, none⟩) l.length cap) cp) TPlay (0, 0)))))) X (h.perm (by unfold plF; ac_rfl))).2) HO.out.2.1.picks (by have := HCI.out.2.1; omega) HO.out.2.1.n)
            unfold RDoOut at HDO
            rw [HZ.out] at HDO
            go_upto_region 16 with (first
              | ((with_reducible (apply wp_load_scr hra)); rfl; rfl; rfl)
              | (go_at_call 11; refine HDO.out.mono ?_; rintro e w9 ⟨rfl, hsm9, X9, h9⟩; replace H := Lib.hid (And.intro (H.out.1.trans hsm9) h9); clear hsm9 h9 hra c6))
            have hA9 := H.out.2.alloc (.cells #[.string (strB r.text), .int .i64 r.n, .int .i64 r.e] TRes)
            replace H := Lib.hid (show Same w (w9.alloc (.cells #[.string (strB r.text), .int .i64 r.n, .int .i64 r.e] TRes)) ∧ Sat (w9.alloc (.cells #[.string (strB r.text), .int .i64 r.n, .int .i64 r.e] TRes)) (shelfAt SH p S2 * (rshAt RS q S2 * (pts w9.heap.size (.cells #[.string (strB r.text), .int .i64 r.n, .int .i64 r.e] TRes (0, 0)) * (pts B11 (.cells #[.string (strB r.text), .int .i64 r.n, .int .i64 r.e] TRes (0, 0)) * (shelfAt SH ra C * (rshAt RS rb C * plF B c (.slice (some ⟨b, off, none⟩) l.length cap) cp w (X9 * X))))))) from ⟨H.out.1.alloc _, hA9.perm (by unfold plF; ac_rfl)⟩)
            clear hA9 HDO
            generalize w9.alloc (.cells #[.string (strB r.text), .int .i64 r.n, .int .i64 r.e] TRes) = w10 at H ⊢
            generalize w9.heap.size = B12 at H ⊢
            go_upto_region 17 with (go_at_call 12; refine (alike_any p q S2 _ w10 H.out.2 (by rw [HS2.out.1]; exact HSM.out.2.1) (by rw [HS2.out.1]; exact HSM.out.2.2)).mono ?_; rintro e w11 ⟨rfl, h11⟩; replace H := Lib.hid (And.intro (H.out.1.trans h11.out.1) h11.out.2); clear h11)
            have hn := fun w => neq_res r w
            obtain ⟨⟨x0, x1, x2⟩, -, -⟩ := res_cells H.out.2.right.right
            obtain ⟨⟨y0, y1, y2⟩, -, -⟩ := res_cells H.out.2.right.right.right
            go_wp2
            go_roundw
            case rel => exact ⟨⟨k + 1, ra, rb, S2, C, _, HO.out.2.2, by push_cast; rfl, rfl, rfl, ⟨HS2.out.1, HS2.out.2, HCI.out.2.2.1, HCI.out.2.2.2⟩, H.out.1, (H.out.2.perm (show _ = shelfAt SH p S2 * (rshAt RS q S2 * (shelfAt SH ra C * (rshAt RS rb C * plF B c (.slice (some ⟨b, off, none⟩) l.length cap) cp w (pts B12 (.cells #[.string (strB r.text), .int .i64 r.n, .int .i64 r.e] TRes (0, 0)) * (pts B11 (.cells #[.string (strB r.text), .int .i64 r.n, .int .i64 r.e] TRes (0, 0)) * (X9 * X)))))) from by unfold plF; ac_rfl))⟩⟩
            case measure => have := HO.out.2.2; simp only [intOf]; omega
end Go.Proofs.YtogmkbhbmmgidaaGreat
end
section
/- ShelfPlays: the row. Printed by row17.py. -/
namespace Go.Proofs.YtogmkbhbmmgidaaGreat
open Go.RowKit Go.Sl Go.ChangeMaps Go.ChangeShapes Go.WideShapes Go.ChangeAt
set_option maxRecDepth 100000 in
theorem shelfPlays_lifted (os : Os) (started : os.Started) (H : Type) (enc : TypeId × Value → H) :
    ReturnsInHanded {} Tryz.checked os 3 .any (Rows.shelfPlaysSpec.pre6 enc Tryz.prog Tryz.f3 Rows.shelfPlaysRow.domain false) (Rows.shelfPlaysSpec.post enc Tryz.prog Tryz.f3 false true false false) := by
  refine returnsInHanded_of_change (C := Tryz.checked) law_own started (by kernel_rfl) Tryz.func3
    (ChangeSpec.witness6 (enc := enc) (C := Tryz.checked) false ⟨#[], #[.agg (plyA ⟨0, 0, 0, 0, 0, 0⟩ (.slice none 0 0) 0)], []⟩ 8 (by kernel_rfl) (by kernel_rfl) (by kernel_rfl) (by kernel_rfl)) ?_
  intro W base args ds gs before hval0 hW _ _
  have hval : ∀ (j : Nat) t v, Tryz.f3.params[j]? = some t → args[j]? = some v → Value.okWide Tryz.prog W .any base t v := hval0
  have hW' := hW
  obtain ⟨p, q, hA0, hV, rfl, _, _⟩ := hW
  have hA : DataW.TrodAll enc Tryz.prog W 0 (fun _ => true) true Tryz.f3.params.toList args.toList ds p := hA0
  rw [Tryz.params3] at hA hval
  obtain ⟨w0, vs0, d0, ds0, p0, q0, hargs, rfl, rfl, h0, r0⟩ := trodAll_cons hA
  obtain ⟨rfl, rfl, rfl⟩ := trodAll_nil r0
  obtain rfl : args = #[w0] := by cases args; simp_all
  obtain ⟨rfl, rfl⟩ := trodVars_none hV
  obtain ⟨cs0, rfl, _⟩ := okWide_struct Tryz.underlying26 (hval 0 _ w0 rfl rfl)
  obtain ⟨c, v, l, cp, e0, hscr, hcp⟩ := rd_play (trod_rd h0)
  obtain rfl : cs0 = plyA c v cp := by apply Array.ext'; simpa [Value.cells] using e0
  refine (plays_any c v l cp W hscr).mono fun e W' ⟨he, hg⟩ => ?_
  subst he
  exact ⟨_, rfl, law_post (by kernel_rfl) rfl (of_decide_eq_true (by kernel_rfl)) rfl hW' hg⟩
theorem shelfPlays_holds : Rows.ShelfPlaysSaid :=
  OpenClaim.holds_of_wide 3 Tryz.f3 rfl rfl rfl rfl rfl rfl rfl ⟨rfl, rfl, rfl, rfl, rfl⟩ rfl rfl rfl rfl rfl (by kernel_rfl) Tryz.func3 (by kernel_rfl)
    (of_decide_eq_true (by kernel_rfl)) (by unfold Func.isWrapper; first | (rw [if_pos (by decide +kernel)]; kernel_rfl) | (rw [if_neg (by decide +kernel)]; exact ⟨rfl, rfl⟩))
    (fun os started H enc _ => shelfPlays_lifted os started H enc)
end Go.Proofs.YtogmkbhbmmgidaaGreat
end
