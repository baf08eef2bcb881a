import Derived.Test.YteikbikopgabjaaGreatDoorM45
import Derived.Test.YteikbikopgabjaaGreatDoorM50
/- LossMatchMatchesSpec, as a tied card: whatever the input, the law answers true and leaves its arguments alone; the tables that it reads are what the program's text lays (tied; over a pruned copy of the project). -/
section
namespace Go.Proofs.YteikbikopgabjaaGreatDoor
open Go.RowKit Go.Sha Go.Sl Go.GF Go.Vol Go.Loss
def anyU (W : List UInt8) (u : List UInt8) : Bool := W.any fun f => sameD (unitL f) u
theorem anyU_succ {W : List UInt8} {u : List UInt8} {f : UInt8} {k : Nat} (h : W[k]? = some f) : anyU (W.take (k + 1)) u = (anyU (W.take k) u || sameD (unitL f) u) := by
  unfold anyU
  rw [List.take_add_one, h, List.any_append]
  simp
theorem anyU_add (W : List UInt8) (x : ChM) (u : List UInt8) : anyU (addW W x) u = (anyU W u || (x.lost && sameD (unitL x.fill) u)) := by
  unfold addW
  split
  · rename_i h
    unfold anyU
    rw [List.any_append, h.1]
    simp
  · rename_i h
    cases hx : x.lost with
    | false => simp
    | true =>
      have h2 : (W.any fun f => sameD (unitL f) (unitL x.fill)) = true := by
        cases hq : (W.any fun f => sameD (unitL f) (unitL x.fill)) with
        | true => rfl
        | false => exact absurd ⟨hx, hq⟩ h
      cases hs : sameD (unitL x.fill) u with
      | false => simp
      | true =>
        obtain ⟨f, hf, hfx⟩ := List.any_eq_true.1 h2
        have : anyU W u = true := List.any_eq_true.2 ⟨f, hf, sameD_iff.2 ((sameD_iff.1 hfx).trans (sameD_iff.1 hs))⟩
        rw [this]; rfl
theorem anyU_wait (L : List ChM) (u : List UInt8) : anyU (waitL L) u = decide (0 < (lostL L u).length) := by
  have key : ∀ k, k ≤ L.length → anyU (waitL (L.take k)) u = decide (0 < (lostL (L.take k) u).length) := by
    intro k
    induction k with
    | zero => intro _; rw [List.take_zero]; unfold waitL lostL anyU; simp
    | succ k ih =>
      intro hk
      have hx := List.getElem?_eq_getElem (l := L) (i := k) (by omega)
      rw [waitL_succ hx, anyU_add, ih (by omega), lostL_succ L u hx, List.length_append]
      cases h : (L[k].lost && sameD (unitL L[k].fill) u) with
      | true => simp
      | false => simp
  have := key L.length (Nat.le_refl _)
  rwa [List.take_length] at this
theorem match_wait (L : List ChM) (u : List UInt8) : (decide (u.length = 32) && anyU (waitL L) u) = decide (0 < (matchP L u).length) := by
  unfold matchP
  by_cases h : u.length = 32
  · rw [if_pos h, anyU_wait, decide_eq_true h, Bool.true_and]
  · rw [if_neg h, decide_eq_false h, Bool.false_and]; rfl
structure WmS (w : World) (W : List UInt8) (u : List UInt8) (wt i : Value) (wr : World) : Prop where
  st : ∃ (k : Nat) (bt : Bool), k ≤ W.length ∧ i = .int .i64 (k : Int) ∧ wt = .bool bt ∧ bt = (decide (u.length = 32) && anyU (W.take k) u) ∧ Below w.heap.size w wr
set_option maxRecDepth 20000 in
set_option maxHeartbeats 4000000 in
theorem matchlaw_any (va vb vi : Value) (A B : List ElC) (l : List ItM) (w : World) (hA : CntL w va A) (hB : CntL w vb B) (hca : CapOk va) (hcb : CapOk vb) (hI : ItL w vi l) (hK : TabK w) (hT : TabF w) (hD : TabD w) (hS : TabS w) (s : ByteArray) (hs : s.size ≤ maxLen) :
    Calls Tryz.prog 7 #[.agg #[va, vb, vi], .string s] w fun e w' => e = .returned (.bool true) ∧ Below w.heap.size w w' := by
  obtain ⟨u, rfl⟩ : ∃ u : List UInt8, s = strL u := ⟨s.data.toList, rfl⟩
  have hsz := strL_size u
  rw [hsz] at hs
  have HSA := Lib.hid (fun W (hb : Below w.heap.size w W) => sanity41_any W (hK.below hb) (hT.below hb))
  have HBD := Lib.hid (fun W (hb : Below w.heap.size w W) => build_any41 va vb vi A B l W (hA.below hb) (hB.below hb) (hI.below hb) (hK.below hb))
  have HB1 := Lib.hid (al_below w (.cells #[va, vb, vi] TIn41))
  have HX1 := Lib.hid (inBox_alloc w va vb vi)
  have HI := Lib.hid (fun W (h : Below w.heap.size w W) => RowsO.below hI h)
  have HTD := Lib.hid (fun W (h : Below w.heap.size w W) => And.intro (hD.below h) (hS.below h))
  have HDU := Lib.hid (fun (h : u.length = 32) W (hb : Below w.heap.size w W) => digest_any u h W (hK.below hb))
  have HRM := Lib.hid (fun (h : u.length ≤ 1000) (hn : l.length ≤ 40) W (hb : Below w.heap.size w W) => rmatch_any vi l u W (RowsO.below hI hb) hn h (hK.below hb))
  have HMA := Lib.hid (fun p b cp rb (h : u.length ≤ 1000) W hT h1 h2 => match_any p b cp rb (chunksM l) u h W hT h1 h2)
  generalize hss : strL u = ss at *
  obtain ⟨ao, ac, rfl, -⟩ := id hA.row
  obtain ⟨bo, bc, rfl, -⟩ := id hB.row
  obtain ⟨io, ic, rfl, -⟩ := id hI
  clear hA hB hI hK hT hca hcb hD hS hss
  go_enter Tryz.func7, Tryz.ntmps7
  go_upto_region 1 with (fail)
  generalize w.alloc (.cells #[.slice ao A.length ac, .slice bo B.length bc, .slice io l.length ic] TIn41) = w1 at HB1 HX1 ⊢
  obtain ⟨g, hgq⟩ : ∃ g, g = w.heap.size := ⟨_, rfl⟩
  rw [← hgq] at HX1 ⊢
  have HGQ := Lib.hid hgq
  clear hgq
  go_upto_region 3 with (first
    | (go_at_call 9; refine (HSA.out w1 HB1.out).mono ?_; rintro e w2 ⟨rfl, h2⟩; have HW2 := Lib.hid (And.intro (HB1.out.trans (h2.mono HB1.out.size)) (HX1.out.below h2)); clear h2; have a0 := HW2.out.2.c0; have a1 := HW2.out.2.c1; have a2 := HW2.out.2.c2)
    | (go_at_call 10; refine (HBD.out w2 HW2.out.1).mono ?_; rintro e w3 h3; rcases h3.out with ⟨hgood, q, p, rfl, hbt⟩ | ⟨hng, rfl, h4⟩))
  rotate_left
  · have HB3 := Lib.hid (HW2.out.1.trans (h4.mono HW2.out.1.size))
    clear h3 h4 a0 a1 a2
    go_wp2
    go_ret
    exact ⟨rfl, HB3.out⟩
  obtain ⟨b, cp, rb, hsp, htr, hb3⟩ := built_read hbt hgood.1.2.2.1
  have HB3 := Lib.hid (show Below w.heap.size w w3 from HW2.out.1.trans (hb3.mono HW2.out.1.size))
  have HX3 := Lib.hid (HW2.out.2.below hb3)
  have HSP := Lib.hid (fun W (h : Below w3.heap.size w3 W) => hsp.below h)
  have HTR := Lib.hid (fun W (h : Below w3.heap.size w3 W) => htr.below h)
  have HGP := Lib.hid hgood
  have HWF := Lib.hid (spaceC_wf hgood.2)
  have HSM := Lib.hid (small_space hgood)
  have HS63 := Lib.hid hs
  clear h3 hgood hbt hsp htr hb3 a0 a1 a2 HW2 HB1 HX1 HSA HBD hs
  by_cases h100 : 100 < u.length
  · have hgt : decide ((u.length : Int) > 100) = true := decide_eq_true (by omega)
    clear h100
    go_wp2
    go_ret
    exact ⟨rfl, HB3.out⟩
  have hu : u.length ≤ 1000 := by omega
  have hgt : decide ((u.length : Int) > 100) = false := decide_eq_false (by omega)
  have HT3 := Lib.hid (HTD.out w3 HB3.out)
  have HMC := Lib.hid (HMA.out p b cp rb hu w3 (HTR.out w3 (Below.refl _ _)) HT3.out.1 HT3.out.2)
  have HRC := Lib.hid (HRM.out hu HGP.out.1.2.2.1)
  have HWC := Lib.hid (fun W (h : Below w3.heap.size w3 W) => waiting_any p b cp rb (chunksM l) W (HTR.out W h))
  have HMW := Lib.hid (match_wait (chunksM l) u)
  have HW40 := Lib.hid (show (waitL (chunksM l)).length ≤ 40 from Nat.le_trans (waitL_len _) (by rw [chunksM_len]; exact HGP.out.1.2.2.1))
  have HM40 := Lib.hid (show (matchP (chunksM l) u).length ≤ 40 from Nat.le_trans (matchP_len _ u) (by rw [chunksM_len]; exact HGP.out.1.2.2.1))
  clear h100 hu HTD HRM HMA HSP HTR HWF HSM HGP HT3
  obtain ⟨Lw, hLw⟩ : ∃ Lw, Lw = waitL (chunksM l) := ⟨_, rfl⟩
  rw [← hLw] at HWC HMW HW40
  obtain ⟨Lm, hLm⟩ : ∃ Lm, Lm = matchP (chunksM l) u := ⟨_, rfl⟩
  rw [← hLm] at HMC HMW HRC HM40
  clear hLw hLm
  obtain ⟨td, htd, htds⟩ := Option.map_eq_some_iff.1 (show (Tryz.prog.info? TD).map (·.size) = some 16 from by kernel_rfl)
  go_upto_region 9 with (first
    | (go_at_call 26; refine HMC.out.mono ?_; rintro e w4 ⟨v9, rfl, h4, h5⟩; have HB4 := Lib.hid (h4.below_of h5); have HM4 := Lib.hid (own_ints rfl h5); obtain ⟨mO, mC, rfl⟩ := ownAt_slice h5; clear h4 h5)
    | (go_at_call 18; refine (HWC.out w4 HB4.out).mono ?_; rintro e w5 ⟨v10, rfl, h4, h5⟩; have HB5 := Lib.hid (HB4.out.trans ((h4.below_of h5).mono HB4.out.size)); unfold ownD at h5; have HW5 := Lib.hid (own_rows h5); obtain ⟨sO, sC, rfl⟩ := ownAt_slice h5; have HM5 := Lib.hid (IntsAt.below HM4.out (h4.below_of h5)); clear h4 h5))
  have H0 := Lib.hid (show WmS w5 Lw u (.bool false) (.int .i64 0) w5 from ⟨0, false, Nat.zero_le _, rfl, rfl, by unfold anyU; simp, Below.refl _ _⟩)
  clear HM4 HB4 HMC HWC
  go_loopw [11, 12] (fun wt i wr => WmS w5 Lw u wt i wr) (fun _ i _ => Lw.length - (intOf i).toNat)
  case atStart => exact H0.out
  case round =>
    clear H0
    obtain ⟨k, bt, hk, rfl, rfl, hbt, hb⟩ := hrel.st
    clear hrel
    have hk40 : (k : Int) ≤ 40 := by have := HW40.out; omega
    have HBT := Lib.hid hbt
    have HBW := Lib.hid hb
    clear hbt hb
    by_cases hin : k < Lw.length
    · have hid : decide ((k : Int) < (Lw.length : Int)) = true := decide_eq_true (by omega)
      have hwk : IntKind.i64.wrap ((k : Int) + 1) = (k : Int) + 1 := IntWalk.i64_in _ (by omega)
      obtain ⟨f, hf⟩ : ∃ f, Lw[k]? = some f := ⟨_, List.getElem?_eq_getElem hin⟩
      have HAS := Lib.hid (anyU_succ (u := u) hf)
      obtain ⟨gv, ov, rfl, hg0, hrg⟩ := rows_at dgE_len (HW5.out.below HBW.out) hf
      have HR := Lib.hid (And.intro hg0 hrg)
      clear hg0 hrg hf
      cases bt with
      | true =>
        have HE := Lib.hid (show WmS w5 Lw u (.bool true) (.int .i64 ((k : Int) + 1)) wr.drew from ⟨k + 1, true, hin, by push_cast; rfl, rfl, by
          have h := HBT.out
          rw [HAS.out]
          cases h32 : decide (u.length = 32) with
          | false => rw [h32] at h; cases h
          | true => rw [h32, Bool.true_and] at h; rw [← h]; rfl, HBW.out.drew⟩)
        go_upto_region 11 with (fail)
        have hS0 : wr.drew = wr.drew := rfl
        refine reg_begin (fun w' => w' = wr.drew) (by kernel_rfl) ?_
        (apply reg_take 0 rfl rfl (by decide +kernel) rfl); (rintro w' rfl; go_simp; rfl); exact hS0; simp only [zq1, zq2, zq3]
        (apply reg_take 1 rfl rfl (by decide +kernel) rfl); (rintro w' rfl; go_simp; rfl); exact hS0; simp only [zq1, zq2, zq3]
        (apply reg_skip 2 rfl rfl (by decide +kernel) rfl); exact hS0; simp only [zq1, zq2, zq3]
        (apply reg_skip 3 rfl rfl (by decide +kernel) rfl); exact hS0; simp only [zq1, zq2, zq3]
        (apply reg_skip 4 rfl rfl (by decide +kernel) rfl); exact hS0; simp only [zq1, zq2, zq3]
        (apply reg_skip 5 rfl rfl (by decide +kernel) rfl); exact hS0; simp only [zq1, zq2, zq3]
        (apply reg_skip 6 rfl rfl (by decide +kernel) rfl); exact hS0; simp only [zq1, zq2, zq3]
        (apply reg_skip 7 rfl rfl (by decide +kernel) rfl); exact hS0; simp only [zq1, zq2, zq3]
        (apply reg_skip 8 rfl rfl (by decide +kernel) rfl); exact hS0; simp only [zq1, zq2, zq3]
        (apply reg_skip 9 rfl rfl (by decide +kernel) rfl); exact hS0; simp only [zq1, zq2, zq3]
        (apply reg_skip 10 rfl rfl (by decide +kernel) rfl); exact hS0; simp only [zq1, zq2, zq3]
        (apply reg_skip 11 rfl rfl (by decide +kernel) rfl); exact hS0; simp only [zq1, zq2, zq3]
        (apply reg_skip 12 rfl rfl (by decide +kernel) rfl); exact hS0; simp only [zq1, zq2, zq3]
        (apply reg_skip 13 rfl rfl (by decide +kernel) rfl); exact hS0; simp only [zq1, zq2, zq3]
        (apply reg_take 14 rfl rfl (by decide +kernel) rfl); (rintro w' rfl; go_simp; rfl); exact hS0; simp only [zq1, zq2, zq3]
        (apply reg_take 15 rfl rfl (by decide +kernel) rfl); (rintro w' rfl; go_simp; rfl); exact hS0; simp only [zq1, zq2, zq3]
        refine reg_done (by decide +kernel) ?_
        go_wp2
        go_roundw
        case rel => exact HE.out
        case measure => simp only [intOf]; omega
      | false =>
        by_cases h32 : u.length = 32
        · have hne : ((u.length : Int) == 32) = true := by simp [h32]
          have HDC := Lib.hid (HDU.out h32)
          have HBA := Lib.hid (show anyU (Lw.take k) u = false by have h := HBT.out; rw [decide_eq_true h32, Bool.true_and] at h; exact h.symm)
          have H32 := Lib.hid h32
          clear h32
          go_upto_region 11 with (fail)
          have hS0 : Below wr.heap.size wr wr.drew := (Below.refl _ _).drew
          refine reg_begin (fun w' => Below wr.heap.size wr w') (by kernel_rfl) ?_
          (apply reg_take 0 rfl rfl (by decide +kernel) rfl); (rintro w' h1; go_simp; rfl); exact hS0; simp only [zq1, zq2, zq3]
          (apply reg_take 1 rfl rfl (by decide +kernel) rfl); (rintro w' h1; go_simp; rfl); exact hS0; simp only [zq1, zq2, zq3]
          (apply reg_take 2 rfl rfl (by decide +kernel) rfl); (rintro w' h1; go_simp; rfl); exact hS0; simp only [zq1, zq2, zq3]
          (apply reg_take 3 rfl rfl (by decide +kernel) rfl); (rintro w' h1; go_simp; rfl); exact hS0; simp only [zq1, zq2, zq3]
          (apply reg_take 4 rfl rfl (by decide +kernel) rfl); (rintro w' h1; go_simp; rfl); exact hS0; simp only [zq1, zq2, zq3]
          (apply reg_take 5 rfl rfl (by decide +kernel) rfl); (rintro w' h1; go_simp; rfl); exact hS0; simp only [zq1, zq2, zq3]
          (apply reg_take 6 rfl rfl (by decide +kernel) rfl); (rintro w' h1; go_simp; rfl); exact hS0; simp only [zq1, zq2, zq3]
          (apply reg_take 7 rfl rfl (by decide +kernel) rfl); (rintro w' h1; go_simp; rfl); exact hS0; simp only [zq1, zq2, zq3]
          refine reg_take 8 (v := .pointer (some ⟨gv, ov + k * 16, none⟩)) rfl rfl (by decide +kernel) rfl (fun _ _ => exec_index_slice rfl rfl rfl Tryz.underlying40 htd htds hin) hS0 ?_; simp only [zq1, zq2, zq3]
          refine reg_take 9 (v := .agg (digM (unitL f))) rfl rfl (by decide +kernel) rfl (fun w' h => exec_load_mid rfl rfl (load_dig fun j v hv => (h.cell (p := ⟨gv, ov + k * 16 + j, none⟩) HR.out.1).trans (HR.out.2 j v hv))) hS0 ?_; simp only [zq1, zq2, zq3]
          (apply reg_take 10 rfl rfl (by decide +kernel) rfl); (rintro w' h1; go_simp; rfl); exact hS0; simp only [zq1, zq2, zq3]
          refine reg_call 11 rfl rfl (by decide +kernel) rfl (R := fun v w' => v = .agg (digM u) ∧ Below wr.heap.size wr w') (by kernel_rfl) ((HDC.out wr.drew (HB3.out.trans ((HB5.out.trans ((HBW.out.trans (hS0.mono HBW.out.size)).mono HB5.out.size)).mono HB3.out.size))).mono fun e w' h => ⟨.agg (digM u), h.1, And.intro rfl (hS0.trans (h.2.mono hS0.size))⟩) ?_
          rintro v6 w6 ⟨rfl, h6⟩
          simp only [zq1, zq2, zq3]
          refine ⟨h6, ?_⟩
          refine reg_take 12 (v := .bool (sameD (unitL f) u)) rfl rfl (by decide +kernel) rfl (fun w' _ => exec_eqD rfl rfl rfl) h6 ?_; simp only [zq1, zq2, zq3]
          (apply reg_take 13 rfl rfl (by decide +kernel) rfl); (rintro w' h1; go_simp; rfl); exact h6; simp only [zq1, zq2, zq3]
          (apply reg_take 14 rfl rfl (by decide +kernel) rfl); (rintro w' h1; go_simp; rfl); exact h6; simp only [zq1, zq2, zq3]
          (apply reg_take 15 rfl rfl (by decide +kernel) rfl); (rintro w' h1; go_simp; rfl); exact h6; simp only [zq1, zq2, zq3]
          refine reg_done (by decide +kernel) ?_
          have HE := Lib.hid (show WmS w5 Lw u (.bool (sameD (unitL f) u)) (.int .i64 ((k : Int) + 1)) w6 from ⟨k + 1, _, hin, by push_cast; rfl, rfl, by
            rw [HAS.out, HBA.out, decide_eq_true H32.out, Bool.false_or, Bool.true_and], HBW.out.trans (h6.mono HBW.out.size)⟩)
          clear h6
          go_wp2
          go_roundw
          case rel => exact HE.out
          case measure => simp only [intOf]; omega
        · have hne : ((u.length : Int) == 32) = false := by simp; omega
          have HE := Lib.hid (show WmS w5 Lw u (.bool false) (.int .i64 ((k : Int) + 1)) wr.drew from ⟨k + 1, false, hin, by push_cast; rfl, rfl, by
            rw [decide_eq_false h32]; rfl, HBW.out.drew⟩)
          clear h32
          go_upto_region 11 with (fail)
          have hS0 : wr.drew = wr.drew := rfl
          refine reg_begin (fun w' => w' = wr.drew) (by kernel_rfl) ?_
          (apply reg_take 0 rfl rfl (by decide +kernel) rfl); (rintro w' rfl; go_simp; rfl); exact hS0; simp only [zq1, zq2, zq3]
          (apply reg_take 1 rfl rfl (by decide +kernel) rfl); (rintro w' rfl; go_simp; rfl); exact hS0; simp only [zq1, zq2, zq3]
          (apply reg_take 2 rfl rfl (by decide +kernel) rfl); (rintro w' rfl; go_simp; rfl); exact hS0; simp only [zq1, zq2, zq3]
          (apply reg_take 3 rfl rfl (by decide +kernel) rfl); (rintro w' rfl; go_simp; rfl); exact hS0; simp only [zq1, zq2, zq3]
          (apply reg_take 4 rfl rfl (by decide +kernel) rfl); (rintro w' rfl; go_simp; rfl); exact hS0; simp only [zq1, zq2, zq3]
          (apply reg_take 5 rfl rfl (by decide +kernel) rfl); (rintro w' rfl; go_simp; rfl); exact hS0; simp only [zq1, zq2, zq3]
          (apply reg_skip 6 rfl rfl (by decide +kernel) rfl); exact hS0; simp only [zq1, zq2, zq3]
          (apply reg_skip 7 rfl rfl (by decide +kernel) rfl); exact hS0; simp only [zq1, zq2, zq3]
          (apply reg_skip 8 rfl rfl (by decide +kernel) rfl); exact hS0; simp only [zq1, zq2, zq3]
          (apply reg_skip 9 rfl rfl (by decide +kernel) rfl); exact hS0; simp only [zq1, zq2, zq3]
          (apply reg_skip 10 rfl rfl (by decide +kernel) rfl); exact hS0; simp only [zq1, zq2, zq3]
          (apply reg_skip 11 rfl rfl (by decide +kernel) rfl); exact hS0; simp only [zq1, zq2, zq3]
          (apply reg_skip 12 rfl rfl (by decide +kernel) rfl); exact hS0; simp only [zq1, zq2, zq3]
          (apply reg_take 13 rfl rfl (by decide +kernel) rfl); (rintro w' rfl; go_simp; rfl); exact hS0; simp only [zq1, zq2, zq3]
          (apply reg_take 14 rfl rfl (by decide +kernel) rfl); (rintro w' rfl; go_simp; rfl); exact hS0; simp only [zq1, zq2, zq3]
          (apply reg_take 15 rfl rfl (by decide +kernel) rfl); (rintro w' rfl; go_simp; rfl); exact hS0; simp only [zq1, zq2, zq3]
          refine reg_done (by decide +kernel) ?_
          go_wp2
          go_roundw
          case rel => exact HE.out
          case measure => simp only [intOf]; omega
    · have hke : k = Lw.length := by omega
      have hid : decide ((k : Int) < (Lw.length : Int)) = false := decide_eq_false (by omega)
      have hbt := HBT.out
      rw [hke, List.take_length, HMW.out] at hbt
      have HB6 := Lib.hid (HB3.out.trans ((HB5.out.trans (HBW.out.mono HB5.out.size)).mono HB3.out.size))
      have HX6 := Lib.hid (HX3.out.below (HB5.out.trans (HBW.out.mono HB5.out.size)))
      have x2 := HX6.out.c2
      have HM6 := Lib.hid (IntsAt.below HM5.out HBW.out)
      have hgo : decide ((Lm.length : Int) > 0) = bt := by rw [hbt]; by_cases h0 : 0 < Lm.length <;> simp [h0]
      have hgp : decide (0 < Lm.length) = bt := hbt.symm
      clear hbt hke
      cases bt
      all_goals
        go_wp2_with (first
          | (go_at_call 28; refine (HRC.out wr HB6.out).mono ?_; rintro e w7 ⟨v11, rfl, h4, h5⟩; have HB7 := Lib.hid (HB6.out.trans ((h4.below_of h5).mono HB6.out.size)); have HI7 := Lib.hid (And.intro (IntsAt.below HM6.out (h4.below_of h5)) (own_ints rfl h5)); clear h4 h5; have HSI := Lib.hid (same41_any _ _ Lm Lm w7 HI7.out.1 HI7.out.2 (by have := HM40.out; omega)); rw [decide_eq_true rfl] at HSI)
          | (go_at_call 14; refine HSI.out.mono ?_; rintro e w8 ⟨rfl, h8⟩; have HB8 := Lib.hid (HB7.out.trans (h8.mono HB7.out.size)); clear h8))
        go_ret
        exact ⟨rfl, HB8.out⟩
end Go.Proofs.YteikbikopgabjaaGreatDoor
end
section
/- LossMatchMatchesSpec, as a tied card: whatever the input, the law answers true and leaves its arguments alone; the tables that it reads are what the program's text lays (tied; over a pruned copy of the project). -/
namespace Go.Proofs.YteikbikopgabjaaGreatDoor
open Go.RowKit Go.GF Go.Sl Go.Vol Go.ChangeMaps Go.ChangeShapes Go.WideShapes Go.ChangeAt
set_option maxRecDepth 100000 in
set_option maxHeartbeats 1000000 in
theorem lossMatchMatchesSpec_lifted (os : Os) (started : os.Started) (H : Type) (enc : TypeId × Value → H) :
    ReturnsInHanded {} Tryz.checked os 7 .any (fun w args => (Rows.lossMatchMatchesSpecSpec.pre enc Tryz.prog Tryz.f7 [] false w args ∧ laidMetH Tryz.prog tabLaid4 w) ∧ sizedMet enc Tryz.prog Tryz.f7 (OpenSpec.ofChange Rows.lossMatchMatchesSpecSpec) false w args) (Rows.lossMatchMatchesSpecSpec.post enc Tryz.prog Tryz.f7 false true false false) := by
  refine returnsInHanded_of_change_and (C := Tryz.checked) (X := fun w _ => laidMetH Tryz.prog tabLaid4 w) (fun _ _ _ hh h => h.of_heap hh) law_own started (by kernel_rfl) Tryz.func7
    (ChangeSpec.witness_shaped (enc := enc) (C := Tryz.checked) (os := os) (X := fun w _ => laidMetH Tryz.prog tabLaid4 w) false (World.doorLaid Tryz.prog 31 os) #[.agg #[.slice none 0 0, .slice none 0 0, .slice none 0 0], .string ByteArray.empty] 8 rfl (World.shaped_of_RefB (by kernel_rfl) (by kernel_rfl)) (by kernel_rfl) (by kernel_rfl) (by kernel_rfl) (door_met4 os _)) ?_
  intro W base args ds gs before hval0 hW _ _ hL _
  have hTW := tabs_of_laid4 hL
  have hval : ∀ (j : Nat) t v, Tryz.f7.params[j]? = some t → args[j]? = some v → Value.okWide Tryz.prog W .any base t v := hval0
  have hW' := hW
  obtain ⟨p, q, hA0, hV, rfl, _, _⟩ := hW
  have hA : DataW.TrodAll enc Tryz.prog W 0 (fun _ => true) true Tryz.f7.params.toList args.toList ds p := hA0
  rw [Tryz.params7] at hA hval
  obtain ⟨w0, vs0, d0, ds0, p0, q0, hargs, rfl, rfl, h0, r0⟩ := trodAll_cons hA
  obtain ⟨w1, vs1, d1, ds1, p1, q1, rfl, rfl, rfl, h1, r1⟩ := trodAll_cons r0
  obtain ⟨rfl, rfl, rfl⟩ := trodAll_nil r1
  obtain rfl : args = #[w0, w1] := by cases args; simp_all
  obtain ⟨rfl, rfl⟩ := trodVars_none hV
  obtain ⟨cs0, rfl, _⟩ := okWide_struct Tryz.underlying25 (hval 0 _ w0 rfl rfl)
  obtain ⟨va, vb, vi, A, B, l, e0, gA, gB, cA, cB, gI⟩ := rd_in41 (trod_rd h0)
  obtain rfl : cs0 = #[va, vb, vi] := by apply Array.ext'; simpa [Value.cells] using e0
  obtain ⟨s1, e1, z1⟩ := Rd.string Tryz.underlying9 (trod_rd h1)
  obtain ⟨t1, rfl⟩ := okWide_string Tryz.underlying9 (hval 1 _ w1 rfl rfl)
  obtain rfl : t1 = s1 := by simpa [Value.cells] using e1
  refine (matchlaw_any va vb vi A B l W gA gB cA cB gI hTW.1 hTW.2.1 hTW.2.2.1 hTW.2.2.2 t1 z1).mono fun e W' ⟨he, hg⟩ => ?_
  subst he
  exact ⟨_, rfl, law_post (by kernel_rfl) rfl (of_decide_eq_true (by kernel_rfl)) rfl hW' hg⟩
theorem lossMatchMatchesSpec_holds : Rows.LossMatchMatchesSpecSaid :=
  OpenClaim.holds_of_wide 7 Tryz.f7 rfl rfl rfl rfl rfl rfl rfl ⟨rfl, rfl, rfl, rfl, rfl⟩ rfl rfl rfl rfl rfl (by kernel_rfl) Tryz.func7 (by kernel_rfl)
    (of_decide_eq_true (by kernel_rfl)) (by unfold Func.isWrapper; first | (rw [if_pos (by decide +kernel)]; kernel_rfl) | (rw [if_neg (by decide +kernel)]; exact ⟨rfl, rfl⟩))
    (fun os started H enc _ => lossMatchMatchesSpec_lifted os started H enc)
/-- The tied card. -/
theorem lossMatchMatchesSpecCard_holds : Rows.LossMatchMatchesSpecCardSaid :=
  Claim7.holds_tied_plain_at .later [] [.data, .data, .data, .data] true (true, "dd44be2b4fdb180e7981f82dd1d3492b06ede229f3f0961faae65c3ee6d32968") false
    lossMatchMatchesSpec_holds (fun _ h => by cases h) (by kernel_rfl) (fun _ h => by cases h) lossMatchMatchesSpec_row_tie rfl ⟨rfl, rfl⟩ (by kernel_rfl) rfl
    (fun f fn hf hfn => by
      obtain rfl : f = 7 := Option.some.inj ((show Tryz.prog.funcNamed "solvent/solventlaw41.LossMatchMatchesSpec" = some 7 by kernel_rfl).symm.trans hf) |>.symm
      obtain rfl : fn = Tryz.f7 := (Option.some.inj (Tryz.func7.symm.trans hfn)).symm
      exact ⟨by kernel_rfl, fun j t ht => by
        rw [Tryz.params7] at ht
        have hm : t ∈ [25, 9] := by simpa using Array.mem_of_getElem? ht
        have hall : ([25, 9].all fun u => !Tryz.prog.wantsStandIn u) = true := by kernel_rfl
        exact (show Tryz.prog.wantsStandIn t = false by simpa using List.all_eq_true.1 hall t hm)⟩)
    (by kernel_rfl)
end Go.Proofs.YteikbikopgabjaaGreatDoor
end
