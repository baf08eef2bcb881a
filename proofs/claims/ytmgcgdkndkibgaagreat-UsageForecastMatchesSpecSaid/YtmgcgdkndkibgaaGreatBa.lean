/- solventref28.Grow: how a volume would grow, counted by two loops in a loop. Printed by ba.py. -/
import Derived.Test.YtmgcgdkndkibgaaGreatAh
import Derived.Test.YtmgcgdkndkibgaaGreatAr
import Derived.Test.YtmgcgdkndkibgaaGreatRh
namespace Go.Proofs.YtmgcgdkndkibgaaGreat
open Go.RowKit Go.Vol Go.Sl

theorem cntG_step {l : List Int} {LL : List (Nat × Int)} {k : Nat} {x : Int} (h : l[k]? = some x) : cntG l (LL.map fun y => (y.1 : Int)) (k + 1) = cntG l (LL.map fun y => (y.1 : Int)) k + if ((l.take k).any fun z => z == x) || (LL.any fun y => (y.1 : Int) == x) then 0 else 1 := by
  have e1 : ((l.take k).any fun z => z == x) = (l.take k).contains x := by
    rw [Bool.eq_iff_iff, List.any_eq_true, List.contains_iff_mem]
    constructor
    · rintro ⟨z, hz, he⟩; rw [← eq_of_beq he]; exact hz
    · intro hz; exact ⟨x, hz, beq_self_eq_true x⟩
  have e2 : (LL.any fun y => (y.1 : Int) == x) = (LL.map fun y => (y.1 : Int)).contains x := by
    rw [Bool.eq_iff_iff, List.any_eq_true, List.contains_iff_mem, List.mem_map]
    constructor
    · rintro ⟨z, hz, he⟩; exact ⟨z, hz, eq_of_beq he⟩
    · rintro ⟨z, hz, he⟩; exact ⟨z, hz, beq_iff_eq.2 he⟩
  rw [e1, e2]
  show cntG l _ k + (if (match l[k]? with | some x => (l.take k).contains x || (LL.map fun y => (y.1 : Int)).contains x | none => true) = true then 0 else 1) = _
  rw [h]
theorem cntG_le (l ks : List Int) : ∀ k, cntG l ks k ≤ k
  | 0 => Nat.le_refl _
  | k + 1 => by
    have ih := cntG_le l ks k
    have key : ∀ b : Bool, cntG l ks k + (if b then 0 else 1) ≤ k + 1 := by intro b; cases b <;> simp <;> omega
    exact key _
structure GwSt (W : World) (l ks : List Int) (n i : Value) (wr : World) : Prop where
  st : ∃ k : Nat, k ≤ l.length ∧ i = .int .i64 (k : Int) ∧ n = .int .i64 (cntG l ks k : Int) ∧ Hid ((l.take k).any badB = false ∧ Below W.heap.size W wr)
structure SeSt {α : Type} (W : World) (l : List α) (p : α → Bool) (s0 : Bool) (s i : Value) (wr : World) : Prop where
  st : ∃ j : Nat, j ≤ l.length ∧ i = .int .i64 (j : Int) ∧ s = .bool (s0 || (l.take j).any p) ∧ Hid (Below W.heap.size W wr)
theorem se_step {α : Type} {l : List α} {j : Nat} {y : α} (p : α → Bool) (s0 : Bool) (h : l[j]? = some y) : (s0 || (l.take (j + 1)).any p) = ((s0 || (l.take j).any p) || p y) := by
  rw [List.take_add_one, h, List.any_append]
  cases s0 <;> simp
set_option maxRecDepth 20000 in
set_option maxHeartbeats 8000000 in
theorem rgrow_any {ok : Nat → Prop} (vv vs : Value) (S : SpaceM) (v : Int) (l : List Int) (va : Value) (w : World) (hS : RefAt ok w vv vs S) (hwf : S.WF) (ha : IntsAt w va l) (hm : l.length ≤ 1000000) :
    Calls Tryz.prog 17 #[.agg #[vv, vs], .int .i64 v, va] w fun e w' => e = .returned (.tuple #[.int .i64 (growM S v l).1, .int .i64 (growM S v l).2]) ∧ Below w.heap.size w w' := by
  obtain ⟨vva, vc, rfl, hvc, hvm⟩ := hS.v.slice
  obtain ⟨sa, sc, rfl, hsc, hsm⟩ := hS.s.slice
  have hb0 := (Below.refl w.heap.size w).alloc (Nat.le_refl _) (.cells #[.slice vva S.vols.length vc, .slice sa S.snaps.length sc] TRS)
  have HFD := Lib.hid (rfind_any _ S.vols v (w.alloc (.cells #[.slice vva S.vols.length vc, .slice sa S.snaps.length sc] TRS)) (hS.v.below hb0) (by have := hwf.vlen; omega))
  have HM := Lib.hid (contM_find S v)
  have HB := Lib.hid hb0
  have hno := findM_no (L := S.vols) (v := v)
  have hfl := findM_len S.vols v
  obtain ⟨G, hG⟩ : ∃ G, Hid (growM S v l = G) := ⟨_, Lib.hid rfl⟩
  rw [hG.out]
  unfold growM at hG
  rw [HM.out] at hG
  clear hS hvc hvm hsc hsm hb0 hwf HM
  generalize findM S.vols v = R at HFD hno hG hfl
  obtain ⟨LL, bb⟩ := R
  obtain ⟨ao, cap, rfl, ha⟩ := ha
  cases bb
  · obtain rfl : LL = [] := hno rfl
    clear hno ha
    obtain rfl : (0, 12) = G := by rw [← hG.out]; rfl
    go_enter Tryz.func17, Tryz.ntmps17
    go_wp2_with (go_at_call 41; refine HFD.out.mono ?_; rintro e W2 ⟨a, c, rfl, h2⟩)
    go_ret2
    exact ⟨rfl, HB.out.trans (h2.out.1.mono HB.out.size)⟩
  · have hG := Lib.hid (show (if l.any badB then ((0 : Int), (1 : Int)) else ((cntG l (LL.map fun y => (y.1 : Int)) l.length : Int), 0)) = G from by rw [← hG.out]; rfl)
    have HA := Lib.hid ha
    clear hno ha
    simp only at hfl
    go_enter Tryz.func17, Tryz.ntmps17
    go_upto_region 4 with (go_at_call 41; refine HFD.out.mono ?_; rintro e W2 ⟨a, c, rfl, h2⟩)
    have HB2 := Lib.hid (HB.out.trans (h2.out.1.mono HB.out.size))
    have HR := Lib.hid h2.out.2
    clear h2 HFD HB
    go_wp2
    go_loopw [10, 11] (fun n i wr => GwSt W2 l (LL.map fun y => (y.1 : Int)) n i wr) (fun _ i _ => l.length - (intOf i).toNat)
    case atStart => exact ⟨⟨0, Nat.zero_le _, rfl, rfl, rfl, Below.refl _ _⟩⟩
    case round =>
      obtain ⟨k, hk, rfl, rfl, HX⟩ := hrel.st
      clear hrel
      have hcl := cntG_le l (LL.map fun y => (y.1 : Int)) k
      by_cases hlt : k < l.length
      · have hltd : decide ((k : Int) < (l.length : Int)) = true := decide_eq_true (by omega)
        have hki : (k : Int) ≤ 1000000 := by omega
        obtain ⟨x, hx⟩ : ∃ x, l[k]? = some x := ⟨_, List.getElem?_eq_getElem hlt⟩
        obtain ⟨b, off, rfl, hc⟩ := HA.out (by rintro rfl; simp at hlt)
        have HCL := Lib.hid (fun (W : World) (hb : Below W2.heap.size W2 W) (j : Nat) (z : Int) (hz : l[j]? = some z) => show W.cell? ⟨b, off + j, none⟩ = some (.int .i64 z) from by
          have h := hc j z hz
          rw [Nat.mul_one] at h
          have h2 := (HB2.out.cell (p := ⟨b, off + j, none⟩) (World.block_lt_of_cell? _ _ h)).trans h
          exact (hb.cell (p := ⟨b, off + j, none⟩) (World.block_lt_of_cell? _ _ h2)).trans h2)
        have c0 := HCL.out wr HX.out.2 k x hx
        have hwk : IntKind.i64.wrap ((k : Int) + 1) = (k : Int) + 1 := IntWalk.i64_in _ (by omega)
        have HCS := Lib.hid (cntG_step (LL := LL) hx)
        have HT := Lib.hid (show l.take (k + 1) = l.take k ++ [x] by rw [List.take_add_one, hx]; rfl)
        have HXK := Lib.hid hx
        clear hc hx
        by_cases hbad : x < 0 ∨ 4096 ≤ x
        · have HN := Lib.hid (show l.any badB = true from by
            rw [List.any_eq_true]; exact ⟨x, List.mem_of_getElem? HXK.out, by unfold badB; rcases hbad with h | h <;> simp [h]⟩)
          obtain rfl : (0, 1) = G := by rw [← hG.out, HN.out]; rfl
          by_cases hx0 : x < 0
          · have hd0 : decide (x < 0) = true := decide_eq_true hx0
            clear hbad
            go_wp2
            go_ret2
            exact ⟨rfl, HB2.out.trans (HX.out.2.mono HB2.out.size)⟩
          · have hd0 : decide (x < 0) = false := decide_eq_false hx0
            have hd1 : decide (4095 < x) = true := decide_eq_true (by omega)
            clear hbad
            go_wp2
            go_ret2
            exact ⟨rfl, HB2.out.trans (HX.out.2.mono HB2.out.size)⟩
        · have hd0 : decide (x < 0) = false := decide_eq_false (by omega)
          have hd1 : decide (4095 < x) = false := decide_eq_false (by omega)
          have HBF := Lib.hid (show badB x = false by unfold badB; rw [hd0, decide_eq_false (show ¬ 4096 ≤ x by omega)]; rfl)
          clear hbad
          go_upto_region 12 with (fail)
          obtain ⟨wo, rfl⟩ : ∃ wo : World, wo = wr := ⟨_, rfl⟩
          clear c0 hd0 hd1
          go_loopw [12, 13] (fun s i wr => SeSt wo (l.take k) (fun z => z == x) false s i wr) (fun _ i _ => k - (intOf i).toNat)
          case atStart => exact ⟨⟨0, Nat.zero_le _, rfl, rfl, Below.refl _ _⟩⟩
          case round =>
            obtain ⟨j, hj, rfl, rfl, HY⟩ := hrel.st
            clear hrel
            have hlk : (l.take k).length = k := by rw [List.length_take]; omega
            rw [hlk] at hj
            by_cases hjk : j < k
            · have hjkd : decide ((j : Int) < (k : Int)) = true := decide_eq_true (by omega)
              have hji : (j : Int) ≤ 1000000 := by omega
              have hjl : decide ((j : Int) < (l.length : Int)) = true := decide_eq_true (by omega)
              have hjln : j < l.length := by omega
              obtain ⟨z, hz⟩ : ∃ z, l[j]? = some z := ⟨_, List.getElem?_eq_getElem hjln⟩
              have hz2 : (l.take k)[j]? = some z := by rw [List.getElem?_take, if_pos hjk]; exact hz
              have HST := Lib.hid (se_step (fun z => z == x) false hz2)
              have hwj : IntKind.i64.wrap ((j : Int) + 1) = (j : Int) + 1 := IntWalk.i64_in _ (by omega)
              have HCZ := Lib.hid (fun (W : World) (hb : Below wo.heap.size wo W) => show W.cell? ⟨b, off + j, none⟩ = some (.int .i64 z) ∧ W.cell? ⟨b, off + k, none⟩ = some (.int .i64 x) from ⟨HCL.out W (HX.out.2.trans (hb.mono HX.out.2.size)) j z hz, HCL.out W (HX.out.2.trans (hb.mono HX.out.2.size)) k x HXK.out⟩)
              clear hz hz2
              cases hsn : (false || ((l.take k).take j).any fun z => z == x)
              · rw [hsn] at HST
                go_upto_region 14 with (fail)
                have hd5 : Below wr.heap.size wr wr.drew := (Below.refl _ _).drew
                have hS5 := HCZ.out wr.drew (HY.out.trans (hd5.mono HY.out.size))
                refine reg_begin (fun w' => w'.cell? ⟨b, off + j, none⟩ = some (.int .i64 z) ∧ w'.cell? ⟨b, off + k, none⟩ = some (.int .i64 x)) (by kernel_rfl) ?_
                (apply reg_take 0 rfl rfl (by decide +kernel) rfl); (rintro w' ⟨h1, h2⟩; go_simp; rfl); exact hS5; simp only [List.setIfInBounds_toArray, List.set_cons_succ, List.set_cons_zero]
                (apply reg_take 1 rfl rfl (by decide +kernel) rfl); (rintro w' ⟨h1, h2⟩; go_simp; rfl); exact hS5; simp only [List.setIfInBounds_toArray, List.set_cons_succ, List.set_cons_zero]
                (apply reg_take 2 rfl rfl (by decide +kernel) rfl); (rintro w' ⟨h1, h2⟩; go_simp; rfl); exact hS5; simp only [List.setIfInBounds_toArray, List.set_cons_succ, List.set_cons_zero]
                (apply reg_take 3 rfl rfl (by decide +kernel) rfl); (rintro w' ⟨h1, h2⟩; go_simp; rfl); exact hS5; simp only [List.setIfInBounds_toArray, List.set_cons_succ, List.set_cons_zero]
                (apply reg_take 4 rfl rfl (by decide +kernel) rfl); (rintro w' ⟨h1, h2⟩; go_simp; rfl); exact hS5; simp only [List.setIfInBounds_toArray, List.set_cons_succ, List.set_cons_zero]
                (apply reg_take 5 rfl rfl (by decide +kernel) rfl); (rintro w' ⟨h1, h2⟩; go_simp; rfl); exact hS5; simp only [List.setIfInBounds_toArray, List.set_cons_succ, List.set_cons_zero]
                (apply reg_take 6 rfl rfl (by decide +kernel) rfl); (rintro w' ⟨h1, h2⟩; go_simp; rfl); exact hS5; simp only [List.setIfInBounds_toArray, List.set_cons_succ, List.set_cons_zero]
                (apply reg_take 7 rfl rfl (by decide +kernel) rfl); (rintro w' ⟨h1, h2⟩; go_simp; rfl); exact hS5; simp only [List.setIfInBounds_toArray, List.set_cons_succ, List.set_cons_zero]
                (apply reg_take 8 rfl rfl (by decide +kernel) rfl); (rintro w' ⟨h1, h2⟩; go_simp; rfl); exact hS5; simp only [List.setIfInBounds_toArray, List.set_cons_succ, List.set_cons_zero]
                (apply reg_take 9 rfl rfl (by decide +kernel) rfl); (rintro w' ⟨h1, h2⟩; go_simp; rfl); exact hS5; simp only [List.setIfInBounds_toArray, List.set_cons_succ, List.set_cons_zero]
                (apply reg_take 10 rfl rfl (by decide +kernel) rfl); (rintro w' ⟨h1, h2⟩; go_simp; rfl); exact hS5; simp only [List.setIfInBounds_toArray, List.set_cons_succ, List.set_cons_zero]
                (apply reg_take 11 rfl rfl (by decide +kernel) rfl); (rintro w' ⟨h1, h2⟩; go_simp; rfl); exact hS5; simp only [List.setIfInBounds_toArray, List.set_cons_succ, List.set_cons_zero]
                (apply reg_take 12 rfl rfl (by decide +kernel) rfl); (rintro w' ⟨h1, h2⟩; go_simp; rfl); exact hS5; simp only [List.setIfInBounds_toArray, List.set_cons_succ, List.set_cons_zero]
                refine reg_done (by decide +kernel) ?_
                have HZ5 := Lib.hid (HY.out.trans (hd5.mono HY.out.size)); clear hS5 hd5
                go_wp2
                go_roundw
                case rel => exact ⟨⟨j + 1, by rw [hlk]; omega, rfl, by rw [HST.out]; rfl, HZ5.out⟩⟩
                case measure => simp only [intOf]; omega
              · rw [hsn] at HST
                go_upto_region 14 with (fail)
                have hd5 : Below wr.heap.size wr wr.drew := (Below.refl _ _).drew
                have hS5 := HCZ.out wr.drew (HY.out.trans (hd5.mono HY.out.size))
                refine reg_begin (fun w' => w'.cell? ⟨b, off + j, none⟩ = some (.int .i64 z) ∧ w'.cell? ⟨b, off + k, none⟩ = some (.int .i64 x)) (by kernel_rfl) ?_
                (apply reg_take 0 rfl rfl (by decide +kernel) rfl); (rintro w' ⟨h1, h2⟩; go_simp; rfl); exact hS5; simp only [List.setIfInBounds_toArray, List.set_cons_succ, List.set_cons_zero]
                (apply reg_take 1 rfl rfl (by decide +kernel) rfl); (rintro w' ⟨h1, h2⟩; go_simp; rfl); exact hS5; simp only [List.setIfInBounds_toArray, List.set_cons_succ, List.set_cons_zero]
                (apply reg_skip 2 rfl rfl (by decide +kernel) rfl); exact hS5; simp only [List.setIfInBounds_toArray, List.set_cons_succ, List.set_cons_zero]
                (apply reg_skip 3 rfl rfl (by decide +kernel) rfl); exact hS5; simp only [List.setIfInBounds_toArray, List.set_cons_succ, List.set_cons_zero]
                (apply reg_skip 4 rfl rfl (by decide +kernel) rfl); exact hS5; simp only [List.setIfInBounds_toArray, List.set_cons_succ, List.set_cons_zero]
                (apply reg_skip 5 rfl rfl (by decide +kernel) rfl); exact hS5; simp only [List.setIfInBounds_toArray, List.set_cons_succ, List.set_cons_zero]
                (apply reg_skip 6 rfl rfl (by decide +kernel) rfl); exact hS5; simp only [List.setIfInBounds_toArray, List.set_cons_succ, List.set_cons_zero]
                (apply reg_skip 7 rfl rfl (by decide +kernel) rfl); exact hS5; simp only [List.setIfInBounds_toArray, List.set_cons_succ, List.set_cons_zero]
                (apply reg_skip 8 rfl rfl (by decide +kernel) rfl); exact hS5; simp only [List.setIfInBounds_toArray, List.set_cons_succ, List.set_cons_zero]
                (apply reg_skip 9 rfl rfl (by decide +kernel) rfl); exact hS5; simp only [List.setIfInBounds_toArray, List.set_cons_succ, List.set_cons_zero]
                (apply reg_skip 10 rfl rfl (by decide +kernel) rfl); exact hS5; simp only [List.setIfInBounds_toArray, List.set_cons_succ, List.set_cons_zero]
                (apply reg_take 11 rfl rfl (by decide +kernel) rfl); (rintro w' ⟨h1, h2⟩; go_simp; rfl); exact hS5; simp only [List.setIfInBounds_toArray, List.set_cons_succ, List.set_cons_zero]
                (apply reg_take 12 rfl rfl (by decide +kernel) rfl); (rintro w' ⟨h1, h2⟩; go_simp; rfl); exact hS5; simp only [List.setIfInBounds_toArray, List.set_cons_succ, List.set_cons_zero]
                refine reg_done (by decide +kernel) ?_
                have HZ5 := Lib.hid (HY.out.trans (hd5.mono HY.out.size)); clear hS5 hd5
                go_wp2
                go_roundw
                case rel => exact ⟨⟨j + 1, by rw [hlk]; omega, rfl, by rw [HST.out]; rfl, HZ5.out⟩⟩
                case measure => simp only [intOf]; omega
            · obtain rfl : j = k := by omega
              have hjkd : decide ((j : Int) < (j : Int)) = false := decide_eq_false (by omega)
              have hnjk : ¬ (j : Int) < (j : Int) := by omega
              rw [show (l.take j).take j = l.take j from by rw [List.take_take, Nat.min_self], Bool.false_or]
              generalize hs0 : ((l.take j).any fun z => z == x) = s0 at HCS ⊢
              clear hs0
              have HXW := Lib.hid (HX.out.2.trans (HY.out.mono HX.out.2.size))
              have hX1 := HX.out.1
              have HX1 := Lib.hid hX1
              clear hX1 HX HY
              go_upto_region 16 with (fail)
              obtain ⟨wp, rfl⟩ : ∃ wp : World, wp = wr := ⟨_, rfl⟩
              go_loopw [12, 14] (fun s i wr => SeSt wp LL (fun y => (y.1 : Int) == x) s0 s i wr) (fun _ i _ => LL.length - (intOf i).toNat)
              case atStart => exact ⟨⟨0, Nat.zero_le _, rfl, by simp, Below.refl _ _⟩⟩
              case round =>
                obtain ⟨i, hi, rfl, rfl, HZ⟩ := hrel.st
                clear hrel
                by_cases hil : i < LL.length
                · have hild : decide ((i : Int) < (LL.length : Int)) = true := decide_eq_true (by omega)
                  have hii : (i : Int) ≤ 4096 := by omega
                  obtain ⟨y, hy⟩ : ∃ y, LL[i]? = some y := ⟨_, List.getElem?_eq_getElem hil⟩
                  obtain ⟨b2, rfl, hb2, f0, f1⟩ := ref_cells HR.out hy
                  have HST := Lib.hid (se_step (fun y : Nat × Int => (y.1 : Int) == x) s0 hy)
                  have hwi : IntKind.i64.wrap ((i : Int) + 1) = (i : Int) + 1 := IntWalk.i64_in _ (by omega)
                  have HCZ := Lib.hid (fun (W : World) (hb : Below wp.heap.size wp W) => show W.cell? ⟨b2, i * 2, none⟩ = some (.int .i64 (y.1 : Int)) ∧ W.cell? ⟨b, off + j, none⟩ = some (.int .i64 x) from ⟨((HXW.out.trans (hb.mono HXW.out.size)).cell (p := ⟨b2, i * 2, none⟩) hb2).trans f0, HCL.out W (HXW.out.trans (hb.mono HXW.out.size)) j x HXK.out⟩)
                  clear hy f0 f1
                  cases hsn : (s0 || (LL.take i).any fun y => (y.1 : Int) == x)
                  · rw [hsn] at HST
                    go_upto_region 18 with (fail)
                    have hd5 : Below wr.heap.size wr wr.drew := (Below.refl _ _).drew
                    have hS5 := HCZ.out wr.drew (HZ.out.trans (hd5.mono HZ.out.size))
                    refine reg_begin (fun w' => w'.cell? ⟨b2, i * 2, none⟩ = some (.int .i64 (y.1 : Int)) ∧ w'.cell? ⟨b, off + j, none⟩ = some (.int .i64 x)) (by kernel_rfl) ?_
                    (apply reg_take 0 rfl rfl (by decide +kernel) rfl); (rintro w' ⟨h1, h2⟩; go_simp; rfl); exact hS5; simp only [List.setIfInBounds_toArray, List.set_cons_succ, List.set_cons_zero]
                    (apply reg_take 1 rfl rfl (by decide +kernel) rfl); (rintro w' ⟨h1, h2⟩; go_simp; rfl); exact hS5; simp only [List.setIfInBounds_toArray, List.set_cons_succ, List.set_cons_zero]
                    (apply reg_take 2 rfl rfl (by decide +kernel) rfl); (rintro w' ⟨h1, h2⟩; go_simp; rfl); exact hS5; simp only [List.setIfInBounds_toArray, List.set_cons_succ, List.set_cons_zero]
                    (apply reg_take 3 rfl rfl (by decide +kernel) rfl); (rintro w' ⟨h1, h2⟩; go_simp; rfl); exact hS5; simp only [List.setIfInBounds_toArray, List.set_cons_succ, List.set_cons_zero]
                    (apply reg_take 4 rfl rfl (by decide +kernel) rfl); (rintro w' ⟨h1, h2⟩; go_simp; rfl); exact hS5; simp only [List.setIfInBounds_toArray, List.set_cons_succ, List.set_cons_zero]
                    (apply reg_take 5 rfl rfl (by decide +kernel) rfl); (rintro w' ⟨h1, h2⟩; go_simp; rfl); exact hS5; simp only [List.setIfInBounds_toArray, List.set_cons_succ, List.set_cons_zero]
                    (apply reg_take 6 rfl rfl (by decide +kernel) rfl); (rintro w' ⟨h1, h2⟩; go_simp; rfl); exact hS5; simp only [List.setIfInBounds_toArray, List.set_cons_succ, List.set_cons_zero]
                    (apply reg_take 7 rfl rfl (by decide +kernel) rfl); (rintro w' ⟨h1, h2⟩; go_simp; rfl); exact hS5; simp only [List.setIfInBounds_toArray, List.set_cons_succ, List.set_cons_zero]
                    (apply reg_take 8 rfl rfl (by decide +kernel) rfl); (rintro w' ⟨h1, h2⟩; go_simp; rfl); exact hS5; simp only [List.setIfInBounds_toArray, List.set_cons_succ, List.set_cons_zero]
                    (apply reg_take 9 rfl rfl (by decide +kernel) rfl); (rintro w' ⟨h1, h2⟩; go_simp; rfl); exact hS5; simp only [List.setIfInBounds_toArray, List.set_cons_succ, List.set_cons_zero]
                    (apply reg_take 10 rfl rfl (by decide +kernel) rfl); (rintro w' ⟨h1, h2⟩; go_simp; rfl); exact hS5; simp only [List.setIfInBounds_toArray, List.set_cons_succ, List.set_cons_zero]
                    (apply reg_take 11 rfl rfl (by decide +kernel) rfl); (rintro w' ⟨h1, h2⟩; go_simp; rfl); exact hS5; simp only [List.setIfInBounds_toArray, List.set_cons_succ, List.set_cons_zero]
                    (apply reg_take 12 rfl rfl (by decide +kernel) rfl); (rintro w' ⟨h1, h2⟩; go_simp; rfl); exact hS5; simp only [List.setIfInBounds_toArray, List.set_cons_succ, List.set_cons_zero]
                    (apply reg_take 13 rfl rfl (by decide +kernel) rfl); (rintro w' ⟨h1, h2⟩; go_simp; rfl); exact hS5; simp only [List.setIfInBounds_toArray, List.set_cons_succ, List.set_cons_zero]
                    refine reg_done (by decide +kernel) ?_
                    have HZ5 := Lib.hid (HZ.out.trans (hd5.mono HZ.out.size)); clear hS5 hd5
                    go_wp2
                    go_roundw
                    case rel => exact ⟨⟨i + 1, hil, rfl, by rw [HST.out]; rfl, HZ5.out⟩⟩
                    case measure => simp only [intOf]; omega
                  · rw [hsn] at HST
                    go_upto_region 18 with (fail)
                    have hd5 : Below wr.heap.size wr wr.drew := (Below.refl _ _).drew
                    have hS5 := HCZ.out wr.drew (HZ.out.trans (hd5.mono HZ.out.size))
                    refine reg_begin (fun w' => w'.cell? ⟨b2, i * 2, none⟩ = some (.int .i64 (y.1 : Int)) ∧ w'.cell? ⟨b, off + j, none⟩ = some (.int .i64 x)) (by kernel_rfl) ?_
                    (apply reg_take 0 rfl rfl (by decide +kernel) rfl); (rintro w' ⟨h1, h2⟩; go_simp; rfl); exact hS5; simp only [List.setIfInBounds_toArray, List.set_cons_succ, List.set_cons_zero]
                    (apply reg_take 1 rfl rfl (by decide +kernel) rfl); (rintro w' ⟨h1, h2⟩; go_simp; rfl); exact hS5; simp only [List.setIfInBounds_toArray, List.set_cons_succ, List.set_cons_zero]
                    (apply reg_skip 2 rfl rfl (by decide +kernel) rfl); exact hS5; simp only [List.setIfInBounds_toArray, List.set_cons_succ, List.set_cons_zero]
                    (apply reg_skip 3 rfl rfl (by decide +kernel) rfl); exact hS5; simp only [List.setIfInBounds_toArray, List.set_cons_succ, List.set_cons_zero]
                    (apply reg_skip 4 rfl rfl (by decide +kernel) rfl); exact hS5; simp only [List.setIfInBounds_toArray, List.set_cons_succ, List.set_cons_zero]
                    (apply reg_skip 5 rfl rfl (by decide +kernel) rfl); exact hS5; simp only [List.setIfInBounds_toArray, List.set_cons_succ, List.set_cons_zero]
                    (apply reg_skip 6 rfl rfl (by decide +kernel) rfl); exact hS5; simp only [List.setIfInBounds_toArray, List.set_cons_succ, List.set_cons_zero]
                    (apply reg_skip 7 rfl rfl (by decide +kernel) rfl); exact hS5; simp only [List.setIfInBounds_toArray, List.set_cons_succ, List.set_cons_zero]
                    (apply reg_skip 8 rfl rfl (by decide +kernel) rfl); exact hS5; simp only [List.setIfInBounds_toArray, List.set_cons_succ, List.set_cons_zero]
                    (apply reg_skip 9 rfl rfl (by decide +kernel) rfl); exact hS5; simp only [List.setIfInBounds_toArray, List.set_cons_succ, List.set_cons_zero]
                    (apply reg_skip 10 rfl rfl (by decide +kernel) rfl); exact hS5; simp only [List.setIfInBounds_toArray, List.set_cons_succ, List.set_cons_zero]
                    (apply reg_skip 11 rfl rfl (by decide +kernel) rfl); exact hS5; simp only [List.setIfInBounds_toArray, List.set_cons_succ, List.set_cons_zero]
                    (apply reg_take 12 rfl rfl (by decide +kernel) rfl); (rintro w' ⟨h1, h2⟩; go_simp; rfl); exact hS5; simp only [List.setIfInBounds_toArray, List.set_cons_succ, List.set_cons_zero]
                    (apply reg_take 13 rfl rfl (by decide +kernel) rfl); (rintro w' ⟨h1, h2⟩; go_simp; rfl); exact hS5; simp only [List.setIfInBounds_toArray, List.set_cons_succ, List.set_cons_zero]
                    refine reg_done (by decide +kernel) ?_
                    have HZ5 := Lib.hid (HZ.out.trans (hd5.mono HZ.out.size)); clear hS5 hd5
                    go_wp2
                    go_roundw
                    case rel => exact ⟨⟨i + 1, hil, rfl, by rw [HST.out]; rfl, HZ5.out⟩⟩
                    case measure => simp only [intOf]; omega
                · obtain rfl : i = LL.length := by omega
                  have hild : decide ((LL.length : Int) < (LL.length : Int)) = false := decide_eq_false (by omega)
                  have hnil : ¬ (LL.length : Int) < (LL.length : Int) := by omega
                  rw [List.take_length]
                  have hwc : IntKind.i64.wrap ((cntG l (LL.map fun y => (y.1 : Int)) j : Int) + 1) = (cntG l (LL.map fun y => (y.1 : Int)) j : Int) + 1 := IntWalk.i64_in _ (by omega)
                  have HW5 := Lib.hid (HXW.out.trans (HZ.out.mono HXW.out.size))
                  have HNB := Lib.hid (show (l.take (j + 1)).any badB = false by rw [HT.out, List.any_append, HX1.out]; simpa using HBF.out)
                  cases hsn : (s0 || LL.any fun y => (y.1 : Int) == x)
                  · rw [hsn] at HCS
                    go_wp2
                    go_roundw
                    case rel => exact ⟨⟨j + 1, hlt, rfl, by rw [HCS.out]; rfl, HNB.out, HW5.out⟩⟩
                    case measure => simp only [intOf]; omega
                  · rw [hsn] at HCS
                    go_wp2
                    go_roundw
                    case rel => exact ⟨⟨j + 1, hlt, rfl, by rw [HCS.out]; rfl, HNB.out, HW5.out⟩⟩
                    case measure => simp only [intOf]; omega
      · obtain rfl : k = l.length := by omega
        have hltd : decide ((l.length : Int) < (l.length : Int)) = false := decide_eq_false (by omega)
        have hnlt : ¬ (l.length : Int) < (l.length : Int) := by omega
        have hnb := HX.out.1
        rw [List.take_length] at hnb
        obtain rfl : ((cntG l (LL.map fun y => (y.1 : Int)) l.length : Int), (0 : Int)) = G := by rw [← hG.out, hnb]; rfl
        clear hnb
        go_wp2
        go_ret2
        exact ⟨rfl, HB2.out.trans (HX.out.2.mono HB2.out.size)⟩
end Go.Proofs.YtmgcgdkndkibgaaGreat
