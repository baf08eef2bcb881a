/- solventref28: find, Snap, Clone, Restore, Parts. Printed by ar.py. -/
import Derived.Test.YtmgcgdkndkibgaaGreatAu
import Derived.Test.YtmgcgdkndkibgaaGreatUb
import Derived.Test.YtmgcgdkndkibgaaGreatUc
namespace Go.Proofs.YtmgcgdkndkibgaaGreat
open Go.RowKit Go.Vol Go.Sl

def findM (L : List PartM) (id : Int) : List (Nat × Int) × Bool := match L.find? (fun p => p.id == id) with
  | none => ([], false)
  | some p => (items p.m, true)
set_option maxRecDepth 20000 in
theorem findM_len (L : List PartM) (v : Int) : (findM L v).1.length ≤ 4096 := by
  unfold findM
  split
  · decide
  · exact items_le _
set_option maxRecDepth 20000 in
theorem contM_find (S : SpaceM) (v : Int) : contM S v = ((findM S.vols v).1, if (findM S.vols v).2 then 0 else 12) := by
  unfold contM findM volF
  cases S.vols.find? (fun p => p.id == v) <;> rfl
set_option maxRecDepth 20000 in
theorem imageM_find (S : SpaceM) (v : Int) : imageM S v = ((findM S.snaps v).1, if (findM S.snaps v).2 then 0 else 12) := by
  unfold imageM findM snapF
  cases S.snaps.find? (fun p => p.id == v) <;> rfl
theorem findM_no {L : List PartM} {v : Int} (h : (findM L v).2 = false) : (findM L v).1 = [] := by
  unfold findM at *
  cases hf : L.find? (fun p => p.id == v) with
  | none => rfl
  | some p => rw [hf] at h; cases h
set_option maxRecDepth 20000 in
set_option maxHeartbeats 2000000 in
theorem rfind_any {ok : Nat → Prop} (v : Value) (L : List PartM) (id : Int) (w : World) (hv : RefL ok w v L) (hl : L.length ≤ 1000) :
    Calls Tryz.prog 41 #[v, .int .i64 id] w fun e w' => ∃ a c, e = .returned (.tuple #[.slice a (findM L id).1.length c, .bool (findM L id).2]) ∧ Hid (Below w.heap.size w w' ∧ RowsAt w' (.slice a (findM L id).1.length c) (findM L id).1.length ((findM L id).1.flatMap refE)) := by
  obtain ⟨va, vc, rfl, hvc, hvm⟩ := hv.slice
  have HV := Lib.hid hv
  clear hv
  go_enter Tryz.func41, Tryz.ntmps41
  go_wp2
  go_loopw [6] (fun i wr => TenSt w L id i wr) (fun i _ => L.length - (intOf i).toNat)
  case atStart => exact ⟨⟨0, Nat.zero_le _, rfl, rfl, Below.refl _ _⟩⟩
  case round =>
    obtain ⟨k, hk, rfl, hf, hbw⟩ := hrel.st
    clear hrel
    have HF := Lib.hid (And.intro hf hbw)
    by_cases hlt : k < L.length
    · have hltd : decide ((k : Int) < (L.length : Int)) = true := decide_eq_true (by omega)
      have hki : (k : Int) ≤ 1000 := by omega
      obtain ⟨x, hx⟩ : ∃ x, L[k]? = some x := ⟨_, List.getElem?_eq_getElem hlt⟩
      obtain ⟨g, pa, pc, hva, hg, e0, e1, e2, e3, hrow⟩ := part_at HV.out hx
      cases hva
      have e0 := (hbw.cell (p := ⟨g, k * 4, none⟩) hg).trans e0
      have e3 := (hbw.cell (p := ⟨g, k * 4 + 3, none⟩) hg).trans e3
      have hst := find_step hx hf
      have hwk : IntKind.i64.wrap ((k : Int) + 1) = (k : Int) + 1 := IntWalk.i64_in _ (by omega)
      by_cases hid : x.id = id
      · have HI := Lib.hid (show findM L id = (items x.m, true) by unfold findM; rw [hst.1 hid])
        have hidd : (x.id == id) = true := by simpa using hid
        have HR := Lib.hid hrow
        clear hst hid hx hf hbw e1 e2 hrow
        go_wp2
        go_ret2
        rw [HI.out]
        exact ⟨_, _, rfl, HF.out.2, (HR.out.below HF.out.2).rows⟩
      · have HI := Lib.hid (hst.2 hid)
        have hidd : (x.id == id) = false := by simpa using hid
        clear hst hid hx hf hbw e1 e2 e3 hrow
        go_wp2
        refine ⟨⟨⟨k + 1, by omega, by rw [Int.natCast_add]; rfl, HI.out, HF.out.2⟩⟩, by simp only [intOf]; omega⟩
    · have hke : k = L.length := by omega
      have hltd : decide ((k : Int) < (L.length : Int)) = false := decide_eq_false (by omega)
      have hnlt : ¬ (k : Int) < (L.length : Int) := by omega
      have HI := Lib.hid (show findM L id = ([], false) by rw [hke, List.take_length] at hf; unfold findM; rw [hf])
      clear hf hbw
      go_wp2
      go_ret2
      rw [HI.out]
      exact ⟨_, _, rfl, HF.out.2, RowsAt.nil _⟩

set_option maxRecDepth 20000 in
set_option maxHeartbeats 2000000 in
theorem rsnap28_any {ok : Nat → Prop} (vv vs : Value) (S : SpaceM) (v : Int) (w : World) (hS : RefAt ok w vv vs S) (hwf : S.WF) :
    Calls Tryz.prog 19 #[.agg #[vv, vs], .int .i64 v] w fun e w' => e = .returned (.tuple #[.int .i64 ((contM S v).1.length : Int), .int .i64 (contM S v).2]) ∧ Below w.heap.size w w' := by
  obtain ⟨va, vc, rfl, hvc, hvm⟩ := hS.v.slice
  obtain ⟨sa, sc, rfl, hsc, hsm⟩ := hS.s.slice
  have hb0 := (Below.refl w.heap.size w).alloc (Nat.le_refl _) (.cells #[.slice va S.vols.length vc, .slice sa S.snaps.length sc] TRS)
  have hblk := heap_alloc_new w (.cells #[.slice va S.vols.length vc, .slice sa S.snaps.length sc] TRS)
  have HFD := Lib.hid (rfind_any _ S.vols v (w.alloc (.cells #[.slice va S.vols.length vc, .slice sa S.snaps.length sc] TRS)) (hS.v.below hb0) (by have := hwf.vlen; omega))
  have HM := Lib.hid (contM_find S v)
  have HB := Lib.hid hb0
  clear hS hvc hvm hsc hsm hb0 hblk hwf
  have hno := findM_no (L := S.vols) (v := v)
  generalize findM S.vols v = R at HFD HM hno
  obtain ⟨LL, bb⟩ := R
  cases bb
  · obtain rfl : LL = [] := hno rfl
    clear hno
    go_enter Tryz.func19, Tryz.ntmps19
    go_wp2_with (go_at_call 41; refine HFD.out.mono ?_; rintro e W2 ⟨a, c, rfl, h2⟩)
    go_ret2
    exact ⟨by rw [HM.out]; rfl, HB.out.trans (h2.out.1.mono HB.out.size)⟩
  · clear hno
    go_enter Tryz.func19, Tryz.ntmps19
    go_wp2_with (go_at_call 41; refine HFD.out.mono ?_; rintro e W2 ⟨a, c, rfl, h2⟩)
    go_ret2
    exact ⟨by rw [HM.out]; rfl, HB.out.trans (h2.out.1.mono HB.out.size)⟩

set_option maxRecDepth 20000 in
set_option maxHeartbeats 2000000 in
theorem rclone28_any {ok : Nat → Prop} (vv vs : Value) (S : SpaceM) (v : Int) (w : World) (hS : RefAt ok w vv vs S) (hwf : S.WF) :
    Calls Tryz.prog 21 #[.agg #[vv, vs], .int .i64 v] w fun e w' => e = .returned (.tuple #[.int .i64 ((imageM S v).1.length : Int), .int .i64 (imageM S v).2]) ∧ Below w.heap.size w w' := by
  obtain ⟨va, vc, rfl, hvc, hvm⟩ := hS.v.slice
  obtain ⟨sa, sc, rfl, hsc, hsm⟩ := hS.s.slice
  have hb0 := (Below.refl w.heap.size w).alloc (Nat.le_refl _) (.cells #[.slice va S.vols.length vc, .slice sa S.snaps.length sc] TRS)
  have hblk := heap_alloc_new w (.cells #[.slice va S.vols.length vc, .slice sa S.snaps.length sc] TRS)
  have HFD := Lib.hid (rfind_any _ S.snaps v (w.alloc (.cells #[.slice va S.vols.length vc, .slice sa S.snaps.length sc] TRS)) (hS.s.below hb0) (by have := hwf.slen; omega))
  have HM := Lib.hid (imageM_find S v)
  have HB := Lib.hid hb0
  clear hS hvc hvm hsc hsm hb0 hblk hwf
  have hno := findM_no (L := S.snaps) (v := v)
  generalize findM S.snaps v = R at HFD HM hno
  obtain ⟨LL, bb⟩ := R
  cases bb
  · obtain rfl : LL = [] := hno rfl
    clear hno
    go_enter Tryz.func21, Tryz.ntmps21
    go_wp2_with (go_at_call 41; refine HFD.out.mono ?_; rintro e W2 ⟨a, c, rfl, h2⟩)
    go_ret2
    exact ⟨by rw [HM.out]; rfl, HB.out.trans (h2.out.1.mono HB.out.size)⟩
  · clear hno
    go_enter Tryz.func21, Tryz.ntmps21
    go_wp2_with (go_at_call 41; refine HFD.out.mono ?_; rintro e W2 ⟨a, c, rfl, h2⟩)
    go_ret2
    exact ⟨by rw [HM.out]; rfl, HB.out.trans (h2.out.1.mono HB.out.size)⟩

set_option maxRecDepth 20000 in
set_option maxHeartbeats 4000000 in
theorem rrest28_any {ok : Nat → Prop} (vv vs : Value) (S : SpaceM) (v s : Int) (w : World) (hS : RefAt ok w vv vs S) (hwf : S.WF) :
    Calls Tryz.prog 23 #[.agg #[vv, vs], .int .i64 v, .int .i64 s] w fun e w' => e = .returned (.tuple #[.int .i64 (restM S v s).1, .int .i64 (restM S v s).2]) ∧ Below w.heap.size w w' := by
  obtain ⟨va, vc, rfl, hvc, hvm⟩ := hS.v.slice
  obtain ⟨sa, sc, rfl, hsc, hsm⟩ := hS.s.slice
  have hb0 := (Below.refl w.heap.size w).alloc (Nat.le_refl _) (.cells #[.slice va S.vols.length vc, .slice sa S.snaps.length sc] TRS)
  have hblk := heap_alloc_new w (.cells #[.slice va S.vols.length vc, .slice sa S.snaps.length sc] TRS)
  have HF1 := Lib.hid (rfind_any _ S.vols v (w.alloc (.cells #[.slice va S.vols.length vc, .slice sa S.snaps.length sc] TRS)) (hS.v.below hb0) (by have := hwf.vlen; omega))
  have HF2 := Lib.hid (fun (W : World) (hb : Below (w.alloc (.cells #[.slice va S.vols.length vc, .slice sa S.snaps.length sc] TRS)).heap.size (w.alloc (.cells #[.slice va S.vols.length vc, .slice sa S.snaps.length sc] TRS)) W) => rfind_any _ S.snaps s W ((hS.s.below hb0).below hb) (by have := hwf.slen; omega))
  have HM := Lib.hid (show restM S v s = if (findM S.vols v).2 = true ∧ (findM S.snaps s).2 = true then (((findM S.snaps s).1.length : Int) - ((findM S.vols v).1.length : Int), 0) else (0, 12) from by
    unfold restM
    rw [contM_find, imageM_find]
    cases (findM S.vols v).2 <;> cases (findM S.snaps s).2 <;> simp)
  have HB := Lib.hid (And.intro hb0 hblk)
  have l1 := findM_len S.vols v
  have l2 := findM_len S.snaps s
  clear hS hvc hvm hsc hsm hb0 hblk hwf
  generalize findM S.vols v = R at HF1 HM l1
  generalize findM S.snaps s = R2 at HF2 HM l2
  obtain ⟨LL, bb⟩ := R
  obtain ⟨LL2, bb2⟩ := R2
  simp only at l1 l2
  have hws : IntKind.i64.wrap ((LL2.length : Int) - (LL.length : Int)) = (LL2.length : Int) - (LL.length : Int) := IntWalk.i64_in _ (by omega)
  cases bb <;> cases bb2
  all_goals
    go_enter Tryz.func23, Tryz.ntmps23
    go_upto_region 2 with (go_at_call 41; refine HF1.out.mono ?_; rintro e W2 ⟨a, c, rfl, h2⟩)
    have hbk := (h2.out.1.block _ (Array.getElem?_eq_some_iff.1 HB.out.2).1).trans HB.out.2
    have c0 := cells_at hbk 0; have c1 := cells_at hbk 1
    clear hbk
    go_wp2_with (go_at_call 41; refine (HF2.out _ h2.out.1).mono ?_; rintro e W3 ⟨a2, c2, rfl, h3⟩)
    go_ret2
    exact ⟨by rw [HM.out]; rfl, (HB.out.1.trans (h2.out.1.mono HB.out.1.size)).trans (h3.out.1.mono (by have := HB.out.1.size; have := h2.out.1.size; omega))⟩

set_option maxRecDepth 20000 in
set_option maxHeartbeats 4000000 in
theorem rparts28_any {ok : Nat → Prop} (vv vs : Value) (S : SpaceM) (t : Int) (w : World) (hS : RefAt ok w vv vs S) (hwf : S.WF) :
    Calls Tryz.prog 14 #[.agg #[vv, vs], .int .i64 t] w fun e w' => e = .returned (.tuple #[.int .i64 (tenN S.vols t : Int), .int .i64 (tenN S.snaps t : Int)]) ∧ Below w.heap.size w w' := by
  obtain ⟨va, vc, rfl, hvc, hvm⟩ := hS.v.slice
  obtain ⟨sa, sc, rfl, hsc, hsm⟩ := hS.s.slice
  have hb0 := (Below.refl w.heap.size w).alloc (Nat.le_refl _) (.cells #[.slice va S.vols.length vc, .slice sa S.snaps.length sc] TRS)
  have hblk := heap_alloc_new w (.cells #[.slice va S.vols.length vc, .slice sa S.snaps.length sc] TRS)
  have HB := Lib.hid (And.intro hb0 (And.intro hblk (And.intro (hS.v.below hb0) (hS.s.below hb0))))
  have hvl := hwf.vlen
  have hsl := hwf.slen
  clear hS hvc hvm hsc hsm hb0 hblk hwf
  go_enter Tryz.func14, Tryz.ntmps14
  go_wp2
  generalize w.alloc (.cells #[.slice va S.vols.length vc, .slice sa S.snaps.length sc] TRS) = w1 at HB ⊢
  go_loopw [6, 8] (fun n i wr => PaSt w1 S.vols t n i wr) (fun _ i _ => S.vols.length - (intOf i).toNat)
  case atStart => exact ⟨⟨0, Nat.zero_le _, rfl, rfl, Below.refl _ _⟩⟩
  case round =>
    obtain ⟨k, hk, rfl, rfl, HW⟩ := hrel.st
    clear hrel
    have hcl := tenN_le (S.vols.take k) t
    rw [List.length_take] at hcl
    have hbk := (HW.out.block _ (Array.getElem?_eq_some_iff.1 HB.out.2.1).1).trans HB.out.2.1
    have c0 := cells_at hbk 0; have c1 := cells_at hbk 1
    clear hbk
    by_cases hlt : k < S.vols.length
    · have hltd : decide ((k : Int) < (S.vols.length : Int)) = true := decide_eq_true (by omega)
      have hki : (k : Int) ≤ 64 := by omega
      obtain ⟨x, hx⟩ : ∃ x, S.vols[k]? = some x := ⟨_, List.getElem?_eq_getElem hlt⟩
      obtain ⟨g, pa, pc, hva, hg, e0, e1, e2, e3, hrow⟩ := part_at HB.out.2.2.1 hx
      cases hva
      have e1 := (HW.out.cell (p := ⟨g, k * 4 + 1, none⟩) hg).trans e1
      have HT := Lib.hid (tenN_take hx t)
      have hwk : IntKind.i64.wrap ((k : Int) + 1) = (k : Int) + 1 := IntWalk.i64_in _ (by omega)
      have hwt : IntKind.i64.wrap ((tenN (S.vols.take k) t : Int) + 1) = (tenN (S.vols.take k) t : Int) + 1 := IntWalk.i64_in _ (by omega)
      clear hx e0 e2 e3 hrow
      cases hid : (x.tenant == t)
      · go_wp2
        refine ⟨⟨⟨k + 1, by omega, by rw [Int.natCast_add]; rfl, by rw [HT.out, hid]; rfl, HW⟩⟩, by simp only [intOf]; omega⟩
      · go_wp2
        refine ⟨⟨⟨k + 1, by omega, by rw [Int.natCast_add]; rfl, by rw [HT.out, hid]; rfl, HW⟩⟩, by simp only [intOf]; omega⟩
    · obtain rfl : k = S.vols.length := by omega
      have hltd : decide ((S.vols.length : Int) < (S.vols.length : Int)) = false := decide_eq_false (by omega)
      have hnlt : ¬ (S.vols.length : Int) < (S.vols.length : Int) := by omega
      rw [List.take_length] at *
      go_wp2
      clear c0 c1
      go_loopw [7, 9] (fun n i wr => PaSt w1 S.snaps t n i wr) (fun _ i _ => S.snaps.length - (intOf i).toNat)
      case atStart => exact ⟨⟨0, Nat.zero_le _, rfl, rfl, HW⟩⟩
      case round =>
        clear HW
        obtain ⟨k, hk, rfl, rfl, HW⟩ := hrel.st
        clear hrel
        have hcl2 := tenN_le (S.snaps.take k) t
        rw [List.length_take] at hcl2
        have hbk := (HW.out.block _ (Array.getElem?_eq_some_iff.1 HB.out.2.1).1).trans HB.out.2.1
        have c0 := cells_at hbk 0; have c1 := cells_at hbk 1
        clear hbk
        by_cases hlt : k < S.snaps.length
        · have hltd : decide ((k : Int) < (S.snaps.length : Int)) = true := decide_eq_true (by omega)
          have hki : (k : Int) ≤ 256 := by omega
          obtain ⟨x, hx⟩ : ∃ x, S.snaps[k]? = some x := ⟨_, List.getElem?_eq_getElem hlt⟩
          obtain ⟨g, pa, pc, hva, hg, e0, e1, e2, e3, hrow⟩ := part_at HB.out.2.2.2 hx
          cases hva
          have e1 := (HW.out.cell (p := ⟨g, k * 4 + 1, none⟩) hg).trans e1
          have HT := Lib.hid (tenN_take hx t)
          have hwk : IntKind.i64.wrap ((k : Int) + 1) = (k : Int) + 1 := IntWalk.i64_in _ (by omega)
          have hwt : IntKind.i64.wrap ((tenN (S.snaps.take k) t : Int) + 1) = (tenN (S.snaps.take k) t : Int) + 1 := IntWalk.i64_in _ (by omega)
          clear hx e0 e2 e3 hrow
          cases hid : (x.tenant == t)
          · go_wp2
            refine ⟨⟨⟨k + 1, by omega, by rw [Int.natCast_add]; rfl, by rw [HT.out, hid]; rfl, HW⟩⟩, by simp only [intOf]; omega⟩
          · go_wp2
            refine ⟨⟨⟨k + 1, by omega, by rw [Int.natCast_add]; rfl, by rw [HT.out, hid]; rfl, HW⟩⟩, by simp only [intOf]; omega⟩
        · obtain rfl : k = S.snaps.length := by omega
          have hltd2 : decide ((S.snaps.length : Int) < (S.snaps.length : Int)) = false := decide_eq_false (by omega)
          have hnlt2 : ¬ (S.snaps.length : Int) < (S.snaps.length : Int) := by omega
          go_wp2
          go_ret2
          exact ⟨rfl, HB.out.1.trans (HW.out.mono HB.out.1.size)⟩
end Go.Proofs.YtmgcgdkndkibgaaGreat
