/- strings.Repeat of one byte; ref.Same. -/
import Derived.Test.YtdeblpnkpefbcaaRp
import Derived.Test.YtdeblpnkpefbcaaDl
namespace Go.Proofs.Ytdeblpnkpefbcaa
open Go.RowKit Go.Sl Go.ChangeMaps

theorem repExtra : Builder.Extra Try.prog Try.repA_ren where
  sizeBuilder := by kernel_rfl
  liesBuilder := by kernel_rfl
  t5 := Try.repA.t5
  a5 := Try.repA.a5
  z5 := Try.repA.z5
  v5 := Try.repA.v5
  infoByte := by kernel_rfl
  cellsByte := by kernel_rfl
  sizeByte := by kernel_rfl
  neB5 := by decide
theorem repF : Try.repA_ren.f 105 = 19 := by kernel_rfl

theorem repeat_byte (b : UInt8) (w : World) :
    Calls Try.prog 19 #[.string ⟨#[b]⟩, .int .i64 64] w fun e w' => e = .returned (.string ⟨(List.replicate 64 b).toArray⟩) ∧ Below w.heap.size w w' := by
  have h := Any.strings_Repeat Try.repA repExtra ⟨#[b]⟩ 64 w (by omega) (by show 1 * 64 ≤ _; omega)
  rw [repF] at h
  refine h.mono fun e w' ⟨he, hw⟩ => ⟨?_, hw⟩
  rw [he]
  have := Lib.repeatL_replicate b 1 64
  simp at this
  simp [this]

structure SameSt (w : World) (la lb : List Int) (i : Value) (wr : World) : Prop where
  st : ∃ k : Nat, k ≤ la.length ∧ i = .int .i64 k ∧ la.take k = lb.take k ∧ Below w.heap.size w wr

theorem IntsAt.row {w wr : World} {v : Value} {l : List Int} (h : IntsAt w v l) (hb : Below w.heap.size w wr) : IntsAt wr v l := by
  obtain ⟨ao, c, rfl, h⟩ := h
  refine ⟨ao, c, rfl, fun hne => ?_⟩
  obtain ⟨b, off, rfl, hc⟩ := h hne
  exact ⟨b, off, rfl, fun j x hj => (hb.cell (World.block_lt_of_cell? _ _ (hc j x hj))).trans (hc j x hj)⟩

set_option maxHeartbeats 400000 in
theorem same_any (va vb : Value) (la lb : List Int) (w : World) (ha : IntsAt w va la) (hb : IntsAt w vb lb) (hm : la.length ≤ 4611686018427387904) :
    Calls Try.prog 32 #[va, vb] w fun e w' => e = .returned (.bool (decide (la = lb))) ∧ Below w.heap.size w w' := by
  obtain ⟨aa, ca, rfl, ha0⟩ := ha
  obtain ⟨ab, cb, rfl, hb0⟩ := hb
  by_cases hl : la.length = lb.length
  · by_cases hne : la = []
    · have hne' : lb = [] := by apply List.eq_nil_of_length_eq_zero; rw [← hl, hne]; rfl
      subst hne hne'
      clear ha0 hb0 hl
      go_enter Try.func32, Try.ntmps32
      go_wp2
      go_loopw [5] (fun i wr => i = .int .i64 0 ∧ wr = w) (fun i _ => 0)
      case atStart => exact ⟨rfl, rfl⟩
      case round =>
        obtain ⟨rfl, rfl⟩ := hrel
        go_wp2
        go_ret
        exact ⟨rfl, Below.refl _ _⟩
    obtain ⟨ba, oa, rfl, ha⟩ := ha0 hne
    obtain ⟨bb, ob, rfl, hb⟩ := hb0 (by rintro rfl; apply hne; apply List.eq_nil_of_length_eq_zero; rw [hl]; rfl)
    have hq : ((la.length : Int) != (lb.length : Int)) = false := by simp; omega
    have HL := Lib.hid hl
    have HA := Lib.hid ha
    have HB := Lib.hid hb
    obtain ⟨ti3, hti3, hz03, hts3, hz23⟩ := info_parts (show (Try.prog.info? 3).map (fun i => (i.zero, i.size, i.bytes)) = some (some (.int .i64 0), 1, 8) from by kernel_rfl)
    clear ha0 hb0 ha hb hl hz03 hz23
    go_enter Try.func32, Try.ntmps32
    go_wp2
    go_loopw [5] (fun i wr => SameSt w la lb i wr) (fun i _ => la.length - (intOf i).toNat)
    case atStart => exact ⟨⟨0, Nat.zero_le _, rfl, rfl, Below.refl _ _⟩⟩
    case round =>
      obtain ⟨k, hk, rfl, htk, hbw⟩ := hrel.st
      clear hrel
      have HT := Lib.hid htk
      have HBW := Lib.hid hbw
      by_cases hlt : k < la.length
      · have hltd : decide ((k : Int) < (la.length : Int)) = true := decide_eq_true (by omega)
        have hl2 := HL.out
        have hki : (k : Int) ≤ 4611686018427387904 := by omega
        obtain ⟨x, hx⟩ : ∃ x, la[k]? = some x := ⟨_, List.getElem?_eq_getElem hlt⟩
        obtain ⟨y, hy⟩ : ∃ y, lb[k]? = some y := ⟨_, List.getElem?_eq_getElem (by omega)⟩
        have hlt2 : k < lb.length := by omega
        have c1 : wr.cell? ⟨ba, oa + k * 1, none⟩ = some (.int .i64 x) := (hbw.cell (World.block_lt_of_cell? _ _ (HA.out k x hx))).trans (HA.out k x hx)
        have c2 : wr.cell? ⟨bb, ob + k * 1, none⟩ = some (.int .i64 y) := (hbw.cell (World.block_lt_of_cell? _ _ (HB.out k y hy))).trans (HB.out k y hy)
        have HX := Lib.hid hx
        have HY := Lib.hid hy
        clear hx hy hl2 htk hbw
        by_cases hxy : x = y
        · subst hxy
          have hn : (x != x) = false := by simp
          go_upto_region 6 with (fail)
          have hS0 : wr.drew.cell? ⟨ba, oa + k * 1, none⟩ = some (.int .i64 x) ∧ wr.drew.cell? ⟨bb, ob + k * 1, none⟩ = some (.int .i64 x) := ⟨c1, c2⟩
          refine reg_begin (fun w' => w'.cell? ⟨ba, oa + k * 1, none⟩ = some (.int .i64 x) ∧ w'.cell? ⟨bb, ob + k * 1, none⟩ = some (.int .i64 x)) (by kernel_rfl) ?_
          (apply reg_take 0 rfl rfl (by decide +kernel) rfl); (rintro w' ⟨h1, h2⟩; go_simp; rfl); exact hS0; simp only [List.setIfInBounds_toArray, List.set_cons_succ, List.set_cons_zero]
          (apply reg_take 1 rfl rfl (by decide +kernel) rfl); (rintro w' ⟨h1, h2⟩; go_simp; rfl); exact hS0; simp only [List.setIfInBounds_toArray, List.set_cons_succ, List.set_cons_zero]
          refine reg_take 2 (v := .pointer (some ⟨ba, oa + k * 1, none⟩)) rfl rfl (by decide +kernel) rfl (fun _ _ => exec_index_slice rfl rfl rfl Try.underlying30 hti3 hts3 hlt) hS0 ?_; simp only [List.setIfInBounds_toArray, List.set_cons_succ, List.set_cons_zero]
          refine reg_take 3 (v := .int .i64 x) rfl rfl (by decide +kernel) rfl (fun _ h => exec_load_cell rfl rfl Try.underlying3 rfl h.1) hS0 ?_; simp only [List.setIfInBounds_toArray, List.set_cons_succ, List.set_cons_zero]
          (apply reg_take 4 rfl rfl (by decide +kernel) rfl); (rintro w' ⟨h1, h2⟩; go_simp; rfl); exact hS0; simp only [List.setIfInBounds_toArray, List.set_cons_succ, List.set_cons_zero]
          (apply reg_take 5 rfl rfl (by decide +kernel) rfl); (rintro w' ⟨h1, h2⟩; go_simp; rfl); exact hS0; simp only [List.setIfInBounds_toArray, List.set_cons_succ, List.set_cons_zero]
          refine reg_take 6 (v := .pointer (some ⟨bb, ob + k * 1, none⟩)) rfl rfl (by decide +kernel) rfl (fun _ _ => exec_index_slice rfl rfl rfl Try.underlying30 hti3 hts3 hlt2) hS0 ?_; simp only [List.setIfInBounds_toArray, List.set_cons_succ, List.set_cons_zero]
          refine reg_take 7 (v := .int .i64 x) rfl rfl (by decide +kernel) rfl (fun _ h => exec_load_cell rfl rfl Try.underlying3 rfl h.2) hS0 ?_; simp only [List.setIfInBounds_toArray, List.set_cons_succ, List.set_cons_zero]
          (apply reg_take 8 rfl rfl (by decide +kernel) rfl); (rintro w' ⟨h1, h2⟩; go_simp; rfl); exact hS0; simp only [List.setIfInBounds_toArray, List.set_cons_succ, List.set_cons_zero]
          refine reg_done (by decide +kernel) ?_
          go_wp2
          go_roundw
          case rel =>
            refine ⟨⟨k + 1, hlt, rfl, ?_, HBW.out.drew⟩⟩
            rw [List.take_add_one, List.take_add_one, HT.out, HX.out, HY.out]
          case measure =>
            simp only [intOf]; omega
        · have hn : (x != y) = true := by simp [hxy]
          go_upto_region 6 with (fail)
          have hS0 : wr.drew.cell? ⟨ba, oa + k * 1, none⟩ = some (.int .i64 x) ∧ wr.drew.cell? ⟨bb, ob + k * 1, none⟩ = some (.int .i64 y) := ⟨c1, c2⟩
          refine reg_begin (fun w' => w'.cell? ⟨ba, oa + k * 1, none⟩ = some (.int .i64 x) ∧ w'.cell? ⟨bb, ob + k * 1, none⟩ = some (.int .i64 y)) (by kernel_rfl) ?_
          (apply reg_take 0 rfl rfl (by decide +kernel) rfl); (rintro w' ⟨h1, h2⟩; go_simp; rfl); exact hS0; simp only [List.setIfInBounds_toArray, List.set_cons_succ, List.set_cons_zero]
          (apply reg_take 1 rfl rfl (by decide +kernel) rfl); (rintro w' ⟨h1, h2⟩; go_simp; rfl); exact hS0; simp only [List.setIfInBounds_toArray, List.set_cons_succ, List.set_cons_zero]
          refine reg_take 2 (v := .pointer (some ⟨ba, oa + k * 1, none⟩)) rfl rfl (by decide +kernel) rfl (fun _ _ => exec_index_slice rfl rfl rfl Try.underlying30 hti3 hts3 hlt) hS0 ?_; simp only [List.setIfInBounds_toArray, List.set_cons_succ, List.set_cons_zero]
          refine reg_take 3 (v := .int .i64 x) rfl rfl (by decide +kernel) rfl (fun _ h => exec_load_cell rfl rfl Try.underlying3 rfl h.1) hS0 ?_; simp only [List.setIfInBounds_toArray, List.set_cons_succ, List.set_cons_zero]
          (apply reg_take 4 rfl rfl (by decide +kernel) rfl); (rintro w' ⟨h1, h2⟩; go_simp; rfl); exact hS0; simp only [List.setIfInBounds_toArray, List.set_cons_succ, List.set_cons_zero]
          (apply reg_take 5 rfl rfl (by decide +kernel) rfl); (rintro w' ⟨h1, h2⟩; go_simp; rfl); exact hS0; simp only [List.setIfInBounds_toArray, List.set_cons_succ, List.set_cons_zero]
          refine reg_take 6 (v := .pointer (some ⟨bb, ob + k * 1, none⟩)) rfl rfl (by decide +kernel) rfl (fun _ _ => exec_index_slice rfl rfl rfl Try.underlying30 hti3 hts3 hlt2) hS0 ?_; simp only [List.setIfInBounds_toArray, List.set_cons_succ, List.set_cons_zero]
          refine reg_take 7 (v := .int .i64 y) rfl rfl (by decide +kernel) rfl (fun _ h => exec_load_cell rfl rfl Try.underlying3 rfl h.2) hS0 ?_; simp only [List.setIfInBounds_toArray, List.set_cons_succ, List.set_cons_zero]
          (apply reg_take 8 rfl rfl (by decide +kernel) rfl); (rintro w' ⟨h1, h2⟩; go_simp; rfl); exact hS0; simp only [List.setIfInBounds_toArray, List.set_cons_succ, List.set_cons_zero]
          refine reg_done (by decide +kernel) ?_
          go_wp2
          go_ret
          have hd : decide (la = lb) = false := decide_eq_false (by rintro rfl; apply hxy; have h1 := HX.out; rw [HY.out] at h1; exact (Option.some.inj h1).symm)
          rw [hd]
          exact ⟨rfl, HBW.out.drew⟩
      · have hke : k = la.length := by omega
        have hltd : decide ((k : Int) < (la.length : Int)) = false := decide_eq_false (by omega)
        clear htk hbw
        go_wp2
        go_ret
        have hd : decide (la = lb) = true := decide_eq_true (by have := HT.out; rwa [hke, List.take_length, HL.out, List.take_length] at this)
        rw [hd]
        exact ⟨rfl, HBW.out⟩
  · have hq : ((la.length : Int) != (lb.length : Int)) = true := by simp; omega
    have hd : decide (la = lb) = false := decide_eq_false (by rintro rfl; exact hl rfl)
    rw [hd]
    clear hl ha0 hb0 hd
    go_enter Try.func32, Try.ntmps32
    go_wp2
    go_ret
    exact ⟨rfl, Below.refl _ _⟩

end Go.Proofs.Ytdeblpnkpefbcaa
