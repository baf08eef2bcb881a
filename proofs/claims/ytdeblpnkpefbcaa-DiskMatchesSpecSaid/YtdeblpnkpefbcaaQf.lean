/- solventref16.turn. -/
import Derived.Test.YtdeblpnkpefbcaaQe
import Derived.Test.YtdeblpnkpefbcaaDr
namespace Go.Proofs.Ytdeblpnkpefbcaa
open Go.RowKit Go.Sl Go.ChangeMaps

def bitU (k : Nat) : UInt8 := 1 <<< UInt8.ofNat k
theorem bitU_step {k : Nat} (h : k < 7) : 2 * ((bitU k).toNat : Int) % 256 = ((bitU (k + 1)).toNat : Int) := by
  rcases (show k = 0 ∨ k = 1 ∨ k = 2 ∨ k = 3 ∨ k = 4 ∨ k = 5 ∨ k = 6 by omega) with rfl | rfl | rfl | rfl | rfl | rfl | rfl <;> decide
theorem flip_len (l : List UInt8) (m : Nat) : (DiskM.flip l m).length = l.length := by unfold DiskM.flip; rw [List.length_set]
theorem bytesL_flip {l : List UInt8} {m : Nat} {y : UInt8} (hy : l[m / 8]? = some y) : (bytesL l).set (m / 8) (.int .u8 ((y ^^^ bitU (m % 8)).toNat : Int)) = bytesL (DiskM.flip l m) := by
  unfold bytesL DiskM.flip
  rw [List.map_set, List.getD_eq_getElem?_getD, hy]; rfl
structure TuSt2 (W : World) (m : Nat) (v i : Value) (wr : World) : Prop where
  st : wr = W ∧ ∃ k : Nat, k ≤ m ∧ i = .int .i64 (k : Int) ∧ v = .int .u8 ((bitU k).toNat : Int)
set_option maxRecDepth 20000 in
set_option maxHeartbeats 4000000 in
theorem rturn_any (vb : Value) (l : List UInt8) (m : Nat) (X : HProp) (w : World) (hX : Sat w X) (hb : ∃ R, Sat w (rowB TU8 vb l * R)) (hl : l.length = 64) (hm : m < 512) :
    Calls Try.prog 55 #[vb, .int .i64 (m : Int)] w fun e w' => ∃ v, e = .returned v ∧ Hid (Same w w' ∧ Sat w' (rowB TU8 v (DiskM.flip l m) * X)) := by
  obtain ⟨R, hb⟩ := hb
  obtain ⟨ao, cap, rfl, hc⟩ := bytes_cells hb
  obtain ⟨gb, rfl, ⟨hgb, hcap⟩, hcell⟩ := hc (by intro h; rw [h] at hl; simp at hl)
  have HB := Lib.hid hcell
  have HX := Lib.hid hX
  have HL := Lib.hid hl
  rw [hl]
  obtain ⟨y, hy⟩ : ∃ y, l[m / 8]? = some y := ⟨_, List.getElem?_eq_getElem (by omega)⟩
  have HY := Lib.hid hy
  have hq : wrap64 ((m : Int).tdiv 8) = ((m / 8 : Nat) : Int) := by rw [Int.tdiv_eq_ediv_of_nonneg (by omega)]; unfold wrap64; omega
  have hr : (m : Int).tmod 8 = ((m % 8 : Nat) : Int) := by rw [Int.tmod_eq_emod_of_nonneg (by omega)]; omega
  have hxr : bits .xor .u8 (y.toNat : Int) ((bitU (m % 8)).toNat : Int) = ((y ^^^ bitU (m % 8)).toNat : Int) := by rw [u8_xor_nat y.toNat (bitU (m % 8)).toNat y.toNat_lt (bitU (m % 8)).toNat_lt]; simp
  have HXR := Lib.hid hxr
  have hm8 : m / 8 < 64 := by omega
  have hmr : m % 8 ≤ 7 := by omega
  obtain ⟨q, hqq⟩ : ∃ q, m / 8 = q := ⟨_, rfl⟩
  obtain ⟨r, hrr⟩ : ∃ r, m % 8 = r := ⟨_, rfl⟩
  have HQ := Lib.hid hqq
  have HR := Lib.hid hrr
  rw [hqq] at hq hm8
  rw [hrr] at hr HXR hmr
  clear hxr
  obtain ⟨mi, hmi⟩ : ∃ mi : Int, (m : Int) = mi := ⟨_, rfl⟩
  rw [hmi] at hq hr ⊢
  clear hX hb hc hcell hy hqq hrr hm hmi hl
  obtain ⟨ti, hti, hz0, hts, hz2⟩ := info_parts info_u8
  go_enter Try.func55, Try.ntmps55
  go_upto_region 3 with (at_builtin; refine wpList_append_ownAt rfl _ _ 56 TU8 rfl ti _ Try.underlying56 hti hz0 hts hz2 rfl (ownAt_nil.2 HX.out) (bytesL l) rfl rfl (by rw [bytesL_len, HL.out]) (by intro j u hu; obtain ⟨hj, rfl⟩ := bytesL_at hu; rw [Addr.add_mid, Nat.zero_add]; exact HB.out j hj) (bytesL_one _) (by unfold maxLen; omega) (by omega) ?_; intro v1 w1 h1)
  have H1 := Lib.hid (show Same w w1 ∧ Sat w1 (ownAt TU8 1 v1 64 (bytesL l) * X) from by have h := h1.out; rw [List.nil_append, Nat.zero_add] at h; exact h)
  obtain ⟨g1, cp1, rfl, hc1⟩ := ownAt_cells H1.out.2 (by decide)
  have c1 : w1.cell? ⟨g1, q, none⟩ = some (.int .u8 (y.toNat : Int)) := hc1 q _ (by have := HY.out; rw [HQ.out] at this; unfold bytesL; rw [List.getElem?_map, this]; rfl)
  have f1 : w1.frozen? ⟨g1, q, none⟩ = false := by
    obtain ⟨g', cp', cur, e, _, _, hf, _, _⟩ := ownAt_block H1.out.2 (by decide)
    simp only [Value.slice.injEq, Option.some.injEq, Addr.mk.injEq] at e
    rw [e.1.1]; exact hf q
  clear h1 hc1 hti hz0 hts hz2
  have hqi : (q : Int) < 64 := by omega
  have hq0 : (0 : Int) ≤ (q : Int) := by omega
  have hr7 : (r : Int) ≤ 7 := by omega
  go_upto_region 5 with (fail)
  go_loopw [6, 7] (fun v i wr => TuSt2 w1 r v i wr) (fun _ i _ => r - (intOf i).toNat)
  case atStart => exact ⟨rfl, 0, Nat.zero_le _, rfl, congrArg (Value.int .u8) (show (1 : Int) = ((bitU 0).toNat : Int) from by decide)⟩
  case round =>
    obtain ⟨rfl, k, hk, rfl, rfl⟩ := hrel.st
    clear hrel
    by_cases hlt : k < r
    · have hltd : decide (k < r) = true := decide_eq_true hlt
      have hst := bitU_step (k := k) (by omega)
      have hw1 : IntKind.i64.wrap ((k : Int) + 1) = (k : Int) + 1 := IntWalk.i64_in _ (by omega)
      have HK := Lib.hid (And.intro hlt hst)
      clear hk hlt
      go_wp2
      go_roundw
      case rel => exact ⟨⟨rfl, k + 1, HK.out.1, rfl, by first | rfl | exact congrArg (Value.int .u8) HK.out.2⟩⟩
      case measure => have := HK.out.1; simp only [intOf]; omega
    · obtain rfl : k = r := by omega
      have hltd : decide (k < k) = false := decide_eq_false (by omega)
      clear hlt hk
      go_wp2
      go_ret
      rw [HXR.out]
      refine ⟨_, rfl, H1.out.1.setCell _ _, ?_⟩
      have h := ownAt_set H1.out.2 (by decide) rfl (j := q) (.int .u8 ((y ^^^ bitU k).toNat : Int))
      have hy := HY.out
      have e := bytesL_flip hy
      rw [HQ.out, HR.out] at e
      rw [e] at h
      have hfl : 64 = (DiskM.flip l m).length := by rw [flip_len, HL.out]
      have h2 : Sat _ (rowB TU8 (.slice (some ⟨g1, 0, none⟩) 64 cp1) (DiskM.flip l m) * X) := rowB_own (by rw [← hfl]; exact h)
      exact h2
end Go.Proofs.Ytdeblpnkpefbcaa
