/- solventref17.Places: all places of a configuration. -/
import Derived.Test.YtogmkbhbmmgidaaTe
namespace Go.Proofs.Ytogmkbhbmmgidaa
open Go.RowKit Go.Sl Go.ChangeMaps

def szN (c : CfgM) (a : Nat) : Int := if a = 0 then c.log else if a = 1 then c.image else if a = 2 then c.image else c.rows
def plsI (d a n : Nat) : List PlaceM := (List.range n).map fun i : Nat => ⟨(d : Int), (a : Int) + 1, (i : Int)⟩
def plsD (c : CfgM) (d n : Nat) : List PlaceM := (List.range n).flatMap fun a => plsI d a (szN c a).toNat
def plsL (c : CfgM) (n : Nat) : List PlaceM := (List.range n).flatMap fun d => plsD c d 4
def plsC (L : List PlaceM) : List Value := L.flatMap fun a => (plA a).toList
theorem plsI_succ (d a n : Nat) : plsI d a (n + 1) = plsI d a n ++ [⟨(d : Int), (a : Int) + 1, (n : Int)⟩] := by simp [plsI, List.range_succ]
theorem plsD_succ (c : CfgM) (d n : Nat) : plsD c d (n + 1) = plsD c d n ++ plsI d n (szN c n).toNat := by simp [plsD, List.range_succ]
theorem plsL_succ (c : CfgM) (n : Nat) : plsL c (n + 1) = plsL c n ++ plsD c n 4 := by simp [plsL, List.range_succ]
theorem plsC_append (L M : List PlaceM) : plsC (L ++ M) = plsC L ++ plsC M := by simp [plsC]
theorem plsC_one (a : PlaceM) : plsC [a] = (plA a).toList := by simp [plsC]
theorem plsC_at : ∀ (L : List PlaceM) (k : Nat) (a : PlaceM), L[k]? = some a → ∀ (j : Nat) (u : Value), (plA a).toList[j]? = some u → (plsC L)[k * 3 + j]? = some u
  | [], _, _, h, _, _, _ => by simp at h
  | b :: L, 0, a, h, j, u, hu => by
    simp at h; subst h
    show ((plA b).toList ++ plsC L)[0 * 3 + j]? = _
    rw [Nat.zero_mul, Nat.zero_add, List.getElem?_append_left (List.getElem?_eq_some_iff.1 hu).1]; exact hu
  | b :: L, k + 1, a, h, j, u, hu => by
    show ((plA b).toList ++ plsC L)[(k + 1) * 3 + j]? = _
    rw [show (k + 1) * 3 + j = (plA b).toList.length + (k * 3 + j) by show _ = 3 + _; omega, List.getElem?_append_right (Nat.le_add_right _ _), Nat.add_sub_cancel_left]
    exact plsC_at L k a (by simpa using h) j u hu

abbrev szA (c : CfgM) : Array Value := #[.int .i64 c.log, .int .i64 c.image, .int .i64 c.image, .int .i64 c.rows]
structure PlSt (w : World) (c : CfgM) (B g : Nat) (F : HProp) (L : List PlaceM) (bound : Nat) (o : Value) (wr : World) : Prop where
  same : Same w wr
  sat : Sat wr (ownAt TPl 3 o L.length (plsC L) * (pts B (.cells (cfgA c) TCfg (0, 0)) * (pts g (.cells (szA c) TInt (0, 0)) * F)))
  len : L.length ≤ bound
structure PlA (w : World) (c : CfgM) (B g : Nat) (F : HProp) (o d : Value) (wr : World) : Prop where
  st : ∃ k : Nat, (k : Int) ≤ c.disks ∧ d = .int .i64 k ∧ PlSt w c B g F (plsL c k) (96 * k) o wr
structure PlB (w : World) (c : CfgM) (B g : Nat) (F : HProp) (k : Nat) (o a : Value) (wr : World) : Prop where
  st : ∃ j : Nat, j ≤ 4 ∧ a = .int .i64 j ∧ PlSt w c B g F (plsL c k ++ plsD c k j) (96 * k + 24 * j) o wr
structure PlC (w : World) (c : CfgM) (B g : Nat) (F : HProp) (k j : Nat) (o i : Value) (wr : World) : Prop where
  st : ∃ m : Nat, (m : Int) ≤ max 0 (szN c j) ∧ i = .int .i64 m ∧ PlSt w c B g F (plsL c k ++ plsD c k j ++ plsI k j m) (96 * k + 24 * j + m) o wr

theorem info_TPl3 : (Try.prog.info? TPl).map (fun i => (i.zero, i.size, i.bytes)) = some (some (.agg #[.int .i64 0, .int .i64 0, .int .i64 0]), 3, 24) := by kernel_rfl
theorem szA_at (c : CfgM) {j : Nat} (h : j < 4) : (szA c)[j]? = some (.int .i64 (szN c j)) := by
  match j, h with
  | 0, _ => rfl
  | 1, _ => rfl
  | 2, _ => rfl
  | 3, _ => rfl
theorem PlSt.cells {w : World} {c : CfgM} {B g : Nat} {F : HProp} {L : List PlaceM} {bound : Nat} {o : Value} {wr : World} (h : PlSt w c B g F L bound o wr) :
    wr.cell? ⟨B, 0, none⟩ = some (.int .i64 c.disks) ∧ (∀ j, j < 4 → wr.cell? ⟨g, j, none⟩ = some (.int .i64 (szN c j))) ∧ ∃ ao cap, o = .slice ao L.length cap := by
  refine ⟨cells_at h.sat.right.block 0, fun j hj => ?_, ownAt_slice h.sat⟩
  rw [cells_at h.sat.right.right.block]; exact szA_at c hj

set_option maxRecDepth 20000 in
set_option maxHeartbeats 2000000 in
theorem places_any (c : CfgM) (F : HProp) (w : World) (hF : Sat w F) (hd : 0 ≤ c.disks ∧ c.disks ≤ 6) (hs : ∀ j, j < 4 → 0 ≤ szN c j ∧ szN c j ≤ 24) :
    Calls Try.prog 25 #[.agg (cfgA c)] w fun e w' => ∃ v, e = .returned v ∧ Hid (Same w w' ∧ Sat w' (ownAt TPl 3 v (plsL c c.disks.toNat).length (plsC (plsL c c.disks.toNat)) * F) ∧ (plsL c c.disks.toNat).length ≤ 96 * c.disks.toNat) := by
  have HD := Lib.hid (And.intro hd hs)
  have H0 := Lib.hid (And.intro ((Same.refl w).alloc (.cells (cfgA c) TCfg)) (hF.alloc (.cells (cfgA c) TCfg)))
  clear hd hs hF
  go_enter Try.func25, Try.ntmps25
  go_upto_region 2 with (fail)
  have hst : PlSt w c w.heap.size (w.heap.size + 1) F (plsL c 0) (96 * 0) (.slice none 0 0) ((w.alloc (.cells (cfgA c) TCfg)).alloc (.cells (szA c) TInt)) := ⟨H0.out.1.alloc _, by
    have := H0.out.2.alloc (.cells (szA c) TInt)
    rw [World.size_alloc] at this
    exact ownAt_nil.2 (this.perm (by ac_rfl)), Nat.zero_le _⟩
  have HST := Lib.hid hst
  clear hst H0
  generalize w.heap.size + 1 = g at HST ⊢
  generalize w.heap.size = B at HST ⊢
  generalize (w.alloc (.cells (cfgA c) TCfg)).alloc (.cells (szA c) TInt) = w1 at HST ⊢
  obtain ⟨c0, c1, _⟩ := HST.out.cells
  clear c1
  go_wp2
  go_loopw [4, 5] (fun o d wr => PlA w c B g F o d wr) (fun _ d _ => c.disks.toNat - (intOf d).toNat)
  case atStart => exact ⟨0, HD.out.1.1, rfl, HST.out⟩
  case round =>
    clear HST c0
    obtain ⟨k, hk, rfl, hs⟩ := hrel.st
    clear hrel
    obtain ⟨c0, c1, ao, cap, rfl⟩ := hs.cells
    clear c1
    have H1 := Lib.hid hs
    clear hs
    by_cases hlt : (k : Int) < c.disks
    case neg =>
      have hltd : decide ((k : Int) < c.disks) = false := decide_eq_false hlt
      have hke : k = c.disks.toNat := by omega
      go_wp2
      go_ret
      subst hke
      exact ⟨_, rfl, H1.out.same, (H1.out.sat.perm (show _ = pts B (.cells (cfgA c) TCfg (0, 0)) * (pts g (.cells (szA c) TInt (0, 0)) * (ownAt TPl 3 _ _ _ * F)) from by ac_rfl)).right.right, H1.out.len⟩
    have hltd : decide ((k : Int) < c.disks) = true := decide_eq_true hlt
    have hk6 : (k : Int) ≤ 6 := by have := HD.out.1.2; omega
    have HK := Lib.hid (And.intro hlt hk6)
    clear hlt hk
    obtain ⟨wo, rfl⟩ : ∃ wo : World, wo = wr := ⟨_, rfl⟩
    go_wp2
    go_loopw [4, 6] (fun o a wr => PlB w c B g F k o a wr) (fun _ a _ => 4 - (intOf a).toNat)
    case atStart => exact ⟨0, by omega, rfl, by have := H1.out; simpa [plsD] using this⟩
    case round =>
      clear H1 c0
      obtain ⟨j, hj, rfl, hs⟩ := hrel.st
      clear hrel
      obtain ⟨c0, c1, ao, cap, rfl⟩ := hs.cells
      clear c0
      have H1 := Lib.hid hs
      clear hs
      by_cases hj4 : j < 4
      case neg =>
        have hjd : decide ((j : Int) < 4) = false := decide_eq_false (by omega)
        obtain rfl : j = 4 := by omega
        clear c1
        go_wp2
        go_roundw
        case rel =>
          refine ⟨⟨k + 1, by have := HK.out; omega, rfl, ?_⟩⟩
          rw [plsL_succ]
          exact ⟨H1.out.same, H1.out.sat, by have := H1.out.len; omega⟩
        case measure => have := HK.out; simp only [intOf]; omega
      have hjd : decide ((j : Int) < 4) = true := decide_eq_true (by omega)
      have hj0 : (j : Int) ≤ 4 := by omega
      clear c1
      obtain ⟨wp, rfl⟩ : ∃ wp : World, wp = wr := ⟨_, rfl⟩
      go_wp2
      go_loopw [4, 7] (fun o i wr => PlC w c B g F k j o i wr) (fun _ i _ => (szN c j).toNat - (intOf i).toNat)
      case atStart => exact ⟨0, by omega, rfl, by have := H1.out; simpa [plsI] using this⟩
      case round =>
        clear H1
        obtain ⟨m, hm, rfl, hs⟩ := hrel.st
        clear hrel
        obtain ⟨c0, c1', ao, cap, rfl⟩ := hs.cells
        have c1 := c1' j hj4
        clear c0 c1'
        have hsz := HD.out.2 j hj4
        have H1 := Lib.hid hs
        clear hs
        have hj0' : (0 : Int) ≤ (j : Int) := by omega
        have hj4' : (j : Int) < 4 := by omega
        by_cases hml : (m : Int) < szN c j
        case neg =>
          have hmd : decide ((m : Int) < szN c j) = false := decide_eq_false hml
          have hmm : m = (szN c j).toNat := by omega
          go_wp2
          go_roundw
          case rel =>
            refine ⟨⟨j + 1, hj4, rfl, ?_⟩⟩
            rw [plsD_succ, ← List.append_assoc, ← hmm]
            exact ⟨H1.out.same, H1.out.sat, by have := H1.out.len; omega⟩
          case measure => simp only [intOf]; omega
        have hmd : decide ((m : Int) < szN c j) = true := decide_eq_true hml
        have hm24 : (m : Int) ≤ 24 := by omega
        have hlen := H1.out.len
        generalize hLL : plsL c k ++ plsD c k j ++ plsI k j m = L at H1 hlen ⊢
        have HLL := Lib.hid hLL
        have HLN := Lib.hid (show L.length ≤ 100000 by omega)
        clear hLL hlen
        obtain ⟨ti, hti, hz0, hts, hz2⟩ := info_parts info_TPl3
        go_wp2_with (at_builtin; refine wpList_append_ownAt (F := pts B (.cells (cfgA c) TCfg (0, 0)) * (pts g (.cells (szA c) TInt (0, 0)) * F)) rfl _ _ 61 TPl rfl ti _ Try.underlying61 hti hz0 hts hz2 rfl (H1.out.sat.allocKeep _) (plA ⟨(k : Int), (j : Int) + 1, (m : Int)⟩).toList rfl rfl rfl ?_ (by simp [Value.oneCell']) (by have := HLN.out; unfold maxLen; omega) (by have := HLN.out; omega) ?_)
        intro v' w2 h2
        go_wp2
        go_roundw
        case rel =>
          refine ⟨⟨m + 1, by omega, rfl, ?_⟩⟩
          rw [plsI_succ, ← List.append_assoc, HLL.out]
          refine ⟨(H1.out.same.alloc _).trans h2.out.1, ?_, ?_⟩
          · rw [List.length_append, plsC_append, plsC_one]; exact h2.out.2
          · rw [List.length_append]; have := H1.out.len; simp; omega
        case measure => simp only [intOf]; omega

theorem size_szN (c : CfgM) {a : Nat} (h : a < 4) : c.size ((a : Int) + 1) = szN c a := by
  match a, h with
  | 0, _ => rfl
  | 1, _ => rfl
  | 2, _ => rfl
  | 3, _ => rfl
theorem pls_number {S : ShelfM} (hw : S.WF) {b : PlaceM} (hb : b ∈ plsL S.cfg S.cfg.disks.toNat) : 0 ≤ S.number b := by
  unfold plsL plsD plsI at hb
  simp only [List.mem_flatMap, List.mem_range, List.mem_map] at hb
  obtain ⟨d, hd, a, ha, i, hi, rfl⟩ := hb
  have hst : S.state (d : Int) ≠ 0 := by
    intro h
    exact ((ShelfM.state_pos hw).1 h) ⟨by omega, by rw [hw.bays]; omega⟩
  have hsz := size_szN S.cfg ha
  unfold ShelfM.number
  have hbase : 0 ≤ S.cfg.base ((a : Int) + 1) := by
    have := hw.cfg.log; have := hw.cfg.image
    unfold CfgM.base
    split; omega
    split; omega
    split; omega
    split <;> omega
  rw [if_neg]
  · simp only; omega
  · simp only
    rw [hsz]
    omega

end Go.Proofs.Ytogmkbhbmmgidaa
