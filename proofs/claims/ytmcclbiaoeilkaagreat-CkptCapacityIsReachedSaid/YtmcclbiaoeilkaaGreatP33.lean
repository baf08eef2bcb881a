import Derived.Test.YtmcclbiaoeilkaaGreatP32
import Derived.Test.YtmcclbiaoeilkaaGreatP12
import Derived.Test.YtmcclbiaoeilkaaGreatP10
/- Part 33 of a proof; the last part says what is proved. -/
section
namespace Go.Proofs.YtmcclbiaoeilkaaGreat
open Go.RowKit Go.Sl Go.ChangeMaps
def szN (c : CfgM) (a : Nat) : Int := if a = 0 then c.log else if a = 1 then c.image else if a = 2 then c.image else c.rows
def plsI (d a n : Nat) : List PlaceM := (List.range n).map fun i : Nat => ⟨(d : Int), (a : Int) + 1, (i : Int)⟩
def plsD (c : CfgM) (d n : Nat) : List PlaceM := (List.range n).flatMap fun a => plsI d a (szN c a).toNat
def plsL (c : CfgM) (n : Nat) : List PlaceM := (List.range n).flatMap fun d => plsD c d 4
def plsC (L : List PlaceM) : List Value := L.flatMap fun a => (plA a).toList
theorem plsI_succ (d a n : Nat) : plsI d a (n + 1) = plsI d a n ++ [⟨(d : Int), (a : Int) + 1, (n : Int)⟩] := by simp [plsI, List.range_succ]
theorem plsD_succ (c : CfgM) (d n : Nat) : plsD c d (n + 1) = plsD c d n ++ plsI d n (szN c n).toNat := by simp [plsD, List.range_succ]
theorem plsL_succ (c : CfgM) (n : Nat) : plsL c (n + 1) = plsL c n ++ plsD c n 4 := by simp [plsL, List.range_succ]
theorem plsC_append (L M : List PlaceM) : plsC (L ++ M) = plsC L ++ plsC M := by simp [plsC]
theorem plsC_one (a : PlaceM) : plsC [a] = (plA a).toList := by simp [plsC]
theorem plsC_at : ∀ (L : List PlaceM) (k : Nat) (a : PlaceM), L[k]? = some a → ∀ (j : Nat) (u : Value), (plA a).toList[j]? = some u → (plsC L)[k * 3 + j]? = some u
  | [], _, _, h, _, _, _ => by simp at h
  | b :: L, 0, a, h, j, u, hu => by
    simp at h; subst h
    show ((plA b).toList ++ plsC L)[0 * 3 + j]? = _
    rw [Nat.zero_mul, Nat.zero_add, List.getElem?_append_left (List.getElem?_eq_some_iff.1 hu).1]; exact hu
  | b :: L, k + 1, a, h, j, u, hu => by
    show ((plA b).toList ++ plsC L)[(k + 1) * 3 + j]? = _
    rw [show (k + 1) * 3 + j = (plA b).toList.length + (k * 3 + j) by show _ = 3 + _; omega, List.getElem?_append_right (Nat.le_add_right _ _), Nat.add_sub_cancel_left]
    exact plsC_at L k a (by simpa using h) j u hu
abbrev szA (c : CfgM) : Array Value := #[.int .i64 c.log, .int .i64 c.image, .int .i64 c.image, .int .i64 c.rows]
structure PlSt (w : World) (c : CfgM) (B g : Nat) (F : HProp) (L : List PlaceM) (bound : Nat) (o : Value) (wr : World) : Prop where
  same : Same w wr
  sat : Sat wr (ownAt TPl 3 o L.length (plsC L) * (pts B (.cells (cfgA c) TCfg (0, 0)) * (pts g (.cells (szA c) TInt (0, 0)) * F)))
  len : L.length ≤ bound
structure PlA (w : World) (c : CfgM) (B g : Nat) (F : HProp) (o d : Value) (wr : World) : Prop where
  st : ∃ k : Nat, (k : Int) ≤ c.disks ∧ d = .int .i64 k ∧ PlSt w c B g F (plsL c k) (96 * k) o wr
structure PlB (w : World) (c : CfgM) (B g : Nat) (F : HProp) (k : Nat) (o a : Value) (wr : World) : Prop where
  st : ∃ j : Nat, j ≤ 4 ∧ a = .int .i64 j ∧ PlSt w c B g F (plsL c k ++ plsD c k j) (96 * k + 24 * j) o wr
structure PlC (w : World) (c : CfgM) (B g : Nat) (F : HProp) (k j : Nat) (o i : Value) (wr : World) : Prop where
  st : ∃ m : Nat, (m : Int) ≤ max 0 (szN c j) ∧ i = .int .i64 m ∧ PlSt w c B g F (plsL c k ++ plsD c k j ++ plsI k j m) (96 * k + 24 * j + m) o wr
theorem info_TPl3 : (Tryz.prog.info? TPl).map (fun i => (i.zero, i.size, i.bytes)) = some (some (.agg #[.int .i64 0, .int .i64 0, .int .i64 0]), 3, 24) := by kernel_rfl
theorem szA_at (c : CfgM) {j : Nat} (h : j < 4) : (szA c)[j]? = some (.int .i64 (szN c j)) := by
  match j, h with
  | 0, _ => rfl
  | 1, _ => rfl
  | 2, _ => rfl
  | 3, _ => rfl
theorem PlSt.cells {w : World} {c : CfgM} {B g : Nat} {F : HProp} {L : List PlaceM} {bound : Nat} {o : Value} {wr : World} (h : PlSt w c B g F L bound o wr) :
    wr.cell? ⟨B, 0, none⟩ = some (.int .i64 c.disks) ∧ (∀ j, j < 4 → wr.cell? ⟨g, j, none⟩ = some (.int .i64 (szN c j))) ∧ ∃ ao cap, o = .slice ao L.length cap := by
  refine ⟨cells_at h.sat.right.block 0, fun j hj => ?_, ownAt_slice h.sat⟩
  rw [cells_at h.sat.right.right.block]; exact szA_at c hj
set_option maxRecDepth 20000 in
set_option maxHeartbeats 2000000 in
theorem places_any (c : CfgM) (F : HProp) (w : World) (hF : Sat w F) (hd : 0 ≤ c.disks ∧ c.disks ≤ 6) (hs : ∀ j, j < 4 → 0 ≤ szN c j ∧ szN c j ≤ 24) :
    Calls Tryz.prog 9 #[.agg (cfgA c)] w fun e w' => ∃ v, e = .returned v ∧ Hid (Same w w' ∧ Sat w' (ownAt TPl 3 v (plsL c c.disks.toNat).length (plsC (plsL c c.disks.toNat)) * F) ∧ (plsL c c.disks.toNat).length ≤ 96 * c.disks.toNat) := by
  have HD := Lib.hid (And.intro hd hs)
  have H0 := Lib.hid (And.intro ((Same.refl w).alloc (.cells (cfgA c) TCfg)) (hF.alloc (.cells (cfgA c) TCfg)))
  clear hd hs hF
  go_enter Tryz.func9, Tryz.ntmps9
  go_upto_region 2 with (fail)
  have hst : PlSt w c w.heap.size (w.heap.size + 1) F (plsL c 0) (96 * 0) (.slice none 0 0) ((w.alloc (.cells (cfgA c) TCfg)).alloc (.cells (szA c) TInt)) := ⟨H0.out.1.alloc _, by
    have := H0.out.2.alloc (.cells (szA c) TInt)
    rw [World.size_alloc] at this
    exact ownAt_nil.2 (this.perm (by ac_rfl)), Nat.zero_le _⟩
  have HST := Lib.hid hst
  clear hst H0
  generalize w.heap.size + 1 = g at HST ⊢
  generalize w.heap.size = B at HST ⊢
  generalize (w.alloc (.cells (cfgA c) TCfg)).alloc (.cells (szA c) TInt) = w1 at HST ⊢
  obtain ⟨c0, c1, _⟩ := HST.out.cells
  clear c1
  go_wp2
  go_loopw [4, 5] (fun o d wr => PlA w c B g F o d wr) (fun _ d _ => c.disks.toNat - (intOf d).toNat)
  case atStart => exact ⟨0, HD.out.1.1, rfl, HST.out⟩
  case round =>
    clear HST c0
    obtain ⟨k, hk, rfl, hs⟩ := hrel.st
    clear hrel
    obtain ⟨c0, c1, ao, cap, rfl⟩ := hs.cells
    clear c1
    have H1 := Lib.hid hs
    clear hs
    by_cases hlt : (k : Int) < c.disks
    case neg =>
      have hltd : decide ((k : Int) < c.disks) = false := decide_eq_false hlt
      have hke : k = c.disks.toNat := by omega
      go_wp2
      go_ret
      subst hke
      exact ⟨_, rfl, H1.out.same, (H1.out.sat.perm (show _ = pts B (.cells (cfgA c) TCfg (0, 0)) * (pts g (.cells (szA c) TInt (0, 0)) * (ownAt TPl 3 _ _ _ * F)) from by ac_rfl)).right.right, H1.out.len⟩
    have hltd : decide ((k : Int) < c.disks) = true := decide_eq_true hlt
    have hk6 : (k : Int) ≤ 6 := by have := HD.out.1.2; omega
    have HK := Lib.hid (And.intro hlt hk6)
    clear hlt hk
    obtain ⟨wo, rfl⟩ : ∃ wo : World, wo = wr := ⟨_, rfl⟩
    go_wp2
    go_loopw [4, 6] (fun o a wr => PlB w c B g F k o a wr) (fun _ a _ => 4 - (intOf a).toNat)
    case atStart => exact ⟨0, by omega, rfl, by have := H1.out; simpa [plsD] using this⟩
    case round =>
      clear H1 c0
      obtain ⟨j, hj, rfl, hs⟩ := hrel.st
      clear hrel
      obtain ⟨c0, c1, ao, cap, rfl⟩ := hs.cells
      clear c0
      have H1 := Lib.hid hs
      clear hs
      by_cases hj4 : j < 4
      case neg =>
        have hjd : decide ((j : Int) < 4) = false := decide_eq_false (by omega)
        obtain rfl : j = 4 := by omega
        clear c1
        go_wp2
        go_roundw
        case rel =>
          refine ⟨⟨k + 1, by have := HK.out; omega, rfl, ?_⟩⟩
          rw [plsL_succ]
          exact ⟨H1.out.same, H1.out.sat, by have := H1.out.len; omega⟩
        case measure => have := HK.out; simp only [intOf]; omega
      have hjd : decide ((j : Int) < 4) = true := decide_eq_true (by omega)
      have hj0 : (j : Int) ≤ 4 := by omega
      clear c1
      obtain ⟨wp, rfl⟩ : ∃ wp : World, wp = wr := ⟨_, rfl⟩
      go_wp2
      go_loopw [4, 7] (fun o i wr => PlC w c B g F k j o i wr) (fun _ i _ => (szN c j).toNat - (intOf i).toNat)
      case atStart => exact ⟨0, by omega, rfl, by have := H1.out; simpa [plsI] using this⟩
      case round =>
        clear H1
        obtain ⟨m, hm, rfl, hs⟩ := hrel.st
        clear hrel
        obtain ⟨c0, c1', ao, cap, rfl⟩ := hs.cells
        have c1 := c1' j hj4
        clear c0 c1'
        have hsz := HD.out.2 j hj4
        have H1 := Lib.hid hs
        clear hs
        have hj0' : (0 : Int) ≤ (j : Int) := by omega
        have hj4' : (j : Int) < 4 := by omega
        by_cases hml : (m : Int) < szN c j
        case neg =>
          have hmd : decide ((m : Int) < szN c j) = false := decide_eq_false hml
          have hmm : m = (szN c j).toNat := by omega
          go_wp2
          go_roundw
          case rel =>
            refine ⟨⟨j + 1, hj4, rfl, ?_⟩⟩
            rw [plsD_succ, ← List.append_assoc, ← hmm]
            exact ⟨H1.out.same, H1.out.sat, by have := H1.out.len; omega⟩
          case measure => simp only [intOf]; omega
        have hmd : decide ((m : Int) < szN c j) = true := decide_eq_true hml
        have hm24 : (m : Int) ≤ 24 := by omega
        have hlen := H1.out.len
        generalize hLL : plsL c k ++ plsD c k j ++ plsI k j m = L at H1 hlen ⊢
        have HLL := Lib.hid hLL
        have HLN := Lib.hid (show L.length ≤ 100000 by omega)
        clear hLL hlen
        obtain ⟨ti, hti, hz0, hts, hz2⟩ := info_parts info_TPl3
        go_wp2_with (at_builtin; refine wpList_append_ownAt (F := pts B (.cells (cfgA c) TCfg (0, 0)) * (pts g (.cells (szA c) TInt (0, 0)) * F)) rfl _ _ 34 TPl rfl ti _ Tryz.underlying34 hti hz0 hts hz2 rfl (H1.out.sat.allocKeep _) (plA ⟨(k : Int), (j : Int) + 1, (m : Int)⟩).toList rfl rfl rfl ?_ (by simp [Value.oneCell']) (by have := HLN.out; unfold maxLen; omega) (by have := HLN.out; omega) ?_)
        intro v' w2 h2
        go_wp2
        go_roundw
        case rel =>
          refine ⟨⟨m + 1, by omega, rfl, ?_⟩⟩
          rw [plsI_succ, ← List.append_assoc, HLL.out]
          refine ⟨(H1.out.same.alloc _).trans h2.out.1, ?_, ?_⟩
          · rw [List.length_append, plsC_append, plsC_one]; exact h2.out.2
          · rw [List.length_append]; have := H1.out.len; simp; omega
        case measure => simp only [intOf]; omega
theorem size_szN (c : CfgM) {a : Nat} (h : a < 4) : c.size ((a : Int) + 1) = szN c a := by
  match a, h with
  | 0, _ => rfl
  | 1, _ => rfl
  | 2, _ => rfl
  | 3, _ => rfl
theorem pls_number {S : ShelfM} (hw : S.WF) {b : PlaceM} (hb : b ∈ plsL S.cfg S.cfg.disks.toNat) : 0 ≤ S.number b := by
  unfold plsL plsD plsI at hb
  simp only [List.mem_flatMap, List.mem_range, List.mem_map] at hb
  obtain ⟨d, hd, a, ha, i, hi, rfl⟩ := hb
  have hst : S.state (d : Int) ≠ 0 := by
    intro h
    exact ((ShelfM.state_pos hw).1 h) ⟨by omega, by rw [hw.bays]; omega⟩
  have hsz := size_szN S.cfg ha
  unfold ShelfM.number
  have hbase : 0 ≤ S.cfg.base ((a : Int) + 1) := by
    have := hw.cfg.log; have := hw.cfg.image
    unfold CfgM.base
    split; omega
    split; omega
    split; omega
    split <;> omega
  rw [if_neg]
  · simp only; omega
  · simp only
    rw [hsz]
    omega
end Go.Proofs.YtmcclbiaoeilkaaGreat
end
section
namespace Go.Sl
open Go Go.RowKit
namespace ShelfM
theorem peek_in {S : ShelfM} (hw : S.WF) {b : PlaceM} (hb : 0 ≤ S.number b) : S.peek b = if S.state b.disk = 1 then ((S.disk b.disk).content (S.number b).toNat, true) else ([], false) := by
  unfold peek
  rw [if_neg (by omega)]
  by_cases h1 : S.state b.disk = 1
  · rw [if_pos h1, if_pos h1]
    have hn := disk_n hw h1
    have := (number_lt hw hb).2.2.2.2.2.2
    unfold DiskM.read
    rw [if_pos (DiskM.has_of hb (by rw [hn]; exact this))]
    rfl
  · rw [if_neg h1, if_neg h1]
end ShelfM
end Go.Sl
end
section
namespace Go.Proofs.YtmcclbiaoeilkaaGreat
open Go.RowKit Go.Sl Go.ChangeMaps
theorem cf_peek (args : Array Value) (w : World) : (callFunc 72 args).run Tryz.prog w = .ok (.enter 72 args) w := by kernel_rfl
set_option maxHeartbeats 400000 in
theorem peek1_any (q tB : Nat) (n : Int) (s : ByteArray) (D : DiskM) (F G : HProp) (w : World) (hS : Sat w (diskAt TD TS q D * ((pts tB (.cells #[.string s] TString (0, 0)) * F) * G))) :
    Calls Tryz.prog 72 (#[.agg #[ptrV q, .int .i64 1], .int .i64 n] ++ #[ptrV tB]) w fun e w' => e = .returned (.int .i64 (D.read n).2) ∧ Hid (Same w w' ∧ Sat w' (diskAt TD TS q D * ((pts tB (.cells #[.string (strB (D.read n).1)] TString (0, 0)) * F) * G))) := by
  have HS := Lib.hid hS
  have hp := hS.perm (show _ = pts tB (.cells #[.string s] TString (0, 0)) * (diskAt TD TS q D * (F * G)) from by ac_rfl)
  have c0 : w.cell? ⟨tB, 0, none⟩ = some (.string s) := cells_at hp.block 0
  have f0 : w.frozen? ⟨tB, 0, none⟩ = false := thawed_at hp.block 0
  have l0 := hp.lt
  have hrd := read_any q D ((pts tB (.cells #[.string s] TString (0, 0)) * F) * G) n (w.alloc (.cells #[ptrV q, .int .i64 1] TBay)) (hS.allocKeep _)
  obtain ⟨⟨t, k⟩, hr⟩ : ∃ r, D.read n = r := ⟨_, rfl⟩
  rw [hr] at hrd ⊢
  simp only at hrd ⊢
  clear hS hp hr
  show Calls Tryz.prog 72 #[.agg #[ptrV q, .int .i64 1], .int .i64 n, ptrV tB] w _
  unfold ptrV at hrd ⊢
  go_enter Tryz.func72, Tryz.ntmps72
  go_upto_region 3 with (go_at_call 73; refine hrd.mono ?_; rintro e w1 ⟨rfl, hb⟩; have c1 : w1.cell? ⟨tB, 0, none⟩ = some (.string s) := (hb.cell (p := ⟨tB, 0, none⟩) (by simp; omega)).trans ((World.cell?_alloc_lt _ _ _ l0).trans c0); have f1 : w1.frozen? ⟨tB, 0, none⟩ = false := thawed_at ((HS.out.allocKeep _).below hb |>.perm (show _ = pts tB (.cells #[.string s] TString (0, 0)) * (diskAt TD TS q D * (F * G)) from by ac_rfl)).block 0; have HB := Lib.hid hb; clear hb c0 f0)
  go_wp2
  go_ret
  refine ⟨rfl, (((Same.refl w).alloc _).below HB.out).setCell _ _, ?_⟩
  exact ((((HS.out.allocKeep _).below HB.out).perm (show _ = pts tB (.cells #[.string s] TString (0, 0)) * (diskAt TD TS q D * (F * G)) from by ac_rfl)).setCell (i := 0) _).perm (by show pts tB (.cells #[.string (strB t)] TString (0, 0)) * _ = _; ac_rfl)
def PeekOut (p : Nat) (S : ShelfM) (F : HProp) (r : List UInt8 × Bool) (w : World) (e : Ending) (w' : World) : Prop := e = .returned (.tuple #[.string (strB r.1), .bool r.2]) ∧ Same w w' ∧ Sat w' (shelfAt SH p S * F)
set_option maxHeartbeats 1000000 in
theorem peek_any (p : Nat) (S : ShelfM) (F : HProp) (a : PlaceM) (w : World) (hS : Sat w (shelfAt SH p S * F)) :
    Calls Tryz.prog 16 #[.pointer (some ⟨p, 0, none⟩), .agg (plA a)] w (PeekOut p S F (S.peek a) w) := by
  have hwf := shelfAt_wf hS
  have hA := ((hS.alloc (.cells (plA a) TPl)).alloc (.cells #[.string ⟨#[]⟩] TString))
  rw [World.size_alloc] at hA
  have hpk : S.peek a = if S.number a < 0 then ([], false) else if S.state a.disk = 1 then (((S.disk a.disk).read (S.number a)).1, decide (((S.disk a.disk).read (S.number a)).2 = 0)) else ([], false) := rfl
  by_cases h0 : S.number a < 0
  · rw [if_pos h0] at hpk
    rw [hpk]
    have hc := arm_bad p S (pts (w.heap.size + 1) (.cells #[.string ⟨#[]⟩] TString (0, 0)) * (pts w.heap.size (.cells (plA a) TPl (0, 0)) * F)) a true 72 #[ptrV (w.heap.size + 1)] _ (hA.perm (by ac_rfl)) (.inl h0)
    unfold ptrV at hc
    clear hpk h0 hA hS hwf
    go_enter Tryz.func16, Tryz.ntmps16
    go_upto_region 3 with (go_at_call 71; refine hc.mono ?_; rintro e w2 ⟨rfl, h2⟩; clear hc)
    have hs2 := h2.out.2.perm (show _ = pts (w.heap.size + 1) (.cells #[.string ⟨#[]⟩] TString (0, 0)) * (pts w.heap.size (.cells (plA a) TPl (0, 0)) * (shelfAt SH p S * F)) from by ac_rfl)
    have c0 : w2.cell? ⟨w.heap.size + 1, 0, none⟩ = some (.string ⟨#[]⟩) := cells_at hs2.block 0
    have HF := Lib.hid hs2.right.right
    clear hs2
    go_wp2
    go_ret2
    exact ⟨rfl, (((Same.refl w).alloc _).alloc _).trans h2.out.1, HF.out⟩
  · rw [if_neg h0] at hpk
    have hn0 : 0 ≤ S.number a := by omega
    have hin := ShelfM.state_in hwf (ShelfM.number_lt hwf hn0).1
    have hc := arm_do p S (pts (w.heap.size + 1) (.cells #[.string ⟨#[]⟩] TString (0, 0)) * (pts w.heap.size (.cells (plA a) TPl (0, 0)) * F)) (pts (w.heap.size + 1) (.cells #[.string (strB ((S.disk a.disk).read (S.number a)).1)] TString (0, 0)) * (pts w.heap.size (.cells (plA a) TPl (0, 0)) * F)) a 72 #[ptrV (w.heap.size + 1)] (S.disk a.disk) ((S.disk a.disk).read (S.number a)).2 cf_peek hn0 (fun _ => rfl)
      (fun _ w' q G h => peek1_any q _ _ _ _ _ G w' h) _ (hA.perm (by ac_rfl))
    unfold ptrV armR ArmOut at hc
    rw [ShelfM.setDisk_self hin.1 hin.2] at hc
    by_cases h1 : S.state a.disk = 1
    · rw [if_pos h1] at hpk
      rw [hpk]
      simp only [if_pos h1] at hc
      obtain ⟨⟨t, k⟩, hr⟩ : ∃ r, (S.disk a.disk).read (S.number a) = r := ⟨_, rfl⟩
      rw [hr] at hc ⊢
      simp only at hc ⊢
      clear hpk h0 hA hS hwf h1 hr hn0 hin
      by_cases hk : k = 0
      · rw [decide_eq_true hk]
        have hkb : (k == 0) = true := by simp [hk]
        clear hk
        go_enter Tryz.func16, Tryz.ntmps16
        go_upto_region 3 with (go_at_call 71; refine hc.mono ?_; rintro e w2 ⟨rfl, h2⟩; clear hc)
        have hs2 := h2.out.2.perm (show _ = pts (w.heap.size + 1) (.cells #[.string (strB t)] TString (0, 0)) * (pts w.heap.size (.cells (plA a) TPl (0, 0)) * (shelfAt SH p S * F)) from by ac_rfl)
        have c0 : w2.cell? ⟨w.heap.size + 1, 0, none⟩ = some (.string (strB t)) := cells_at hs2.block 0
        have HF := Lib.hid hs2.right.right
        clear hs2
        go_wp2
        go_ret2
        exact ⟨rfl, (((Same.refl w).alloc _).alloc _).trans h2.out.1, HF.out⟩
      · rw [decide_eq_false hk]
        have hkb : (k == 0) = false := by simp [hk]
        clear hk
        go_enter Tryz.func16, Tryz.ntmps16
        go_upto_region 3 with (go_at_call 71; refine hc.mono ?_; rintro e w2 ⟨rfl, h2⟩; clear hc)
        have hs2 := h2.out.2.perm (show _ = pts (w.heap.size + 1) (.cells #[.string (strB t)] TString (0, 0)) * (pts w.heap.size (.cells (plA a) TPl (0, 0)) * (shelfAt SH p S * F)) from by ac_rfl)
        have c0 : w2.cell? ⟨w.heap.size + 1, 0, none⟩ = some (.string (strB t)) := cells_at hs2.block 0
        have HF := Lib.hid hs2.right.right
        clear hs2
        go_wp2
        go_ret2
        exact ⟨rfl, (((Same.refl w).alloc _).alloc _).trans h2.out.1, HF.out⟩
    · rw [if_neg h1] at hpk
      rw [hpk]
      simp only [if_neg h1] at hc
      clear hpk h0 hA hS hwf h1 hn0 hin
      go_enter Tryz.func16, Tryz.ntmps16
      go_upto_region 3 with (go_at_call 71; refine hc.mono ?_; rintro e w2 ⟨rfl, h2⟩; clear hc)
      have hs2 := h2.out.2.perm (show _ = pts (w.heap.size + 1) (.cells #[.string ⟨#[]⟩] TString (0, 0)) * (pts w.heap.size (.cells (plA a) TPl (0, 0)) * (shelfAt SH p S * F)) from by ac_rfl)
      have c0 : w2.cell? ⟨w.heap.size + 1, 0, none⟩ = some (.string ⟨#[]⟩) := cells_at hs2.block 0
      have HF := Lib.hid hs2.right.right
      clear hs2
      go_wp2
      go_ret2
      exact ⟨rfl, (((Same.refl w).alloc _).alloc _).trans h2.out.1, HF.out⟩
end Go.Proofs.YtmcclbiaoeilkaaGreat
end
