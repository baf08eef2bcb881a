/- usage: Parts, Snap, Clone, Restore. Printed by au.py. -/
import Derived.Test.YtmgcgdkndkibgaaGreatWv
import Derived.Test.YtmgcgdkndkibgaaGreatWc
namespace Go.Proofs.YtmgcgdkndkibgaaGreat
open Go.RowKit Go.Vol Go.Sl

/-- How many parts a tenant has. -/
def tenN (L : List PartM) (t : Int) : Nat := (L.filter fun p => p.tenant == t).length
theorem tenN_take {L : List PartM} {k : Nat} {x : PartM} (h : L[k]? = some x) (t : Int) : tenN (L.take (k + 1)) t = tenN (L.take k) t + if x.tenant == t then 1 else 0 := by
  unfold tenN
  rw [List.take_add_one, h, List.filter_append, List.length_append]
  cases hx : (x.tenant == t) <;> simp [hx]
theorem tenN_le (L : List PartM) (t : Int) : tenN L t ≤ L.length := List.length_filter_le _ _
structure PaSt (w : World) (L : List PartM) (t : Int) (n i : Value) (wr : World) : Prop where
  st : ∃ k : Nat, k ≤ L.length ∧ i = .int .i64 (k : Int) ∧ n = .int .i64 (tenN (L.take k) t : Int) ∧ Hid (Below w.heap.size w wr)
set_option maxRecDepth 20000 in
set_option maxHeartbeats 4000000 in
theorem parts_any (p : Nat) (S : SpaceM) (t : Int) (w : World) (hS : SpaceAt TNode TSp w p S) (hwf : S.WF) :
    Calls Tryz.prog 13 #[.pointer (some ⟨p, 0, none⟩), .int .i64 t] w fun e w' => e = .returned (.tuple #[.int .i64 (tenN S.vols t : Int), .int .i64 (tenN S.snaps t : Int)]) ∧ Below w.heap.size w w' := by
  have HV := Lib.hid (volsS_any p S w hS hwf)
  have HN := Lib.hid (fun (W : World) (hb : Below w.heap.size w W) => snapsS_any p S W (hS.below hb) hwf)
  have hvl := hwf.vlen
  have hsl := hwf.slen
  clear hS hwf
  go_enter Tryz.func13, Tryz.ntmps13
  go_wp2_with (go_at_call 29; refine HV.out.mono ?_; rintro e w1 ⟨v, rfl, h1⟩; obtain ⟨ao, cap, rfl, _⟩ := id h1.out.2)
  go_loopw [6, 15] (fun n i wr => PaSt w1 S.vols t n i wr) (fun _ i _ => S.vols.length - (intOf i).toNat)
  case atStart => exact ⟨⟨0, Nat.zero_le _, rfl, rfl, Below.refl _ _⟩⟩
  case round =>
    obtain ⟨k, hk, rfl, rfl, HB⟩ := hrel.st
    clear hrel HV
    have hcl := tenN_le (S.vols.take k) t
    rw [List.length_take] at hcl
    by_cases hlt : k < S.vols.length
    · have hltd : decide ((k : Int) < (S.vols.length : Int)) = true := decide_eq_true (by omega)
      have hki : (k : Int) ≤ 64 := by omega
      obtain ⟨x, hx⟩ : ∃ x, S.vols[k]? = some x := ⟨_, List.getElem?_eq_getElem hlt⟩
      obtain ⟨g, rfl, hg, e0, e1, e2⟩ := vi_cells h1.out.2 hx
      have e0 := (HB.out.cell (p := ⟨g, k * 3, none⟩) hg).trans e0
      have e1 := (HB.out.cell (p := ⟨g, k * 3 + 1, none⟩) hg).trans e1
      have e2 := (HB.out.cell (p := ⟨g, k * 3 + 2, none⟩) hg).trans e2
      have hgw : g < wr.heap.size := by have := HB.out.size; omega
      have HT := Lib.hid (tenN_take hx t)
      have hwk : IntKind.i64.wrap ((k : Int) + 1) = (k : Int) + 1 := IntWalk.i64_in _ (by omega)
      have hwt : IntKind.i64.wrap ((tenN (S.vols.take k) t : Int) + 1) = (tenN (S.vols.take k) t : Int) + 1 := IntWalk.i64_in _ (by omega)
      have HAL := Lib.hid (show ∀ o, Below w1.heap.size w1 (wr.alloc o) from fun o => HB.out.alloc HB.out.size _)
      clear hx
      cases hid : (x.tenant == t)
      · go_wp2
        refine ⟨⟨⟨k + 1, by omega, by rw [Int.natCast_add]; rfl, by rw [HT.out, hid]; rfl, HAL.out _⟩⟩, by simp only [intOf]; omega⟩
      · go_wp2
        refine ⟨⟨⟨k + 1, by omega, by rw [Int.natCast_add]; rfl, by rw [HT.out, hid]; rfl, HAL.out _⟩⟩, by simp only [intOf]; omega⟩
    · obtain rfl : k = S.vols.length := by omega
      have hltd : decide ((S.vols.length : Int) < (S.vols.length : Int)) = false := decide_eq_false (by omega)
      rw [List.take_length] at *
      have hb2 := h1.out.1.trans (HB.out.mono h1.out.1.size)
      have HB2 := Lib.hid hb2
      clear h1 hb2 HB
      go_wp2_with (go_at_call 30; refine (HN.out _ HB2.out).mono ?_; rintro e w2 ⟨v2, rfl, h2⟩; obtain ⟨ao2, cap2, rfl, _⟩ := id h2.out.2)
      go_loopw [7, 29] (fun n i wr => PaSt w2 S.snaps t n i wr) (fun _ i _ => S.snaps.length - (intOf i).toNat)
      case atStart => exact ⟨⟨0, Nat.zero_le _, rfl, rfl, Below.refl _ _⟩⟩
      case round =>
        obtain ⟨k, hk, rfl, rfl, HB⟩ := hrel.st
        clear hrel HN
        have hcl2 := tenN_le (S.snaps.take k) t
        rw [List.length_take] at hcl2
        by_cases hlt : k < S.snaps.length
        · have hltd : decide ((k : Int) < (S.snaps.length : Int)) = true := decide_eq_true (by omega)
          have hki : (k : Int) ≤ 256 := by omega
          obtain ⟨x, hx⟩ : ∃ x, S.snaps[k]? = some x := ⟨_, List.getElem?_eq_getElem hlt⟩
          obtain ⟨g, rfl, hg, e0, e1, e2, e3⟩ := si_cells h2.out.2 hx
          have e0 := (HB.out.cell (p := ⟨g, k * 4, none⟩) hg).trans e0
          have e1 := (HB.out.cell (p := ⟨g, k * 4 + 1, none⟩) hg).trans e1
          have e2 := (HB.out.cell (p := ⟨g, k * 4 + 2, none⟩) hg).trans e2
          have e3 := (HB.out.cell (p := ⟨g, k * 4 + 3, none⟩) hg).trans e3
          have hgw : g < wr.heap.size := by have := HB.out.size; omega
          have HT := Lib.hid (tenN_take hx t)
          have hwk : IntKind.i64.wrap ((k : Int) + 1) = (k : Int) + 1 := IntWalk.i64_in _ (by omega)
          have hwt : IntKind.i64.wrap ((tenN (S.snaps.take k) t : Int) + 1) = (tenN (S.snaps.take k) t : Int) + 1 := IntWalk.i64_in _ (by omega)
          have HAL := Lib.hid (show ∀ o, Below w2.heap.size w2 (wr.alloc o) from fun o => HB.out.alloc HB.out.size _)
          clear hx
          cases hid : (x.tenant == t)
          · go_wp2
            refine ⟨⟨⟨k + 1, by omega, by rw [Int.natCast_add]; rfl, by rw [HT.out, hid]; rfl, HAL.out _⟩⟩, by simp only [intOf]; omega⟩
          · go_wp2
            refine ⟨⟨⟨k + 1, by omega, by rw [Int.natCast_add]; rfl, by rw [HT.out, hid]; rfl, HAL.out _⟩⟩, by simp only [intOf]; omega⟩
        · obtain rfl : k = S.snaps.length := by omega
          have hltd : decide ((S.snaps.length : Int) < (S.snaps.length : Int)) = false := decide_eq_false (by omega)
          have hnlt : ¬ (S.snaps.length : Int) < (S.snaps.length : Int) := by omega
          go_wp2
          go_ret2
          exact ⟨rfl, HB2.out.trans ((h2.out.1.trans (HB.out.mono h2.out.1.size)).mono HB2.out.size)⟩
set_option maxRecDepth 20000 in
theorem usnap_any (p : Nat) (S : SpaceM) (v : Int) (w : World) (hS : SpaceAt TNode TSp w p S) :
    Calls Tryz.prog 18 #[.pointer (some ⟨p, 0, none⟩), .int .i64 v] w fun e w' => e = .returned (.tuple #[.int .i64 ((contM S v).1.length : Int), .int .i64 (contM S v).2]) ∧ Below w.heap.size w w' := by
  have HC := Lib.hid (contS_any p S v w hS)
  clear hS
  generalize contM S v = R at HC ⊢
  obtain ⟨L, er⟩ := R
  go_enter Tryz.func18, Tryz.ntmps18
  go_wp2_with (go_at_call 40; refine HC.out.mono ?_; rintro e w1 ⟨r, rfl, h1⟩; obtain ⟨ao, cap, rfl, _⟩ := id h1.out.2)
  go_ret2
  exact ⟨rfl, h1.out.1⟩
set_option maxRecDepth 20000 in
theorem uclone_any (p : Nat) (S : SpaceM) (v : Int) (w : World) (hS : SpaceAt TNode TSp w p S) :
    Calls Tryz.prog 20 #[.pointer (some ⟨p, 0, none⟩), .int .i64 v] w fun e w' => e = .returned (.tuple #[.int .i64 ((imageM S v).1.length : Int), .int .i64 (imageM S v).2]) ∧ Below w.heap.size w w' := by
  have HC := Lib.hid (imgS_any p S v w hS)
  clear hS
  generalize imageM S v = R at HC ⊢
  obtain ⟨L, er⟩ := R
  go_enter Tryz.func20, Tryz.ntmps20
  go_wp2_with (go_at_call 42; refine HC.out.mono ?_; rintro e w1 ⟨r, rfl, h1⟩; obtain ⟨ao, cap, rfl, _⟩ := id h1.out.2)
  go_ret2
  exact ⟨rfl, h1.out.1⟩
/-- How a volume grows by a restore. -/
def restM (S : SpaceM) (v s : Int) : Int × Int := if (contM S v).2 ≠ 0 ∨ (imageM S s).2 ≠ 0 then (0, 12) else (((imageM S s).1.length : Int) - ((contM S v).1.length : Int), 0)
theorem items_le (m : MapM) : (items m).length ≤ 4096 := by
  rw [items_len]; exact cntF_le _ _
set_option maxRecDepth 20000 in
theorem contM_len (S : SpaceM) (v : Int) : (contM S v).1.length ≤ 4096 := by
  unfold contM
  split
  · rw [show (([], 12) : List (Nat × Int) × Int).1.length = 0 from rfl]; exact Nat.zero_le _
  · exact items_le _
set_option maxRecDepth 20000 in
theorem imageM_len (S : SpaceM) (v : Int) : (imageM S v).1.length ≤ 4096 := by
  unfold imageM
  split
  · rw [show (([], 12) : List (Nat × Int) × Int).1.length = 0 from rfl]; exact Nat.zero_le _
  · exact items_le _
set_option maxRecDepth 20000 in
theorem urest_any (p : Nat) (S : SpaceM) (v s : Int) (w : World) (hS : SpaceAt TNode TSp w p S) :
    Calls Tryz.prog 22 #[.pointer (some ⟨p, 0, none⟩), .int .i64 v, .int .i64 s] w fun e w' => e = .returned (.tuple #[.int .i64 (restM S v s).1, .int .i64 (restM S v s).2]) ∧ Below w.heap.size w w' := by
  have HC := Lib.hid (contS_any p S v w hS)
  have HI := Lib.hid (fun (W : World) (hb : Below w.heap.size w W) => imgS_any p S s W (hS.below hb))
  have l1 := contM_len S v
  have l2 := imageM_len S s
  have HR := Lib.hid (show restM S v s = restM S v s from rfl)
  unfold restM at HR ⊢
  clear hS
  generalize contM S v = R at HC HR l1 ⊢
  generalize imageM S s = R2 at HI HR l2 ⊢
  obtain ⟨L, er⟩ := R
  obtain ⟨L2, er2⟩ := R2
  simp only at l1 l2
  have hws : IntKind.i64.wrap ((L2.length : Int) - (L.length : Int)) = (L2.length : Int) - (L.length : Int) := IntWalk.i64_in _ (by omega)
  by_cases h1 : er = 0
  · subst h1
    by_cases h2 : er2 = 0
    · subst h2
      rw [if_neg (by simp)]
      go_enter Tryz.func22, Tryz.ntmps22
      go_wp2_with (first
        | (go_at_call 40; refine HC.out.mono ?_; rintro e w1 ⟨r, rfl, h1⟩; obtain ⟨ao, cap, rfl, _⟩ := id h1.out.2)
        | (go_at_call 42; refine (HI.out _ h1.out.1).mono ?_; rintro e w2 ⟨r2, rfl, h2⟩; obtain ⟨ao2, cap2, rfl, _⟩ := id h2.out.2))
      go_ret2
      exact ⟨rfl, h1.out.1.trans (h2.out.1.mono h1.out.1.size)⟩
    · rw [if_pos (by simp [h2])]
      have hn2 : (er2 != 0) = true := by simpa [bne] using h2
      go_enter Tryz.func22, Tryz.ntmps22
      go_wp2_with (first
        | (go_at_call 40; refine HC.out.mono ?_; rintro e w1 ⟨r, rfl, h1⟩; obtain ⟨ao, cap, rfl, _⟩ := id h1.out.2)
        | (go_at_call 42; refine (HI.out _ h1.out.1).mono ?_; rintro e w2 ⟨r2, rfl, h2'⟩; obtain ⟨ao2, cap2, rfl, _⟩ := id h2'.out.2))
      go_ret2
      exact ⟨rfl, h1.out.1.trans (h2'.out.1.mono h1.out.1.size)⟩
  · rw [if_pos (by simp [h1])]
    have hn1 : (er != 0) = true := by simpa [bne] using h1
    go_enter Tryz.func22, Tryz.ntmps22
    go_wp2_with (first
      | (go_at_call 40; refine HC.out.mono ?_; rintro e w1 ⟨r, rfl, h1'⟩; obtain ⟨ao, cap, rfl, _⟩ := id h1'.out.2)
      | (go_at_call 42; refine (HI.out _ h1'.out.1).mono ?_; rintro e w2 ⟨r2, rfl, h2'⟩; obtain ⟨ao2, cap2, rfl, _⟩ := id h2'.out.2))
    go_ret2
    exact ⟨rfl, h1'.out.1.trans (h2'.out.1.mono h1'.out.1.size)⟩
end Go.Proofs.YtmgcgdkndkibgaaGreat
