/- Marks and a power failure: plain laws. -/
import Derived.Test.YtbegomjbakidmaaHy
namespace Go.Proofs.Ytbegomjbakidmaa
open Go.RowKit Go.Sl Go.ChangeMaps

/-- The register of mark n, and the sector that is written there. -/
def slotN (n : Nat) : Nat := 3 - n % 3
def mkL (n : Nat) : List UInt8 := sealL ⟨0, 1, (slotN n : Int)⟩ ⟨(n : Int), 0⟩ []
theorem mk_ok {n : Nat} (h0 : 1 ≤ n) (h1 : n < 4294967296) : sealOK ⟨0, 1, (slotN n : Int)⟩ ⟨(n : Int), 0⟩ [] = true := by
  unfold sealOK
  simp only [Bool.and_eq_true, decide_eq_true_eq]
  have : slotN n ≤ 3 := by unfold slotN; omega
  refine ⟨⟨placeOK_iff.2 ⟨Int.le_refl 0, by show (0 : Int) < 64; decide, by simp, by simp, by simp only; omega, by simp only; omega⟩, genOK_iff.2 ⟨by simp only; omega, by simp, by simp only; omega, by simp, ?_⟩⟩, by simp⟩
  intro h
  have := congrArg GenM.epoch h
  simp only [g0] at this
  omega
theorem mk_open {n : Nat} (h0 : 1 ≤ n) (h1 : n < 4294967296) : openM ⟨0, 1, (slotN n : Int)⟩ (mkL n) = some (⟨(n : Int), 0⟩, [] ++ zerosL (40 - ([] : List UInt8).length)) := open_seal (mk_ok h0 h1)
theorem mk_some {n : Nat} (h0 : 1 ≤ n) (h1 : n < 4294967296) : (openM ⟨0, 1, (slotN n : Int)⟩ (mkL n)).isSome = true := by rw [mk_open h0 h1]; rfl
/-- What a register holds: a mark, or nothing that is read. -/
def holdsN (f : Nat → List UInt8) (n : Nat) : Prop := f (slotN n) = mkL n
theorem mstep_some {f : Nat → List UInt8} {d : Int} {j : Nat} {x y : Int} {n : Int} {z : List UInt8} (h : openM ⟨d, 1, (j : Int)⟩ (f j) = some (⟨n, 0⟩, z)) : mstep f d (x, y) j = (max x n, if n % 2 = 1 then max y n else y) := by
  unfold mstep; rw [h]
theorem mstep_none {f : Nat → List UInt8} {d : Int} {j : Nat} {x : Int × Int} (h : openM ⟨d, 1, (j : Int)⟩ (f j) = none) : mstep f d x j = x := by
  unfold mstep; rw [h]
theorem marked3 (f : Nat → List UInt8) : markedM f 0 1 3 = mstep f 0 (mstep f 0 (mstep f 0 (0, 0) 1) 2) 3 := rfl
/-- The last mark, and the greatest odd one, from three registers of which two hold k and k - 1, and the third an older or newer one, or nothing. -/
theorem marked_val {f : Nat → List UInt8} {k : Nat} (hk : 3 ≤ k) (hk2 : k < 4294967295) (h0 : holdsN f k) (h1 : holdsN f (k - 1)) (h2 : holdsN f (k - 2) ∨ holdsN f (k + 1) ∨ openM ⟨0, 1, (slotN (k + 1) : Int)⟩ (f (slotN (k + 1))) = none) :
    ∃ x y : Int, markedM f 0 1 3 = (x, y) ∧ (x = (k : Int) ∨ x = (k : Int) + 1) ∧ y = x - 1 + x % 2 := by
  have o0 := mk_open (n := k) (by omega) (by omega)
  have o1 := mk_open (n := k - 1) (by omega) (by omega)
  unfold holdsN at h0 h1
  rw [← h0] at o0
  rw [← h1] at o1
  have hc : k % 3 = 0 ∨ k % 3 = 1 ∨ k % 3 = 2 := by omega
  rw [marked3]
  rcases h2 with h2 | h2 | h2
  · have o2 := mk_open (n := k - 2) (by omega) (by omega)
    unfold holdsN at h2
    rw [← h2] at o2
    rcases hc with hc | hc | hc
    · have s0 : slotN k = 3 := by unfold slotN; omega
      have s1 : slotN (k - 1) = 1 := by unfold slotN; omega
      have s2 : slotN (k - 2) = 2 := by unfold slotN; omega
      rw [s0] at o0; rw [s1] at o1; rw [s2] at o2
      rw [mstep_some o1, mstep_some o2, mstep_some o0]
      refine ⟨_, _, rfl, ?_, ?_⟩ <;> (repeat' split) <;> omega
    · have s0 : slotN k = 2 := by unfold slotN; omega
      have s1 : slotN (k - 1) = 3 := by unfold slotN; omega
      have s2 : slotN (k - 2) = 1 := by unfold slotN; omega
      rw [s0] at o0; rw [s1] at o1; rw [s2] at o2
      rw [mstep_some o2, mstep_some o0, mstep_some o1]
      refine ⟨_, _, rfl, ?_, ?_⟩ <;> (repeat' split) <;> omega
    · have s0 : slotN k = 1 := by unfold slotN; omega
      have s1 : slotN (k - 1) = 2 := by unfold slotN; omega
      have s2 : slotN (k - 2) = 3 := by unfold slotN; omega
      rw [s0] at o0; rw [s1] at o1; rw [s2] at o2
      rw [mstep_some o0, mstep_some o1, mstep_some o2]
      refine ⟨_, _, rfl, ?_, ?_⟩ <;> (repeat' split) <;> omega
  · have o2 := mk_open (n := k + 1) (by omega) (by omega)
    unfold holdsN at h2
    rw [← h2] at o2
    rcases hc with hc | hc | hc
    · have s0 : slotN k = 3 := by unfold slotN; omega
      have s1 : slotN (k - 1) = 1 := by unfold slotN; omega
      have s2 : slotN (k + 1) = 2 := by unfold slotN; omega
      rw [s0] at o0; rw [s1] at o1; rw [s2] at o2
      rw [mstep_some o1, mstep_some o2, mstep_some o0]
      refine ⟨_, _, rfl, ?_, ?_⟩ <;> (repeat' split) <;> omega
    · have s0 : slotN k = 2 := by unfold slotN; omega
      have s1 : slotN (k - 1) = 3 := by unfold slotN; omega
      have s2 : slotN (k + 1) = 1 := by unfold slotN; omega
      rw [s0] at o0; rw [s1] at o1; rw [s2] at o2
      rw [mstep_some o2, mstep_some o0, mstep_some o1]
      refine ⟨_, _, rfl, ?_, ?_⟩ <;> (repeat' split) <;> omega
    · have s0 : slotN k = 1 := by unfold slotN; omega
      have s1 : slotN (k - 1) = 2 := by unfold slotN; omega
      have s2 : slotN (k + 1) = 3 := by unfold slotN; omega
      rw [s0] at o0; rw [s1] at o1; rw [s2] at o2
      rw [mstep_some o0, mstep_some o1, mstep_some o2]
      refine ⟨_, _, rfl, ?_, ?_⟩ <;> (repeat' split) <;> omega
  · rcases hc with hc | hc | hc
    · have s0 : slotN k = 3 := by unfold slotN; omega
      have s1 : slotN (k - 1) = 1 := by unfold slotN; omega
      have s2 : slotN (k + 1) = 2 := by unfold slotN; omega
      rw [s0] at o0; rw [s1] at o1; rw [s2] at h2
      rw [mstep_some o1, mstep_none h2, mstep_some o0]
      refine ⟨_, _, rfl, ?_, ?_⟩ <;> (repeat' split) <;> omega
    · have s0 : slotN k = 2 := by unfold slotN; omega
      have s1 : slotN (k - 1) = 3 := by unfold slotN; omega
      have s2 : slotN (k + 1) = 1 := by unfold slotN; omega
      rw [s0] at o0; rw [s1] at o1; rw [s2] at h2
      rw [mstep_none h2, mstep_some o0, mstep_some o1]
      refine ⟨_, _, rfl, ?_, ?_⟩ <;> (repeat' split) <;> omega
    · have s0 : slotN k = 1 := by unfold slotN; omega
      have s1 : slotN (k - 1) = 2 := by unfold slotN; omega
      have s2 : slotN (k + 1) = 3 := by unfold slotN; omega
      rw [s0] at o0; rw [s1] at o1; rw [s2] at h2
      rw [mstep_some o0, mstep_some o1, mstep_none h2]
      refine ⟨_, _, rfl, ?_, ?_⟩ <;> (repeat' split) <;> omega

/-! ### marks that are written one after the other, each followed by a flush -/
theorem markP_slot {S : ShelfM} (h : S.cfg = cfgW 1) (n : Nat) : markP S 0 n = ⟨0, 1, (slotN n : Int)⟩ := by
  unfold markP
  rw [h]
  have : (cfgW 1).log - 1 - ((n % 3 : Nat) : Int) = (slotN n : Int) := by
    show (1 : Int) + 3 - 1 - ((n % 3 : Nat) : Int) = _
    unfold slotN
    omega
  rw [this]
theorem mark_part {S : ShelfM} (h : FineP (cfgW 1) S) (ho : S.off = false) (n : Nat) :
    (∃ S', markM S 0 n = (S', 0) ∧ S'.off = false ∧ FineP (cfgW 1) S' ∧ (∀ j, conL S' 0 j = if j = slotN n then mkL n else conL S 0 j) ∧ durL S' 0 = durL S 0) ∨ markM S 0 n = ({ S with off := true, fused := false }, 14) := by
  have hs : slotN n ≤ 3 := by unfold slotN; omega
  unfold markM
  rw [markP_slot h.cfg]
  exact h.write ho (d := 0) (by decide) (by show (0 : Int) < 2; decide) (i := slotN n) (by show (slotN n : Int) < 1 + 3; omega) (sealL_length (by simp))
theorem FineS.flush {c : CfgM} {S : ShelfM} (h : FineS c S) {d : Int} (h0 : 0 ≤ d) (h1 : d < c.disks) : ∃ S', S.flush d = (S', 0) ∧ FineS c S' ∧ conL S' d = conL S d ∧ durL S' d = conL S d := by
  have hst := h.st d h0 h1
  have he : S.flush d = (S.setDisk d (S.disk d).flush, 0) := by
    unfold ShelfM.flush
    rw [if_neg (by omega), ShelfM.step_run h.off hst h.fused]
  obtain ⟨f1, f2⟩ := h.part.set h0 h1 (D := (S.disk d).flush) rfl (fun k => h.armed d h0 h1 k) (n := S.left) h.wf
  exact ⟨_, he, ⟨f1.wf, f1.cfg, h.off, h.fused, f1.st, f1.armed⟩, by funext j; unfold conL; rw [show (S.setDisk d (S.disk d).flush).disk d = _ from f2 d, if_pos rfl]; rfl, by funext j; unfold durL conL; rw [show (S.setDisk d (S.disk d).flush).disk d = _ from f2 d, if_pos rfl]; rfl⟩
/-- The first marks: no fuse is set. -/
structure MkA (S : ShelfM) (a i : Nat) : Prop where
  fine : FineS (cfgW 1) S
  held : ∀ x, a ≤ x → x < i → holdsN (conL S 0) x
theorem mkA_new (a : Nat) : MkA (ShelfM.new (cfgW 1)) a a := by
  have hw := ok_wf (cfgW_ok (size := 1) (by decide) (by decide)) (by rw [cfgW_sectors]; decide)
  exact ⟨(new_fine hw).1, fun x h1 h2 => by omega⟩
theorem slot_ne {x y : Nat} (h1 : x < y) (h2 : y < x + 3) : slotN x ≠ slotN y := by unfold slotN; omega
theorem mkA_step {S : ShelfM} {a i : Nat} (h : MkA S a i) (hi : i < a + 3) : ∃ S1 S2, markM S 0 i = (S1, 0) ∧ S1.flush 0 = (S2, 0) ∧ MkA S2 a (i + 1) ∧ durL S2 0 = conL S2 0 := by
  obtain ⟨m1, m2, m3⟩ := mark_fine h.fine (d := 0) (by decide) (by show (0 : Int) < 2; decide) (by show (3 : Int) ≤ 1 + 3; decide) i
  obtain ⟨S2, f1, f2, f3, f4⟩ := FineS.flush m2 (d := 0) (by decide) (by show (0 : Int) < 2; decide)
  have hlog : ∀ j : Nat, (0 : Int) = 0 ∧ (j : Int) = (cfgW 1).log - 1 - ((i % 3 : Nat) : Int) ↔ j = slotN i := fun j => by
    show (0 : Int) = 0 ∧ (j : Int) = 1 + 3 - 1 - ((i % 3 : Nat) : Int) ↔ j = slotN i
    unfold slotN
    omega
  refine ⟨(markM S 0 i).1, S2, Prod.ext rfl m1, f1, ⟨f2, fun x h1 h2 => ?_⟩, by rw [f3, f4]⟩
  unfold holdsN
  rw [f3, m3]
  by_cases hx : x = i
  · subst hx
    rw [if_pos ((hlog _).2 rfl)]
    rfl
  · rw [if_neg (fun hc => slot_ne (x := x) (y := i) (by omega) (by omega) ((hlog _).1 hc))]
    exact h.held x h1 (by omega)
/-- The marks up to k are safe. -/
structure MkI (S : ShelfM) (k : Nat) : Prop where
  fine : FineP (cfgW 1) S
  on : S.off = false
  dur : durL S 0 = conL S 0
  h0 : holdsN (conL S 0) k
  h1 : holdsN (conL S 0) (k - 1)
  h2 : holdsN (conL S 0) (k - 2)
def MarksOut (S : ShelfM) (k : Nat) : Prop :=
  ∀ p, (S.mount p).WF → FineS (cfgW 1) (S.mount p) ∧ ∃ x y : Int, markedM (conL (S.mount p) 0) 0 1 3 = (x, y) ∧ (x = (k : Int) ∨ x = (k : Int) + 1) ∧ y = x - 1 + x % 2
theorem marks_same {S : ShelfM} {k : Nat} (hk : 3 ≤ k) (hk2 : k < 4294967295) (hf : FineP (cfgW 1) S) (hd : durL S 0 = conL S 0) (h0 : holdsN (conL S 0) k) (h1 : holdsN (conL S 0) (k - 1)) (h2 : holdsN (conL S 0) (k - 2)) : MarksOut S k := by
  intro p hw
  obtain ⟨a1, a2⟩ := mount_part hf hw
  have he : conL (S.mount p) 0 = conL S 0 := funext fun j => by
    obtain ⟨q, hq⟩ := a2 0 (by decide) (by show (0 : Int) < 2; decide) j
    rw [hd, torn_same] at hq
    exact hq
  rw [he]
  exact ⟨a1, marked_val hk hk2 h0 h1 (.inl h2)⟩
theorem MkI.out {S : ShelfM} {k : Nat} (h : MkI S k) (hk : 3 ≤ k) (hk2 : k < 4294967295) : MarksOut S k := marks_same hk hk2 h.fine h.dur h.h0 h.h1 h.h2
theorem mk_sub (n : Nat) : subL (mkL n) 16 56 = [] ++ zerosL (40 - ([] : List UInt8).length) := (sealL_parts _ _ (by simp)).2.2.2.2.2.2.2.2.2
theorem mk_sub4 {n m : Nat} (h : slotN n = slotN m) : subL (mkL n) 4 8 = subL (mkL m) 4 8 := by
  have e : ∀ n : Nat, subL (mkL n) 4 8 = [UInt8.ofNat 1, UInt8.ofNat 0] ++ leL (slotN n : Int).toNat 2 := fun n => by
    have h4 : ∀ k, (leL k 4).length = 4 := fun k => leL_length k 4
    have h2 : (leL (slotN n : Int).toNat 2).length = 2 := leL_length _ 2
    unfold mkL sealL
    generalize hc : leL (crcM (bodyL ⟨0, 1, (slotN n : Int)⟩ ⟨(n : Int), 0⟩ [])).toNat 4 = c
    have hcl : c.length = 4 := by rw [← hc, h4]
    unfold bodyL headL
    have he : c ++ ([UInt8.ofNat (1 : Int).toNat, UInt8.ofNat (0 : Int).toNat] ++ leL (slotN n : Int).toNat 2 ++ leL (n : Int).toNat 4 ++ leL (0 : Int).toNat 4 ++ ([] : List UInt8) ++ zerosL (40 - ([] : List UInt8).length) ++ leL (n : Int).toNat 4 ++ leL (0 : Int).toNat 4) = c ++ (([UInt8.ofNat 1, UInt8.ofNat 0] ++ leL (slotN n : Int).toNat 2) ++ (leL (n : Int).toNat 4 ++ leL (0 : Int).toNat 4 ++ ([] : List UInt8) ++ zerosL (40 - ([] : List UInt8).length) ++ leL (n : Int).toNat 4 ++ leL (0 : Int).toNat 4)) := by
      simp only [List.append_assoc]; rfl
    exact (congrArg (fun t => subL t 4 8) he).trans (subL_app hcl (by rw [List.length_append, h2]; rfl))
  rw [e, e, h]
/-- The next mark: it is written and flushed, or the fuse blows. -/
theorem MkI.next {S : ShelfM} {k : Nat} (h : MkI S k) (hk : 3 ≤ k) (hk2 : k < 4294967290) :
    (∃ S1, markM S 0 (k + 1) = (S1, 14) ∧ MarksOut S1 k) ∨ (∃ S1 S2, markM S 0 (k + 1) = (S1, 0) ∧ ((S1.flush 0 = (S2, 14) ∧ MarksOut S2 k) ∨ (S1.flush 0 = (S2, 0) ∧ MkI S2 (k + 1)))) := by
  rcases mark_part h.fine h.on (k + 1) with ⟨S1, e1, e2, e3, e4, e5⟩ | e
  · right
    have hc : ∀ x, x ≤ k → k < x + 3 → slotN x ≠ slotN (k + 1) ∨ x = k - 2 := fun x h1 h2 => by
      by_cases hx : x = k - 2
      · exact .inr hx
      · exact .inl (slot_ne (by omega) (by omega))
    have hold : ∀ x, x ≠ k - 2 → x ≤ k → k < x + 3 → holdsN (conL S 0) x → holdsN (conL S1 0) x := fun x hx h1 h2 h3 => by
      unfold holdsN
      rw [e4, if_neg ((hc x h1 h2).resolve_right hx)]
      exact h3
    have hnew : holdsN (conL S1 0) (k + 1) := by unfold holdsN; rw [e4, if_pos rfl]
    rcases e3.flush e2 (d := 0) (by decide) (by show (0 : Int) < 2; decide) with ⟨S2, f1, f2, f3, f4, f5⟩ | f
    · refine ⟨S1, S2, e1, .inr ⟨f1, f3, f2, by rw [f4, f5], by rw [f4]; exact hnew, ?_, ?_⟩⟩
      · rw [f4]; exact hold k (by omega) (by omega) (by omega) h.h0
      · rw [f4]; exact hold (k - 1) (by omega) (by omega) (by omega) h.h1
    · refine ⟨S1, _, e1, .inl ⟨f, fun p hw => ?_⟩⟩
      obtain ⟨a1, a2⟩ := mount_part (S := { S1 with off := true, fused := false }) e3.down hw
      refine ⟨a1, ?_⟩
      have a2 := a2 0 (by decide) (by show (0 : Int) < 2; decide)
      have hsl : slotN (k + 1) = slotN (k - 2) := by unfold slotN; omega
      have hsame : ∀ j, j ≠ slotN (k + 1) → conL (({ S1 with off := true, fused := false } : ShelfM).mount p) 0 j = conL S 0 j := fun j hj => by
        obtain ⟨q, hq⟩ := a2 j
        rw [show conL ({ S1 with off := true, fused := false } : ShelfM) 0 j = conL S1 0 j from rfl, show durL ({ S1 with off := true, fused := false } : ShelfM) 0 j = durL S1 0 j from rfl, e4, if_neg hj, e5, h.dur, torn_same] at hq
        exact hq
      refine marked_val hk (by omega) ?_ ?_ ?_
      · unfold holdsN
        rw [hsame _ ((hc k (by omega) (by omega)).resolve_right (by omega))]
        exact h.h0
      · unfold holdsN
        rw [hsame _ ((hc (k - 1) (by omega) (by omega)).resolve_right (by omega))]
        exact h.h1
      · obtain ⟨q, hq⟩ := a2 (slotN (k + 1))
        have h2 := h.h2
        unfold holdsN at h2
        rw [show conL ({ S1 with off := true, fused := false } : ShelfM) 0 (slotN (k + 1)) = conL S1 0 (slotN (k + 1)) from rfl, show durL ({ S1 with off := true, fused := false } : ShelfM) 0 (slotN (k + 1)) = durL S1 0 (slotN (k + 1)) from rfl, e4, if_pos rfl, e5, h.dur, hsl, h2] at hq
        have hy := mk_some (n := k - 2) (by omega) (by omega)
        rw [← hsl] at hy
        rcases torn_mark (k := q) (mk_some (n := k + 1) (by omega) (by omega)) hy (mk_sub4 hsl) (by rw [mk_sub, mk_sub]) with t | t | t
        · rw [← hq, ← hsl] at t
          exact .inr (.inr t)
        · rw [t, ← hsl] at hq
          exact .inr (.inl hq)
        · rw [t] at hq
          exact .inl hq
  · exact .inl ⟨_, e, marks_same (S := { S with off := true, fused := false }) hk (by omega) h.fine.down h.dur h.h0 h.h1 h.h2⟩
theorem mkI_start {S : ShelfM} {k : Nat} (hk : 3 ≤ k) (h : MkA S (k - 2) (k + 1)) (hd : durL S 0 = conL S 0) {n : Int} (hn : n < 9223372036854775808) : MkI (S.fuse n) k :=
  ⟨⟨wf_fuse h.fine.wf hn, h.fine.cfg, h.fine.st, h.fine.armed⟩, h.fine.off, hd, h.held k (by omega) (by omega), h.held (k - 1) (by omega) (by omega), h.held (k - 2) (by omega) (by omega)⟩
theorem cutBays_all : ∀ (l : List BayM) (p : List Int), (ShelfM.cutBays l p).length = l.length ∧ ∀ b ∈ ShelfM.cutBays l p, ∃ b0 ∈ l, b.state = b0.state ∧ b.disk.n = b0.disk.n
  | [], p => ⟨rfl, fun b hb => (by cases hb)⟩
  | a :: l, p => by
    unfold ShelfM.cutBays
    split
    · next ha =>
      obtain ⟨h1, h2⟩ := cutBays_all l (p.drop a.disk.pending.length)
      refine ⟨by rw [List.length_cons, List.length_cons, h1], fun b hb => ?_⟩
      rcases List.mem_cons.1 hb with rfl | hb
      · exact ⟨a, by simp, ha.symm, rfl⟩
      · obtain ⟨b0, h3, h4⟩ := h2 b hb
        exact ⟨b0, List.mem_cons_of_mem _ h3, h4⟩
    · obtain ⟨h1, h2⟩ := cutBays_all l p
      refine ⟨by rw [List.length_cons, List.length_cons, h1], fun b hb => ?_⟩
      rcases List.mem_cons.1 hb with rfl | hb
      · exact ⟨b, by simp, rfl, rfl⟩
      · obtain ⟨b0, h3, h4⟩ := h2 b hb
        exact ⟨b0, List.mem_cons_of_mem _ h3, h4⟩
theorem mount_wf {S : ShelfM} (h : S.WF) (p : List Int) : (S.mount p).WF := by
  obtain ⟨h1, h2⟩ := cutBays_all S.bays p
  refine ⟨h.cfg, h1.trans h.bays, fun b hb => ?_, h.images, fun hf => (by cases hf)⟩
  obtain ⟨b0, h3, h4, h5⟩ := h2 b hb
  rw [h4, h5]
  exact h.st b0 h3
end Go.Proofs.Ytbegomjbakidmaa
