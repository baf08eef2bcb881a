/- tree.Tree.Get: the chunk of a block. -/
import Derived.Test.YtednjhlkhecihaaVa
namespace Go.Proofs.Ytednjhlkhecihaa
open Go.RowKit Go.Vol

/-- The cells of a node. -/
theorem nodeC_at {w : World} {b h : Nat} {kids ch : List Value} {T : TypeId} (hw : w.heap[b]? = some (.cells (nodeC h kids ch) T (0, 0))) (hk : kids.length = 16) :
    w.cell? ⟨b, 0, none⟩ = some (.int .u16 (h : Int)) ∧ (∀ s k, kids[s]? = some k → w.cell? ⟨b, 1 + s, none⟩ = some k) ∧ (∀ s c, ch[s]? = some c → w.cell? ⟨b, 17 + s, none⟩ = some c) := by
  have hc : ∀ o, w.cell? ⟨b, o, none⟩ = (nodeC h kids ch)[o]? := by intro o; simp [World.cell?, hw]
  refine ⟨by rw [hc]; rfl, fun s k hs => ?_, fun s c hs => ?_⟩
  · rw [hc]
    have hlt := (List.getElem?_eq_some_iff.1 hs).1
    unfold nodeC
    rw [List.getElem?_toArray, Nat.add_comm, List.getElem?_cons_succ, List.getElem?_append_left hlt]; exact hs
  · rw [hc]
    unfold nodeC
    rw [List.getElem?_toArray, show 17 + s = (16 + s) + 1 by omega, List.getElem?_cons_succ, List.getElem?_append_right (by omega), hk, Nat.add_sub_cancel_left]; exact hs

theorem mod_split (b L : Nat) : b % 16 ^ (L + 2) = b / 16 ^ (L + 1) % 16 * 16 ^ (L + 1) + b % 16 ^ (L + 1) := by
  rw [Nat.pow_succ 16 (L + 1), Nat.mod_mul, Nat.add_comm, Nat.mul_comm]

theorem _root_.Go.RowKit.Below.drewN {B : Nat} {a w : World} (h : Below B a w) (n : Nat) : Below B a (w.drewN n) := ⟨h.os, h.tape, h.output, h.size, h.block⟩

/-- Get's loop: the node that is reached, and what it maps. -/
structure GetAt (w : World) (m : MapM) (b : Nat) (n l : Value) (wr : World) : Prop where
  st : ∃ (L : Nat) (m' : MapM), L ≤ 2 ∧ l = .int .i64 (L : Int) ∧ NodeAt TNode wr L n m' ∧ m' (b % 16 ^ (L + 1)) = m b ∧ Below w.heap.size w wr

set_option maxHeartbeats 1000000 in
theorem tget_any (r nv : Value) (m : MapM) (b : Nat) (hb : b < 4096) (w : World) (hr : NodeAt TNode w 2 r m) :
    Calls Try.prog 76 #[.agg #[r, nv], .int .i64 (b : Int)] w fun e w' => e = .returned (.tuple #[.int .i64 ((m b).getD 0), .bool (m b).isSome]) ∧ Below w.heap.size w w' := by
  obtain ⟨q, rfl⟩ := hr.ptr
  have hblk : blkB (b : Int) = true := SpaceM.blkB_iff.2 ⟨by omega, by omega⟩
  have hv := valid_any (b : Int) (w.alloc (.cells #[.pointer q, nv] TTree))
  rw [hblk] at hv
  have hb1 : Below w.heap.size w (w.alloc (.cells #[.pointer q, nv] TTree)) := (Below.refl _ _).alloc (Nat.le_refl _) _
  have hst : GetAt w m b (.pointer q) (.int .i64 2) (w.alloc (.cells #[.pointer q, nv] TTree)) := ⟨⟨2, m, Nat.le_refl _, rfl, hr.below hb1, by rw [Nat.mod_eq_of_lt (by omega)], hb1⟩⟩
  have HST := Lib.hid hst
  have HV := Lib.hid hv
  clear hst hv hb1 hblk hr
  go_enter Try.func76, Try.ntmps76
  go_wp2_with (go_at_call 77; refine HV.out.mono ?_; rintro e w' ⟨rfl, rfl⟩)
  clear HV
  go_loopw [6, 7] (fun n l wr => GetAt w m b n l wr) (fun _ l _ => (intOf l).toNat)
  case atStart => exact HST.out
  case round =>
    clear HST
    obtain ⟨L, m', hL, rfl, hn, hm, hbw⟩ := hrel.st
    clear hrel
    have HM := Lib.hid (And.intro hm hbw)
    clear hm hbw
    have hsl := slot_any L b hL hb wr
    have HSL := Lib.hid hsl
    have hs16 := slotN_lt L b
    clear hsl
    obtain ⟨q', rfl⟩ := hn.ptr
    cases q' with
    | none =>
      have hnil := anyB_false.1 hn.nil (b % 16 ^ (L + 1)) (Nat.mod_lt _ (pow16_pos _))
      rw [HM.out.1] at hnil
      have HN := Lib.hid hnil
      clear hnil hn HSL
      go_wp2
      go_ret2
      exact ⟨by rw [HN.out]; rfl, HM.out.2⟩
    | some ad =>
      match L, hL with
      | 0, hL =>
        obtain ⟨b0, rfl, _, _, _⟩ := NodeOk.block hn
        obtain ⟨hh, _, _⟩ := NodeOk.leaf hn
        obtain ⟨k0, _, k2⟩ := nodeC_at hh (by simp [nils])
        have k17 := k2 (slotN 0 b) _ (chs_at m' hs16)
        have hbit := bit1 (has0 m') (slotN 0 b) (has0_lt m')
        rw [has0_bit m' hs16] at hbit
        have hmm : m' (slotN 0 b) = m b := by rw [← HM.out.1]; unfold slotN; congr 1; simp
        rw [hmm] at hbit k17
        have HB := Lib.hid hbit
        have hlt := has0_lt m'
        generalize has0 m' = hs at k0 HB hlt
        generalize slotN 0 b = sl at *
        clear hn hbit k2 hmm hh hL
        go_upto_region 9 with (go_at_call 99; refine HSL.out.mono ?_; rintro e w' ⟨rfl, rfl⟩)
        go_quiet (fail)
        go_wp2
        go_ret2
        exact ⟨by rw [HB.out]; cases m b <;> rfl, HM.out.2.drewN _⟩
      | L + 1, hL =>
        obtain ⟨b0, rfl, _, _, _⟩ := NodeOk.block hn
        obtain ⟨kids, hlen, hh, hkid, _, _⟩ := NodeOk.inner hn
        obtain ⟨k0, k1, _⟩ := nodeC_at hh hlen
        obtain ⟨kd, hkd⟩ : ∃ kd, kids[slotN (L + 1) b]? = some kd := ⟨_, List.getElem?_eq_getElem (by rw [hlen]; exact hs16)⟩
        have k17 := k1 _ _ hkd
        have hkn := hkid _ _ hkd
        have hmm : sub m' L (slotN (L + 1) b) (b % 16 ^ (L + 1)) = m b := by
          rw [← HM.out.1, mod_split]
          unfold sub slotN
          rw [if_pos (Nat.mod_lt _ (pow16_pos _))]
        obtain ⟨kq, rfl⟩ := NodeOk.ptr hkn
        have HN := Lib.hid (And.intro hkn hmm)
        have hL2 : (L : Int) ≤ 1 := by omega
        generalize slotN (L + 1) b = sl at *
        clear hn k1 hmm hh hkid hkn k0 hkd hlen
        have hL0 : (((L : Int) + 1) == 0) = false := by simp; omega
        go_wp2_with (go_at_call 99; refine HSL.out.mono ?_; rintro e w' ⟨rfl, rfl⟩)
        refine ⟨⟨⟨L, _, by omega, rfl, HN.out.1, HN.out.2, HM.out.2⟩⟩, ?_⟩
        simp only [intOf]; omega
end Go.Proofs.Ytednjhlkhecihaa
