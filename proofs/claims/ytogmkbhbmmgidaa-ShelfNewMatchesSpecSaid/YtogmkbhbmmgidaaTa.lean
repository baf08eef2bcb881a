/- solventref17.Text, Small. -/
import Derived.Test.YtogmkbhbmmgidaaSx
import Derived.Test.YtogmkbhbmmgidaaSy
namespace Go.Proofs.Ytogmkbhbmmgidaa
open Go.RowKit Go.Sl Go.ChangeMaps

structure OpN where
  kind : Int
  at_ : PlaceM
  dst : PlaceM
  n : Int
  fill : UInt8
  size : Int
  picks : List Int
def OpN.len (o : OpN) : Nat := (max 0 (min o.size 100)).toNat
def byteK (f : UInt8) (k : Nat) : UInt8 := f + UInt8.ofNat (k % 3)
def OpN.text (o : OpN) : List UInt8 := (List.range o.len).map (byteK o.fill)
/-- The operation's cells; its picks are the slice v. -/
def opN (o : OpN) (v : Value) : Array Value := #[.int .i64 o.kind, .int .i64 o.at_.disk, .int .i64 o.at_.area, .int .i64 o.at_.index, .int .i64 o.dst.disk, .int .i64 o.dst.area, .int .i64 o.dst.index, .int .i64 o.n, .int .u8 (o.fill.toNat : Int), .int .i64 o.size, v]
abbrev TOp : TypeId := 59
abbrev TB : TypeId := 5
theorem byteK_val (f : UInt8) (k : Nat) : ((f.toNat : Int) + (k : Int) % 3) % 256 = ((byteK f k).toNat : Int) := by
  unfold byteK
  rw [UInt8.toNat_add, UInt8.toNat_ofNat']
  omega

structure TextSt (w : World) (o : OpN) (pv : Value) (B g : Nat) (F : HProp) (i : Value) (wr : World) : Prop where
  st : ∃ (k : Nat) (cur : Array Value), k ≤ o.len ∧ i = .int .i64 k ∧ Same w wr ∧ cur.size = o.len ∧ (∀ j, j < k → cur[j]? = some (.int .u8 ((byteK o.fill j).toNat : Int))) ∧ Sat wr (pts B (.cells (opN o pv) TOp (0, 0)) * (pts g (.cells cur TB (0, 0)) * F))

set_option maxHeartbeats 1000000 in
theorem text_any (o : OpN) (pv : Value) (w : World) :
    Calls Try.prog 24 #[.agg (opN o pv)] w fun e w' => e = .returned (.string (strB o.text)) ∧ Hid (Below w.heap.size w w') := by
  obtain ⟨i0, hi, hz0, hz1, hz2⟩ := info_parts (show (Try.prog.info? TB).map (fun i => (i.zero, i.size, i.bytes)) = some (some (.int .u8 0), 1, 1) from by kernel_rfl)
  have hn : o.len ≤ 100 := by unfold OpN.len; omega
  have hni : (o.len : Int) = max 0 (min o.size 100) := by unfold OpN.len; omega
  obtain ⟨n, hnn⟩ : ∃ n, n = o.len := ⟨_, rfl⟩
  rw [← hnn] at hn hni
  have HN := Lib.hid hnn
  have HNI := Lib.hid hni
  have hk6 : Try.prog.cellsOf TOp = 11 := by kernel_rfl
  clear hnn hni
  go_enter Try.func24, Try.ntmps24
  go_upto_region 1 with (fail)
  have hs0 := (Sat.old w).alloc (.cells (opN o pv) TOp)
  have hsm0 := (Same.refl w).alloc (.cells (opN o pv) TOp)
  generalize w.alloc (.cells (opN o pv) TOp) = w1 at hs0 hsm0 ⊢
  generalize w.heap.size = B at hs0 ⊢
  have c4 : w1.cell? ⟨B, 9, none⟩ = some (.int .i64 o.size) := by rw [cells_at hs0.block]; rfl
  have H0 := Lib.hid (And.intro hsm0 hs0)
  clear hs0 hsm0
  go_wp2_with (at_make; rw [← HNI.out]; refine wpList_make_full _ rfl _ _ 52 rfl w1.heap.size TB i0 (.int .u8 0) 1 Try.underlying52 hi hz0 hz1 .i64 .i64 _ _ n rfl rfl ?_ ?_ ?_ ?_ ?_ ?_)
  all_goals first | rfl | omega | (rw [hz2]; omega) | (unfold maxLen; omega) | exact Nat.zero_le _ | exact Nat.le_refl _ | skip
  intro w2 hown hg
  have hs2 := Sat.ownRow H0.out.2 (fun k hk => hg.block k hk (by simp)) (Nat.le_refl _) hown
  have hsm2 : Same w w2 := H0.out.1.trans ⟨hg.os, hg.tape, hg.output, hg.size⟩
  rcases ownAt_iff.1 hs2 with ⟨h, _⟩ | ⟨g, cap, cur, ⟨hv, _, _, hcs, _, _⟩, hs3⟩
  · simp at h
  injection hv with hv1 hv2 hv3
  obtain rfl : w1.heap.size = g := by simpa using hv1
  subst hv3
  have hst : TextSt w o pv B w1.heap.size (old w) (.int .i64 0) w2 := ⟨⟨0, cur, Nat.zero_le _, rfl, hsm2, by rw [hcs, ← HN.out, Nat.mul_one], by intro j hj; omega, hs3.perm (by ac_rfl)⟩⟩
  have HST := Lib.hid hst
  clear hst hs3 hs2 hsm2 hown hg hcs c4
  generalize w1.heap.size = g at HST ⊢
  go_wp2
  go_loopw [4] (fun i wr => TextSt w o pv B g (old w) i wr) (fun i _ => n - (intOf i).toNat)
  case atStart => exact HST.out
  case round =>
    obtain ⟨k, cur, hk, rfl, hsm, hcz, hcells, hs⟩ := hrel.st
    clear hrel
    rw [← HN.out] at hk hcz
    have c3 : wr.cell? ⟨B, 8, none⟩ = some (.int .u8 (o.fill.toNat : Int)) := by rw [cells_at hs.block]; rfl
    have HS := Lib.hid (And.intro hsm hs)
    have HC := Lib.hid hcells
    clear hsm hcells
    by_cases hlt : k < n
    · have hltd : decide ((k : Int) < (n : Int)) = true := decide_eq_true (by omega)
      have hki : (k : Int) ≤ 100 := by omega
      have hk0 : (0 : Int) ≤ (k : Int) := by omega
      have hkn : (k : Int) < (n : Int) := by omega
      obtain ⟨u, hu⟩ : ∃ u, cur[k]? = some u := ⟨_, Array.getElem?_eq_getElem (by omega)⟩
      have ck : wr.cell? ⟨g, k, none⟩ = some u := by rw [cells_at hs.right.block]; exact hu
      have fk : wr.frozen? ⟨g, k, none⟩ = false := thawed_at hs.right.block _
      clear hs
      go_wp2
      rw [byteK_val]
      refine ⟨⟨k + 1, cur.setIfInBounds k (.int .u8 ((byteK o.fill k).toNat : Int)), by rw [← HN.out]; omega, rfl, HS.out.1.setCell _ _, by rw [Array.size_setIfInBounds, hcz, ← HN.out], ?_, ?_⟩, by simp only [intOf]; omega⟩
      · intro j hj
        rw [Array.getElem?_setIfInBounds]
        split
        · rename_i hkj; subst hkj; rw [if_pos (by omega)]
        · exact HC.out j (by omega)
      · exact ((HS.out.2.perm (show _ = pts g (.cells cur TB (0, 0)) * (pts B (.cells (opN o pv) TOp (0, 0)) * old w) from by ac_rfl)).setCell (i := k) (.int .u8 ((byteK o.fill k).toNat : Int))).perm (by ac_rfl)
    · obtain rfl : k = n := by omega
      have hltd : decide ((k : Int) < (k : Int)) = false := decide_eq_false (by omega)
      have hlen : o.text.length = k := by rw [HN.out]; simp [OpN.text]
      have hcv : (convert 52 9 (.slice (some ⟨g, 0, none⟩) k k)).run Try.prog wr = .ok (.string (strB o.text)) wr := by
        have := run_convert_bytes_back (P := Try.prog) wr 52 9 5 ⟨g, 0, none⟩ k o.text Try.underlying52 Try.underlying5 Try.underlying9 (by
          intro j hj
          rw [Addr.add_mid, cells_at hs.right.block, Nat.zero_add, HC.out j (by omega)]
          simp [OpN.text])
        rw [hlen] at this; exact this
      clear hs
      go_wp2_with ((with_reducible (refine wpList_run ?_ (exec_convert ?_ ?_ hcv) ?_)); rfl; rfl; rfl)
      go_ret
      exact ⟨rfl, HS.out.1.below_of (HS.out.2.perm (show _ = pts B (.cells (opN o pv) TOp (0, 0)) * pts g (.cells cur TB (0, 0)) * old w from by ac_rfl))⟩


def sec17 (c : CfgM) : Int := wrap64 (wrap64 (c.log + wrap64 (2 * c.image)) + c.rows)
set_option maxHeartbeats 400000 in
theorem sec17_any (c : CfgM) (w : World) : Calls Try.prog 29 #[.agg (cfgA c)] w fun e w' => e = .returned (.int .i64 (sec17 c)) ∧ Hid (Below w.heap.size w w') := by
  go_enter Try.func29, Try.ntmps29
  go_wp2
  go_ret
  exact ⟨rfl, (Below.refl _ _).alloc (Nat.le_refl _) _⟩
def smallB (c : CfgM) : Bool := decide (c.disks ≤ 6) && decide (c.log ≤ 24) && decide (c.image ≤ 24) && decide (c.rows ≤ 24) && decide (sec17 c ≤ 24)
set_option maxHeartbeats 1000000 in
theorem small_any (c : CfgM) (w : World) : Calls Try.prog 9 #[.agg (cfgA c)] w fun e w' => e = .returned (.bool (smallB c)) ∧ Hid (Below w.heap.size w w') := by
  have he : smallB c = (decide (c.disks ≤ 6) && decide (c.log ≤ 24) && decide (c.image ≤ 24) && decide (c.rows ≤ 24) && decide (sec17 c ≤ 24)) := rfl
  have hs := fun w => sec17_any c w
  obtain ⟨x, hx⟩ : ∃ x, sec17 c = x := ⟨_, rfl⟩
  rw [hx] at he hs
  have HS := Lib.hid hs
  clear hs hx
  cases h1 : decide (c.disks ≤ 6)
  · rw [he, h1]; clear he
    go_enter Try.func9, Try.ntmps9
    go_wp2
    go_ret
    exact ⟨rfl, (Below.refl _ _).alloc (Nat.le_refl _) _⟩
  cases h2 : decide (c.log ≤ 24)
  · rw [he, h1, h2]; clear he
    go_enter Try.func9, Try.ntmps9
    go_wp2
    go_ret
    exact ⟨rfl, (Below.refl _ _).alloc (Nat.le_refl _) _⟩
  cases h3 : decide (c.image ≤ 24)
  · rw [he, h1, h2, h3]; clear he
    go_enter Try.func9, Try.ntmps9
    go_wp2
    go_ret
    exact ⟨rfl, (Below.refl _ _).alloc (Nat.le_refl _) _⟩
  cases h4 : decide (c.rows ≤ 24)
  · rw [he, h1, h2, h3, h4]; clear he
    go_enter Try.func9, Try.ntmps9
    go_wp2
    go_ret
    exact ⟨rfl, (Below.refl _ _).alloc (Nat.le_refl _) _⟩
  rw [he, h1, h2, h3, h4]; clear he
  go_enter Try.func9, Try.ntmps9
  go_wp2_with (go_at_call 29; refine (HS.out _).mono ?_; rintro e w1 ⟨rfl, hb⟩)
  go_ret
  exact ⟨rfl, Below.trans ((Below.refl _ _).alloc (Nat.le_refl _) _) (hb.out.mono (by simp))⟩

end Go.Proofs.Ytogmkbhbmmgidaa
