/- solventref16.Text, solventlaw16.few. -/
import Derived.Test.YtdeblpnkpefbcaaLc
namespace Go.Proofs.Ytdeblpnkpefbcaa
open Go.RowKit Go.Sl Go.ChangeMaps

structure OpM where
  kind : Int
  i : Int
  j : Int
  fill : UInt8
  size : Int
  picks : List Int
def OpM.len (o : OpM) : Nat := (max 0 (min o.size 100)).toNat
def OpM.text (o : OpM) : List UInt8 := List.replicate o.len o.fill
/-- The operation's cells; its picks are the slice v. -/
def opA (o : OpM) (v : Value) : Array Value := #[.int .i64 o.kind, .int .i64 o.i, .int .i64 o.j, .int .u8 (o.fill.toNat : Int), .int .i64 o.size, v]
abbrev TOp : TypeId := 32
abbrev TB : TypeId := 5

theorem few_yes (n : Int) (ao : Option Addr) (L cap : Nat) (w : World) (h0 : 0 ≤ n) (h1 : n ≤ 40) (h2 : L ≤ 200) :
    Calls Try.prog 10 #[.int .i64 n, .slice ao L cap] w fun e w' => e = .returned (.bool true) ∧ w = w' := by
  have q0 : decide (0 ≤ n) = true := decide_eq_true h0
  have q1 : decide (n ≤ 40) = true := decide_eq_true h1
  have q2 : decide ((L : Int) ≤ 200) = true := decide_eq_true (by omega)
  clear h0 h1 h2
  go_enter Try.func10, Try.ntmps10
  go_wp2
  go_ret
  exact ⟨rfl, rfl⟩
theorem few_no (n : Int) (ao : Option Addr) (L cap : Nat) (w : World) (h : ¬ (0 ≤ n ∧ n ≤ 40 ∧ L ≤ 200)) :
    Calls Try.prog 10 #[.int .i64 n, .slice ao L cap] w fun e w' => e = .returned (.bool false) ∧ w = w' := by
  by_cases h0 : 0 ≤ n
  · have q0 : decide (0 ≤ n) = true := decide_eq_true h0
    by_cases h1 : n ≤ 40
    · have q1 : decide (n ≤ 40) = true := decide_eq_true h1
      have q2 : decide ((L : Int) ≤ 200) = false := decide_eq_false (by omega)
      clear h0 h1 h
      go_enter Try.func10, Try.ntmps10
      go_wp2
      go_ret
      exact ⟨rfl, rfl⟩
    · have q1 : decide (n ≤ 40) = false := decide_eq_false h1
      clear h0 h1 h
      go_enter Try.func10, Try.ntmps10
      go_wp2
      go_ret
      exact ⟨rfl, rfl⟩
  · have q0 : decide (0 ≤ n) = false := decide_eq_false h0
    clear h0 h
    go_enter Try.func10, Try.ntmps10
    go_wp2
    go_ret
    exact ⟨rfl, rfl⟩

structure TextSt (w : World) (o : OpM) (pv : Value) (B g : Nat) (F : HProp) (i : Value) (wr : World) : Prop where
  st : ∃ (k : Nat) (cur : Array Value), k ≤ o.len ∧ i = .int .i64 k ∧ Same w wr ∧ cur.size = o.len ∧ (∀ j, j < k → cur[j]? = some (.int .u8 (o.fill.toNat : Int))) ∧ Sat wr (pts B (.cells (opA o pv) TOp (0, 0)) * (pts g (.cells cur TB (0, 0)) * F))

set_option maxHeartbeats 1000000 in
theorem text_any (o : OpM) (pv : Value) (w : World) :
    Calls Try.prog 25 #[.agg (opA o pv)] w fun e w' => e = .returned (.string (strV o.text)) ∧ Hid (Below w.heap.size w w') := by
  obtain ⟨i0, hi, hz0, hz1, hz2⟩ := info_parts (show (Try.prog.info? TB).map (fun i => (i.zero, i.size, i.bytes)) = some (some (.int .u8 0), 1, 1) from by kernel_rfl)
  have hn : o.len ≤ 100 := by unfold OpM.len; omega
  have hni : (o.len : Int) = max 0 (min o.size 100) := by unfold OpM.len; omega
  obtain ⟨n, hnn⟩ : ∃ n, n = o.len := ⟨_, rfl⟩
  rw [← hnn] at hn hni
  have HN := Lib.hid hnn
  have HNI := Lib.hid hni
  have hk6 : Try.prog.cellsOf TOp = 6 := by kernel_rfl
  clear hnn hni
  go_enter Try.func25, Try.ntmps25
  go_upto_region 1 with (fail)
  have hs0 := (Sat.old w).alloc (.cells (opA o pv) TOp)
  have hsm0 := (Same.refl w).alloc (.cells (opA o pv) TOp)
  generalize w.alloc (.cells (opA o pv) TOp) = w1 at hs0 hsm0 ⊢
  generalize w.heap.size = B at hs0 ⊢
  have c4 : w1.cell? ⟨B, 4, none⟩ = some (.int .i64 o.size) := by rw [cells_at hs0.block]; rfl
  have H0 := Lib.hid (And.intro hsm0 hs0)
  clear hs0 hsm0
  go_wp2_with (at_make; rw [← HNI.out]; refine wpList_make_full _ rfl _ _ 56 rfl w1.heap.size TB i0 (.int .u8 0) 1 Try.underlying56 hi hz0 hz1 .i64 .i64 _ _ n rfl rfl ?_ ?_ ?_ ?_ ?_ ?_)
  all_goals first | rfl | omega | (rw [hz2]; omega) | (unfold maxLen; omega) | exact Nat.zero_le _ | exact Nat.le_refl _ | skip
  intro w2 hown hg
  have hs2 := Sat.ownRow H0.out.2 (fun k hk => hg.block k hk (by simp)) (Nat.le_refl _) hown
  have hsm2 : Same w w2 := H0.out.1.trans ⟨hg.os, hg.tape, hg.output, hg.size⟩
  rcases ownAt_iff.1 hs2 with ⟨h, _⟩ | ⟨g, cap, cur, ⟨hv, _, _, hcs, _, _⟩, hs3⟩
  · simp at h
  injection hv with hv1 hv2 hv3
  obtain rfl : w1.heap.size = g := by simpa using hv1
  subst hv3
  have hst : TextSt w o pv B w1.heap.size (old w) (.int .i64 0) w2 := ⟨⟨0, cur, Nat.zero_le _, rfl, hsm2, by rw [hcs, ← HN.out, Nat.mul_one], by intro j hj; omega, hs3.perm (by ac_rfl)⟩⟩
  have HST := Lib.hid hst
  clear hst hs3 hs2 hsm2 hown hg hcs c4
  generalize w1.heap.size = g at HST ⊢
  go_wp2
  go_loopw [4] (fun i wr => TextSt w o pv B g (old w) i wr) (fun i _ => n - (intOf i).toNat)
  case atStart => exact HST.out
  case round =>
    obtain ⟨k, cur, hk, rfl, hsm, hcz, hcells, hs⟩ := hrel.st
    clear hrel
    rw [← HN.out] at hk hcz
    have c3 : wr.cell? ⟨B, 3, none⟩ = some (.int .u8 (o.fill.toNat : Int)) := by rw [cells_at hs.block]; rfl
    have HS := Lib.hid (And.intro hsm hs)
    have HC := Lib.hid hcells
    clear hsm hcells
    by_cases hlt : k < n
    · have hltd : decide ((k : Int) < (n : Int)) = true := decide_eq_true (by omega)
      have hki : (k : Int) ≤ 100 := by omega
      have hk0 : (0 : Int) ≤ (k : Int) := by omega
      have hkn : (k : Int) < (n : Int) := by omega
      obtain ⟨u, hu⟩ : ∃ u, cur[k]? = some u := ⟨_, Array.getElem?_eq_getElem (by omega)⟩
      have ck : wr.cell? ⟨g, k, none⟩ = some u := by rw [cells_at hs.right.block]; exact hu
      have fk : wr.frozen? ⟨g, k, none⟩ = false := thawed_at hs.right.block _
      clear hs
      go_wp2
      refine ⟨⟨k + 1, cur.setIfInBounds k (.int .u8 (o.fill.toNat : Int)), by rw [← HN.out]; omega, rfl, HS.out.1.setCell _ _, by rw [Array.size_setIfInBounds, hcz, ← HN.out], ?_, ?_⟩, by simp only [intOf]; omega⟩
      · intro j hj
        rw [Array.getElem?_setIfInBounds]
        split
        · rw [if_pos (by omega)]
        · exact HC.out j (by omega)
      · exact ((HS.out.2.perm (show _ = pts g (.cells cur TB (0, 0)) * (pts B (.cells (opA o pv) TOp (0, 0)) * old w) from by ac_rfl)).setCell (i := k) (.int .u8 (o.fill.toNat : Int))).perm (by ac_rfl)
    · obtain rfl : k = n := by omega
      have hltd : decide ((k : Int) < (k : Int)) = false := decide_eq_false (by omega)
      have hlen : o.text.length = k := by rw [HN.out]; simp [OpM.text]
      have hcv : (convert 56 9 (.slice (some ⟨g, 0, none⟩) k k)).run Try.prog wr = .ok (.string (strV o.text)) wr := by
        have := run_convert_bytes_back (P := Try.prog) wr 56 9 5 ⟨g, 0, none⟩ k o.text Try.underlying56 Try.underlying5 Try.underlying9 (by
          intro j hj
          rw [Addr.add_mid, cells_at hs.right.block, Nat.zero_add, HC.out j (by omega)]
          simp [OpM.text])
        rw [hlen] at this; exact this
      clear hs
      go_wp2_with ((with_reducible (refine wpList_run ?_ (exec_convert ?_ ?_ hcv) ?_)); rfl; rfl; rfl)
      go_ret
      exact ⟨rfl, HS.out.1.below_of (HS.out.2.perm (show _ = pts B (.cells (opA o pv) TOp (0, 0)) * pts g (.cells cur TB (0, 0)) * old w from by ac_rfl))⟩

end Go.Proofs.Ytdeblpnkpefbcaa
