import Derived.Test.YteikbikopgabjaaGreatDoorH25
import Derived.Lib.AppendZerosOnto
import Derived.Lib.Walk
import Derived.Lib.SliceRun
import Derived.Test.YteikbikopgabjaaGreatDoorH06
import Derived.Laws.AppendOwnNone
/- Part 26 of a proof; the last part says what is proved. -/
section
namespace Go.Proofs.YteikbikopgabjaaGreatDoor
open Go.RowKit Go.GF Go.Sl
theorem und_int : Tryz.prog.underlying TI = some (.int .i64) := Tryz.underlying3
theorem run_grow0 {base : Nat} (n : Nat) (h0 : 0 < n) (hn : n ≤ 100000) (w : World) (hB : base ≤ w.heap.size) : ∃ cp w', (∀ ty, (Builtin.append_ #[36, TI] ty #[.slice none 0 0, .int .i64 (n : Int)]).run Tryz.prog w = .ok (.slice (some ⟨w.heap.size, 0, none⟩) n cp) w') ∧ OwnI base w' (.slice (some ⟨w.heap.size, 0, none⟩) 0 cp) [] ∧ Below base w w' ∧ n ≤ cp ∧ cp ≤ maxLen := by
 obtain ⟨i0, hi, hz0, hz1, hz2⟩ := info_parts info_int3
 have hold : (Builtin.firstCells i0.size 0 (.slice none 0 0)).run Tryz.prog w.drew = .ok ([] : List Value).toArray w.drew := run_firstCells_none w.drew i0.size 0 0 0
 have hge := grownCap_ge w n 0 TI
 have hle := grownCap_le_maxLen w n 0 TI (by unfold maxLen; omega)
 refine ⟨grownCap w n 0 TI, w.drew.alloc (.cells (([] : List Value).toArray ++ Builtin.zeroCells (Value.int .i64 0).cells n ++ Builtin.zeroCells (Value.int .i64 0).cells (grownCap w n 0 TI - n)) TI), fun ty => ?_, ?_, ?_, hge, hle⟩
 ·have h := Lib.run_append_grow_zeros (P := Tryz.prog) w 36 TI ty TI i0 (.int .i64 0) .i64 .i64 Tryz.underlying36 und_int hi hz0 none 0 0 [] hold n h0 (by rw [hz1]; omega) (by omega) (by omega) (by rw [hz2]; omega)
   (by rw [Nat.zero_add]; exact growslice_fits h0 (by rw [hz2]; omega))
  rw [Nat.zero_add] at h
  exact h
 ·refine ⟨by simp [intsV], .inr ⟨w.heap.size, grownCap w n 0 TI, _, rfl, hB, by have := World.alloc_heap_new w.drew (.cells (([] : List Value).toArray ++ Builtin.zeroCells (Value.int .i64 0).cells n ++ Builtin.zeroCells (Value.int .i64 0).cells (grownCap w n 0 TI - n)) TI); exact this, Nat.zero_le _, hle, ?_, by simp [intsV]⟩⟩
  simp only [Array.size_append, size_zeroCells, List.size_toArray, List.length_nil]
  rw [show (Value.int .i64 0).cells.size = 1 from rfl]
  omega
 ·have h1 : Below base w w.drew := (Below.refl base w).drew
  exact h1.alloc hB _
set_option maxRecDepth 20000 in
theorem grow_any (base n : Nat) (hn : n ≤ 100000) (w : World) (hB : base ≤ w.heap.size) : Calls Tryz.prog 156 #[.slice none 0 0, .int .i64 (n : Int)] w fun e w' => ∃ v, e = .returned v ∧ OwnI base w' v [] ∧ Below base w w' := by
 have h1 : decide ((n : Int) < 0) = false := decide_eq_false (by omega)
 have hw : IntKind.i64.wrap (n : Int) = (n : Int) := wrap_nat (by omega)
 by_cases h0 : n = 0
 ·subst h0
  go_enter Tryz.func156, Tryz.ntmps156
  go_wp2
  go_ret
  exact ⟨_, rfl, OwnI.nil _ _, Below.refl _ _⟩
 ·have h2 : decide ((0 : Int) < (n : Int)) = true := decide_eq_true (by omega)
  have hpos : 0 < n := by omega
  obtain ⟨cp, w1, hr, ho, hb, hc1, hc2⟩ := run_grow0 (base := base) n hpos hn w hB
  have HO := Lib.hid (And.intro ho hb)
  have hc0 : (cp : Int) ≤ 9223372036854775807 := by unfold maxLen at hc2; omega
  clear ho hb h0 hc1 hc2
  go_enter Tryz.func156, Tryz.ntmps156
  go_wp2_with (at_builtin; refine Lib.wpList_append_run _ rfl _ _ _ _ rfl _ _ rfl rfl _ _ (hr _) ?_)
  all_goals
   go_ret
   exact ⟨_, rfl, HO.out.1, HO.out.2⟩
def lenF (L : List (List Int)) (n : Nat) : Nat := (L.take n).flatten.length
structure CcA (w : World) (L : List (List Int)) (s k : Value) (wr : World) : Prop where
 st : ∃ n : Nat, n ≤ L.length ∧ k = .int .i64 (n : Int) ∧ s = .int .i64 ((lenF L n : Nat) : Int) ∧ w = wr
structure CcB (w : World) (base : Nat) (L : List (List Int)) (v k : Value) (wr : World) : Prop where
 st : ∃ n : Nat, n ≤ L.length ∧ k = .int .i64 (n : Int) ∧ OwnI base wr v (L.take n).flatten ∧ Below base w wr
set_option maxRecDepth 20000 in
set_option maxHeartbeats 4000000 in
theorem concat_any (pv : Value) (L : List (List Int)) (w : World) (hp : RowsI w pv L) (hne : ∀ r ∈ L, 0 < r.length) (htot : L.flatten.length ≤ 50000) :
  Calls Tryz.prog 143 #[pv] w fun e w' => ∃ v, e = .returned v ∧ OwnI w.heap.size w' v L.flatten ∧ Below w.heap.size w w' := by
 have HPR := Lib.hid (fun W (hb : Below w.heap.size w W) => hp.below hb)
 have HNE := Lib.hid hne
 have HTK := Lib.hid (fun (n : Nat) => show lenF L n ≤ 50000 by
  have h : (L.take n).flatten.length ≤ L.flatten.length := by
   conv => rhs; rw [← List.take_append_drop n L, List.flatten_append, List.length_append]
   omega
  unfold lenF; omega)
 have HG := Lib.hid (fun (n : Nat) (hn : n ≤ 100000) => grow_any w.heap.size n hn w (Nat.le_refl _))
 obtain ⟨rvs, ⟨ao, cp, rfl, hl1, hl2, -⟩, hlen, -⟩ := hp
 rw [hlen] at hl1 HPR ⊢
 unfold maxLen at hl2
 have hl63 : L.length ≤ 9223372036854775807 := by omega
 have HTOT := Lib.hid htot
 clear hne htot hlen hl1 hl2
 go_enter Tryz.func143, Tryz.ntmps143
 go_wp2
 go_loopw [3, 11] (fun s k wr => CcA w L s k wr) (fun _ k _ => L.length - (intOf k).toNat)
 case atStart => exact ⟨⟨0, Nat.zero_le _, rfl, rfl, rfl⟩⟩
 case round =>
  obtain ⟨k, hk, rfl, rfl, rfl⟩ := hrel.st
  clear hrel
  by_cases hlt : k < L.length
  ·have hltd : decide ((k : Int) < (L.length : Int)) = true := decide_eq_true (by omega)
   have hki : (k : Int) ≤ 9223372036854775806 := by omega
   obtain ⟨rvs, hv, hlen, hrows⟩ := HPR.out w (Below.refl _ _)
   obtain ⟨ao', cp', hv', hc1, hc2, hrow⟩ := hv
   rw [hlen] at hv' hrow
   have hv2 : ao' = ao := by
    have := hv'
    simp only [Value.slice.injEq] at this
    exact this.1.symm
   subst hv2
   obtain ⟨q, off, rfl, hq, hcell⟩ := hrow (by omega)
   obtain ⟨x, hx⟩ : ∃ x, rvs[k]? = some x := ⟨_, List.getElem?_eq_getElem (by omega)⟩
   have e0 := hcell k x hx
   obtain ⟨r, hr, hxr⟩ := hrows k x hx
   obtain ⟨bo, co, rfl, -, -, -⟩ := hxr
   rw [intsV_len] at e0
   have htk : lenF L (k + 1) = lenF L k + r.length := by
    unfold lenF
    rw [List.take_add_one, hr]; simp
   have h5 := HTK.out (k + 1)
   have hw1 : IntKind.i64.wrap (((lenF L k : Nat) : Int) + (r.length : Int)) = ((lenF L (k + 1) : Nat) : Int) := by
    rw [htk]; rw [show ((lenF L k : Nat) : Int) + (r.length : Int) = ((lenF L k + r.length : Nat) : Int) by simp]; exact wrap_nat (by omega)
   have hnn : decide (((lenF L (k + 1) : Nat) : Int) < 0) = false := decide_eq_false (by omega)
   clear hv' hc1 hc2 hrow hcell hx hrows hr htk h5 hlen
   go_wp2
   go_roundw
   case rel => exact ⟨⟨k + 1, hlt, rfl, rfl, rfl⟩⟩
   case measure => simp only [intOf]; omega
  ·have hke : k = L.length := by omega
   have hltd : decide ((k : Int) < (L.length : Int)) = false := decide_eq_false (by omega)
   have hlf : lenF L k = L.flatten.length := by unfold lenF; rw [hke, List.take_length]
   have hG := HG.out (lenF L k) (by have := HTOT.out; omega)
   have HG2 := Lib.hid hG
   clear hG hke HG hlf
   generalize lenF L k = NN at *
   go_wp2_with (go_at_call 156; refine HG2.out.mono ?_; rintro e w1 ⟨v1, rfl, h1, h2⟩)
   have HF := Lib.hid (And.intro h1 h2)
   clear h1 h2 HG2
   go_loopw [6, 27] (fun v k wr => CcB w w.heap.size L v k wr) (fun _ k _ => L.length - (intOf k).toNat)
   case atStart => exact ⟨⟨0, Nat.zero_le _, rfl, HF.out.1, HF.out.2⟩⟩
   case round =>
    clear HF
    obtain ⟨k, hk, rfl, hO, hB⟩ := hrel.st
    clear hrel
    by_cases hlt : k < L.length
    ·have hltd : decide ((k : Int) < (L.length : Int)) = true := decide_eq_true (by omega)
     have hki : (k : Int) ≤ 9223372036854775806 := by omega
     obtain ⟨rvs, hv, hlen, hrows⟩ := HPR.out wr hB
     obtain ⟨ao', cp', hv', hc1, hc2, hrow⟩ := hv
     rw [hlen] at hv' hrow
     have hv2 : ao' = ao := by
      have := hv'
      simp only [Value.slice.injEq] at this
      exact this.1.symm
     subst hv2
     obtain ⟨q, off, rfl, hq, hcell⟩ := hrow (by omega)
     obtain ⟨x, hx⟩ : ∃ x, rvs[k]? = some x := ⟨_, List.getElem?_eq_getElem (by omega)⟩
     have e0 := hcell k x hx
     obtain ⟨r, hr, hxr⟩ := hrows k x hx
     obtain ⟨bo, co, rfl, -, -, hrr⟩ := hxr
     rw [intsV_len] at e0 hrr
     obtain ⟨rb, roff, rfl, -, hrc⟩ := hrr (HNE.out r (List.mem_of_getElem? hr))
     have htk : (L.take (k + 1)).flatten = (L.take k).flatten ++ r := by rw [List.take_add_one, hr]; simp
     have h5 := HTK.out (k + 1)
     unfold lenF at h5
     rw [htk, List.length_append] at h5
     obtain ⟨v', w2, hrun, ho2, hb2⟩ := run_apL hO rb roff co r (fun j u hu => hrc j _ (intsV_at hu)) (by omega) hB.size
     have HN := Lib.hid (show OwnI w.heap.size w2 v' (L.take (k + 1)).flatten ∧ Below w.heap.size w w2 by rw [htk]; exact ⟨ho2, hB.trans hb2⟩)
     clear hv' hc1 hc2 hrow hcell hx hrows hr htk h5 hlen hrc ho2 hb2 hO hB
     go_wp2_with (at_builtin; refine Lib.wpList_append_run _ rfl _ _ _ _ rfl _ _ rfl rfl _ _ hrun ?_)
     go_roundw
     case rel => exact ⟨⟨k + 1, hlt, rfl, HN.out.1, HN.out.2⟩⟩
     case measure => simp only [intOf]; omega
    ·have hke : k = L.length := by omega
     have hltd : decide ((k : Int) < (L.length : Int)) = false := decide_eq_false (by omega)
     rw [hke, List.take_length] at hO
     have HN := Lib.hid (And.intro hO hB)
     clear hO hB hke
     go_wp2
     go_ret
     exact ⟨_, rfl, HN.out.1, HN.out.2⟩
end Go.Proofs.YteikbikopgabjaaGreatDoor
end
section
namespace Go.Sl
open Go Go.RowKit
section
variable {P : Program} {ops : Array Oper} {Q Q1 Q2 : Exit → Act → World → Prop} {S : World → Prop}
theorem upon_weak {o : Oper} {a : Act} {K1 K2 : Act → World → Prop} (hP : ∀ c a w, Q1 (.panic c) a w → Q2 (.panic c) a w) (hL : LetsOut Q1 → LetsOut Q2) (hK : ∀ a w, K1 a w → K2 a w) {r : Result Next} (h : o.upon P a K1 Q1 r) : o.upon P a K2 Q2 r := by
 cases r with
 | ok x w' =>
  cases x <;> simp only [Oper.upon] at h ⊢ <;> first
   | exact hK _ _ h
   | exact Calls.mono h (fun e w'' he => by cases e <;> first | exact hK _ _ he | exact hP _ _ _ he | exact hL he)
   | exact Rows.mono h (fun _ _ he => hK _ _ he)
 | halt x w' =>
  cases x <;> simp only [Oper.upon] at h ⊢
  exact hP _ _ _ h
theorem wpOp_weak {i : Nat} {a : Act} {w : World} {K1 K2 : Act → World → Prop} (hP : ∀ c a w, Q1 (.panic c) a w → Q2 (.panic c) a w) (hL : LetsOut Q1 → LetsOut Q2) (hK : ∀ a w, K1 a w → K2 a w) (h : wpOp P ops Q1 i K1 a w) : wpOp P ops Q2 i K2 a w := by
 unfold wpOp at *
 split
 ·next ho => rw [ho] at h; exact hK _ _ h
 ·next o ho =>
  rw [ho] at h
  simp only at h
  split
  ·next hw =>
   rw [if_pos hw] at h
   rcases h with h | h
   ·left; unfold Oper.wp at *; exact upon_weak hP hL hK h
   ·right; exact ⟨h.1, hL h.2⟩
  ·next hw => rw [if_neg hw] at h; exact hK _ _ h
theorem wpAnyG_weak (hN : ∀ a w, Q1 .normal a w → Q2 .normal a w) (hP : ∀ c a w, Q1 (.panic c) a w → Q2 (.panic c) a w) (hL : LetsOut Q1 → LetsOut Q2) : ∀ (fuel : Nat) (listed : Array Bool) (a : Act) (w : World), wpAnyG P ops Q1 S fuel listed a w → wpAnyG P ops Q2 S fuel listed a w
 | 0, _, _, _, h => ⟨h.1, hN _ _ h.2⟩
 | fuel + 1, _, _, _, h => ⟨fun h0 => hN _ _ (h.1 h0), fun i hi => wpOp_weak hP hL (fun a' w' h' => ⟨h'.1, wpAnyG_weak hN hP hL fuel _ a' w' h'.2⟩) (h.2 i hi)⟩
def atEnd (Q : Exit → Act → World → Prop) (R : Array Value → List Deferred → World → Prop) : Exit → Act → World → Prop
 | .normal, a, w => R a.tmps a.defers w
 | e, a, w => Q e a w
end
section
variable {P : Program} {ops : Array Oper} {Q : Exit → Act → World → Prop} {S : World → Prop} {fuel : Nat} {listed : Array Bool} {t : Array Value} {df : List Deferred} {w : World}
theorem reg_cut (R : Array Value → List Deferred → World → Prop) (h : Reg P ops (atEnd Q R) S fuel listed t df w) (k : ∀ t' df' w', R t' df' w' → Q .normal ⟨t', df'⟩ w') : Reg P ops Q S fuel listed t df w :=
 ⟨fun hc => wpAnyG_weak (Q1 := NoPanic (atEnd Q R)) (Q2 := NoPanic Q) (fun a w (h : R a.tmps a.defers w) => (k _ _ _ h : Q .normal ⟨a.tmps, a.defers⟩ w)) (fun _ _ _ h => h) (fun ⟨a, w, h⟩ => ⟨a, w, h⟩) _ _ _ _ (h.out hc)⟩
end
end Go.Sl
end
section
namespace Go.Proofs.YteikbikopgabjaaGreatDoor
open Go.RowKit Go.GF Go.Sl
theorem run_apB {w : World} {base base2 g n cp : Nat} {L L2 : List Int} {v2 : Value} (hown : OwnI base w (.slice (some ⟨g, 0, none⟩) n cp) L) (h2 : OwnI base2 w v2 L2) (hn : L.length + L2.length ≤ 100000) (hb : base ≤ w.heap.size) :
  ∃ v' w', (Builtin.append_ #[36, 36] 36 #[.slice (some ⟨g, 0, none⟩) n cp, v2]).run Tryz.prog w = .ok v' w' ∧ OwnI base w' v' (L ++ L2) ∧ But g w w' := by
 obtain ⟨i0, hi, hz0, hz1, hz2⟩ := info_parts info_int3
 rcases h2.2 with ⟨rfl, hn2⟩ | ⟨g2, cap2, cur, rfl, -⟩
 ·have hL2 : L2 = [] := List.eq_nil_of_length_eq_zero hn2
  subst hL2
  have hr := run_append_owned_none (P := Tryz.prog) (w := w) base 36 36 TI i0 1 Tryz.underlying36 hi (.slice (some ⟨g, 0, none⟩) n cp) L.length (intsV L) hown
  exact ⟨_, w, hr, by rw [List.append_nil]; exact hown, But.refl _ _⟩
 ·obtain ⟨v', w', hr, h3, h4, h5⟩ := run_append_own (P := Tryz.prog) w base 36 36 TI i0 (.int .i64 0) 1 8 Tryz.underlying36 hi hz0 hz1 hz2 rfl (by decide) (.slice (some ⟨g, 0, none⟩) n cp) L.length (intsV L) hown ⟨g2, 0, none⟩ L2.length cap2 (intsV L2) (by rw [intsV_len, Nat.mul_one])
   (World.ownsRow.cells h2 (g := g2) rfl)
   (by
    intro u hu
    unfold intsV at hu
    obtain ⟨x, -, rfl⟩ := List.mem_map.1 hu
    rfl) (by unfold maxLen; omega) (by omega) hb
  refine ⟨v', w', hr, ?_, ⟨h4.os, h4.tape, h4.output, h4.size, fun k hk hne => h4.block k hk (by simpa [Value.ownBlock] using hne)⟩⟩
  show w'.ownsRow base TI 1 v' (L ++ L2).length (intsV (L ++ L2))
  rw [intsV_app, List.length_append]
  exact h3
end Go.Proofs.YteikbikopgabjaaGreatDoor
end
