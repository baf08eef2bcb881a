import Derived.Test.YteikbikopgabjaaGreatDoorH18
import Derived.Lib.SliceRun
/- Part 19 of a proof; the last part says what is proved. -/
section
namespace Go.Loss
open Go Go.RowKit Go.Sl Go.Sha
abbrev UK := {k : Nat × Nat // k.1 < 4096 ∧ k.2 < 32}
structure ChM where
 fill : UInt8
 lost : Bool
 loc : UK
def ChM.row (x : ChM) : Int := (x.loc.1.1 : Int)
def ChM.unit (x : ChM) : Int := (x.loc.1.2 : Int)
end Go.Loss
namespace Go.Proofs.YteikbikopgabjaaGreatDoor
open Go.RowKit Go.Sha Go.Sl Go.GF Go.Vol Go.Loss
abbrev TCh : TypeId := 93
abbrev TTab : TypeId := 106
abbrev TRf : TypeId := 64
def chV (i : Nat) (x : ChM) (rv : Value) : Array Value := #[.int .i64 ((i : Int) + 1)] ++ digM (unitL x.fill) ++ #[.int .u32 (x.fill.toNat : Int), .int .i64 x.row, .int .i64 0, .int .i64 x.unit, .bool x.lost, rv]
theorem chV_size (i : Nat) (x : ChM) (rv : Value) : (chV i x rv).size = 23 := by unfold chV; simp [digM_size]
theorem chV_one (i : Nat) (x : ChM) (rv : Value) (h : rv.oneCell' = true) : ∀ v ∈ (chV i x rv).toList, v.oneCell' = true := by
 intro v hv
 unfold chV at hv
 simp only [Array.toList_append, List.mem_append] at hv
 rcases hv with (hv | hv) | hv
 ·simp at hv; subst hv; rfl
 ·exact digM_one _ v hv
 ·simp at hv
  rcases hv with rfl | rfl | rfl | rfl | rfl | rfl <;> first | rfl | exact h
structure ChAt (A : Array Value) (i : Nat) (x : ChM) (rv : Value) : Prop where
 size : A.size = 23
 id : A[0]? = some (.int .i64 ((i : Int) + 1))
 dig : ∀ j, j < 16 → A[1 + j]? = (digM (unitL x.fill))[j]?
 print : A[17]? = some (.int .u32 (x.fill.toNat : Int))
 row : A[18]? = some (.int .i64 x.row)
 group : A[19]? = some (.int .i64 0)
 unit : A[20]? = some (.int .i64 x.unit)
 lost : A[21]? = some (.bool x.lost)
 refs : A[22]? = some rv
theorem chV_at (i : Nat) (x : ChM) (rv : Value) : ChAt (chV i x rv) i x rv := by
 have hd := digM_size (unitL x.fill)
 refine ⟨chV_size i x rv, ?_, fun j hj => ?_, ?_, ?_, ?_, ?_, ?_, ?_⟩ <;> unfold chV
 ·rw [Array.append_assoc, Array.getElem?_append_left (by simp)]; rfl
 ·rw [Array.getElem?_append_left (by simp [hd]; omega), Array.getElem?_append_right (by simp)]
  simp
 all_goals
  rw [Array.getElem?_append_right (by simp [hd])]
  simp [hd]
theorem chV_set (i : Nat) (x : ChM) (rv rv' : Value) : (chV i x rv).setIfInBounds 22 rv' = chV i x rv' := by
 have hd := digM_size (unitL x.fill)
 apply Array.ext'
 unfold chV
 simp [hd]
def chA (i rb : Nat) (x : ChM) : Array Value := chV i x (.slice (some ⟨rb, 0, none⟩) 1 1)
theorem chA_size (i rb : Nat) (x : ChM) : (chA i rb x).size = 23 := chV_size _ _ _
theorem chA_one (i rb : Nat) (x : ChM) : ∀ v ∈ (chA i rb x).toList, v.oneCell' = true := chV_one _ _ _ rfl
theorem chA_at (i rb : Nat) (x : ChM) : ChAt (chA i rb x) i x (.slice (some ⟨rb, 0, none⟩) 1 1) := chV_at _ _ _
def sOf (b : Nat) (L : List ChM) : Option Addr := if L = [] then none else some ⟨b, 0, none⟩
theorem sOf_pos {b : Nat} {L : List ChM} (h : 0 < L.length) : sOf b L = some ⟨b, 0, none⟩ := if_neg (fun e => by rw [e] at h; simp at h)
structure TabR (w : World) (p b cap : Nat) (rb : Nat → Nat) (L : List ChM) : Prop where
 lt : p < w.heap.size
 hd : w.cell? ⟨p, 0, none⟩ = some (.slice (sOf b L) L.length cap)
 max : L.length ≤ 1000
 blt : L ≠ [] → b < w.heap.size
 row : ∀ i x, L[i]? = some x → w.rangeAt b (i * 23) (chA i (rb i) x).toList
 ref : ∀ i, i < L.length → rb i < w.heap.size ∧ w.cell? ⟨rb i, 0, none⟩ = some (.int .i64 0) ∧ w.cell? ⟨rb i, 1, none⟩ = some (.int .i64 1)
theorem TabR.below {w w' : World} {p b cap : Nat} {rb : Nat → Nat} {L : List ChM} (h : TabR w p b cap rb L) (hb : Below w.heap.size w w') : TabR w' p b cap rb L := by
 have hs := hb.size
 refine ⟨by have := h.lt; omega, (hb.cell (p := ⟨p, 0, none⟩) h.lt).trans h.hd, h.max, fun hn => by have := h.blt hn; omega, fun i x hx j v hv => ?_, fun i hi => ?_⟩
 ·exact (hb.cell (p := ⟨b, i * 23 + j, none⟩) (h.blt (fun e => by rw [e] at hx; simp at hx))).trans (h.row i x hx j v hv)
 ·obtain ⟨h1, h2, h3⟩ := h.ref i hi
  exact ⟨by omega, (hb.cell (p := ⟨rb i, 0, none⟩) h1).trans h2, (hb.cell (p := ⟨rb i, 1, none⟩) h1).trans h3⟩
def cmpI (a b : Int) : Int := if a < b then -1 else if b < a then 1 else 0
theorem isnan_any (n : Int) (w : World) : Calls Tryz.prog 99 #[.int .i64 n] w fun e w' => e = .returned (.bool false) ∧ w' = w := by
 have hn : (n != n) = false := by simp
 go_enter Tryz.func99, Tryz.ntmps99
 go_wp2
 go_ret
 exact ⟨rfl, rfl⟩
set_option maxHeartbeats 1000000 in
theorem compare_any (a b : Int) (w : World) : Calls Tryz.prog 73 #[.int .i64 a, .int .i64 b] w fun e w' => e = .returned (.int .i64 (cmpI a b)) ∧ w' = w := by
 have H1 := Lib.hid (isnan_any a)
 have H2 := Lib.hid (isnan_any b)
 by_cases h1 : a < b
 ·have d1 : decide (a < b) = true := decide_eq_true h1
  have he : cmpI a b = -1 := if_pos h1
  rw [he]
  clear he h1
  go_enter Tryz.func73, Tryz.ntmps73
  go_wp2_with (first
   | (go_at_call 99; (with_reducible refine (H1.out w).mono ?_); rintro e w1 ⟨rfl, rfl⟩; clear H1)
   | (go_at_call 99; (with_reducible refine (H2.out _).mono ?_); rintro e w2 ⟨rfl, rfl⟩))
  go_ret
  exact ⟨rfl, rfl⟩
 ·have d1 : decide (a < b) = false := decide_eq_false h1
  by_cases h2 : b < a
  ·have d2 : decide (b < a) = true := decide_eq_true h2
   have he : cmpI a b = 1 := by unfold cmpI; rw [if_neg h1, if_pos h2]
   rw [he]
   clear he h1 h2
   go_enter Tryz.func73, Tryz.ntmps73
   go_wp2_with (first
    | (go_at_call 99; (with_reducible refine (H1.out w).mono ?_); rintro e w1 ⟨rfl, rfl⟩; clear H1)
    | (go_at_call 99; (with_reducible refine (H2.out _).mono ?_); rintro e w2 ⟨rfl, rfl⟩))
   go_ret
   exact ⟨rfl, rfl⟩
  ·have d2 : decide (b < a) = false := decide_eq_false h2
   have he : cmpI a b = 0 := by unfold cmpI; rw [if_neg h1, if_neg h2]
   rw [he]
   clear he h1 h2
   go_enter Tryz.func73, Tryz.ntmps73
   go_wp2_with (first
    | (go_at_call 99; (with_reducible refine (H1.out w).mono ?_); rintro e w1 ⟨rfl, rfl⟩; clear H1)
    | (go_at_call 99; (with_reducible refine (H2.out _).mono ?_); rintro e w2 ⟨rfl, rfl⟩))
   go_ret
   exact ⟨rfl, rfl⟩
theorem cell0_alloc (w : World) (A : Array Value) (t : TypeId) (v : Value) (h : A[0]? = some v) : (w.alloc (.cells A t)).cell? ⟨w.heap.size, 0, none⟩ = some v := by
 rw [cells_at (((Sat.old w).alloc (.cells A t)).block), h]
theorem find1_any (A : Array Value) (a id : Int) (h0 : A[0]? = some (.int .i64 a)) (w : World) :
  Calls Tryz.prog 72 #[.agg A, .int .i64 id] w fun e w' => e = .returned (.int .i64 (cmpI a id)) ∧ Below w.heap.size w w' := by
 have hk : Tryz.prog.cellsOf TCh = 23 := by kernel_rfl
 have H1 := Lib.hid (compare_any a id)
 have HB := Lib.hid ((Same.refl w).alloc (.cells A TCh) |>.below_of ((Sat.old w).alloc (.cells A TCh)))
 have c0 := cell0_alloc w A TCh _ h0
 go_enter Tryz.func72, Tryz.ntmps72
 go_wp2_with (go_at_call 73; refine (H1.out _).mono ?_; rintro e w1 ⟨rfl, rfl⟩)
 go_ret
 exact ⟨rfl, HB.out⟩
theorem cmp_lt {a b : Int} : decide (cmpI a b < 0) = decide (a < b) := by
 unfold cmpI
 by_cases h : a < b
 ·rw [if_pos h]; simp [h]
 ·rw [if_neg h]
  by_cases h2 : b < a
  ·rw [if_pos h2]; simp [h]
  ·rw [if_neg h2]; simp [h]
theorem cmp_eq {a b : Int} : (cmpI a b == 0) = decide (a = b) := by
 unfold cmpI
 by_cases h : a < b
 ·rw [if_pos h]; simp; omega
 ·rw [if_neg h]
  by_cases h2 : b < a
  ·rw [if_pos h2]; simp; omega
  ·rw [if_neg h2]; simp; omega
theorem load_chunk {w : World} {b o : Nat} {A : Array Value} (hA : A.size = 23) (h : w.rangeAt b o A.toList) : (loadVar TCh ⟨b, o, none⟩).run Tryz.prog w = .ok (.agg A) w := by
 have := run_loadVar_mid (P := Tryz.prog) w b o TCh A.toList _ h Tryz.underlying93 rfl (by rw [Array.length_toList, hA]; kernel_rfl)
 rwa [Array.toArray_toList] at this
section
variable {ops : Array Oper} {rest : List Oper} {o : Oper} {a : Act} {w : World} {Q : Exit → Act → World → Prop}
theorem wpList_wanted (hw : Region.wanted o (yielded ops a.tmps) = true) (h : ∀ K : Act → World → Prop, (∀ a w, wpList Tryz.prog ops Q rest a w → K a w) → o.wp Tryz.prog a w K Q) : wpList Tryz.prog ops Q (o :: rest) a w :=
 wpList_step fun K hK => by rw [if_pos hw]; exact h K hK
theorem wpList_runG (hw : Region.wanted o (yielded ops a.tmps) = true) {v : Value} {w' : World} (h : (execOp a.eval o).run Tryz.prog w = .ok (.value v) w') (k : wpList Tryz.prog ops Q rest (a.put o.dst v) w') : wpList Tryz.prog ops Q (o :: rest) a w := by
 refine wpList_wanted hw fun K hK => ?_
 unfold Oper.wp; rw [h]; exact hK _ _ k
theorem wp_load_ch {A : Array Value} {b off : Nat} (hA : A.size = 23) (h : w.rangeAt b off A.toList) (hw : Region.wanted o (yielded ops a.tmps) = true) (x : Operand) (ho : o.op = .load TCh x) (hx : a.eval x = .pointer (some ⟨b, off, none⟩))
  (k : wpList Tryz.prog ops Q rest (a.put o.dst (.agg A)) w) : wpList Tryz.prog ops Q (o :: rest) a w :=
 wpList_runG hw (exec_load ho hx (by simp [Instr.loadAt, Instr.sureAddr, load_chunk hA h])) k
end
theorem find1_run (args : Array Value) (w : World) : (callFunc 72 args).run Tryz.prog w = .ok (.enter 72 args) w := by kernel_rfl
structure BsS (w0 : World) (n : Nat) (id : Int) (iv jv : Value) (wr : World) : Prop where
 st : ∃ i j : Nat, i ≤ j ∧ j ≤ n ∧ iv = .int .i64 (i : Int) ∧ jv = .int .i64 (j : Int) ∧ Below w0.heap.size w0 wr ∧ (i = 0 ∨ (i : Int) < id) ∧ (j = n ∨ id ≤ (j : Int) + 1)
theorem BsS.below {w0 wr w' : World} {n : Nat} {id : Int} {iv jv : Value} (h : BsS w0 n id iv jv wr) (hb : Below wr.heap.size wr w') : BsS w0 n id iv jv w' := by
 obtain ⟨i, j, h1, h2, h3, h4, h5, h6⟩ := h.st
 exact ⟨i, j, h1, h2, h3, h4, h5.trans (hb.mono h5.size), h6⟩
def jiM (i j : Value) : Nat := (intOf j).toNat - (intOf i).toNat
set_option maxRecDepth 20000 in
set_option maxHeartbeats 2000000 in
theorem bsearch_any (p b cap : Nat) (rb : Nat → Nat) (L : List ChM) (id : Int) (w : World) (hT : TabR w p b cap rb L) :
  Calls Tryz.prog 71 #[.slice (sOf b L) L.length cap, .int .i64 id, .func (.func 72) #[] #[]] w fun e w' =>
   ∃ k : Nat, e = .returned (.tuple #[.int .i64 (k : Int), .bool (decide (1 ≤ id ∧ id ≤ (L.length : Int)))]) ∧ (1 ≤ id → id ≤ (L.length : Int) → id = (k : Int) + 1) ∧ Below w.heap.size w w' := by
 obtain ⟨tc, htc, htcs⟩ := Option.map_eq_some_iff.1 (show (Tryz.prog.info? TCh).map (·.size) = some 23 from by kernel_rfl)
 have hmx := hT.max
 have HT := Lib.hid (fun W (h : Below w.heap.size w W) => hT.below h)
 obtain ⟨n, hn⟩ : ∃ n, n = L.length := ⟨_, rfl⟩
 have HAO := Lib.hid (fun h : 0 < L.length => sOf_pos (b := b) h)
 generalize sOf b L = ao at HAO ⊢
 rw [← hn] at hmx HAO ⊢
 have HN := Lib.hid hn
 clear hT hn
 have hcf := find1_run
 go_enter Tryz.func71, Tryz.ntmps71
 go_wp2
 go_loopw [9, 10] (fun i j wr => BsS w n id i j wr) (fun i j _ => jiM i j)
 case atStart => exact ⟨⟨0, n, Nat.zero_le _, Nat.le_refl _, rfl, rfl, Below.refl _ _, .inl rfl, .inl rfl⟩⟩
 case round =>
  obtain ⟨i, j, hij, hjn, rfl, rfl, hb, h1, h2⟩ := hrel.st
  clear hrel
  have HB := Lib.hid (And.intro hb (And.intro h1 h2))
  clear hb h1 h2
  have hj1 : (j : Int) ≤ 1000 := by omega
  by_cases hlt : i < j
  ·have hltd : decide ((i : Int) < (j : Int)) = true := decide_eq_true (by omega)
   obtain rfl := HAO.out (by omega)
   obtain ⟨h, hh⟩ : ∃ h, h = (i + j) / 2 := ⟨_, rfl⟩
   have hh1 : i ≤ h ∧ h < j := by omega
   have f1 : IntKind.i64.wrap ((i : Int) + (j : Int)) = ((i + j : Nat) : Int) := by rw [IntWalk.i64_in _ (by omega)]; push_cast; rfl
   have hT := HT.out wr HB.out.1
   obtain ⟨x, hx⟩ : ∃ x, L[(i + j) / 2]? = some x := ⟨_, List.getElem?_eq_getElem (by have := HN.out; omega)⟩
   have HR := hT.row _ x hx
   have HC := find1_any (chA ((i + j) / 2) (rb ((i + j) / 2)) x) _ id (chA_at _ _ _).id wr
   have HSZ := chA_size ((i + j) / 2) (rb ((i + j) / 2)) x
   generalize chA ((i + j) / 2) (rb ((i + j) / 2)) x = A at HR HC HSZ
   replace HR := Lib.hid HR
   replace HC := Lib.hid HC
   replace HSZ := Lib.hid HSZ
   rw [hh] at hh1
   clear hT hx hh
   have HM := Lib.hid (show (((i + j) / 2 : Nat) : Int) = ((i : Int) + (j : Int)) / 2 by push_cast; rfl)
   have HE := Lib.hid (cmp_lt (a := (((i + j) / 2 : Nat) : Int) + 1) (b := id))
   generalize cmpI ((((i + j) / 2 : Nat) : Int) + 1) id = cv at HC HE
   by_cases hc : (((i + j) / 2 : Nat) : Int) + 1 < id
   ·have hcd : decide (cv < 0) = true := HE.out.trans (decide_eq_true hc)
    have HQ := Lib.hid (show BsS w n id (.int .i64 (((i : Int) + (j : Int)) / 2 + 1)) (.int .i64 (j : Int)) wr from ⟨(i + j) / 2 + 1, j, by omega, hjn, by rw [← HM.out]; push_cast; rfl, rfl, HB.out.1, .inr (by push_cast at hc ⊢; omega), HB.out.2.2⟩)
    clear hc
    go_wp2_with (first
     | ((with_reducible (apply wp_load_ch HSZ.out HR.out)); rfl; rfl; rfl)
     | (go_at_call 72; refine HC.out.mono ?_; rintro e w' ⟨rfl, hb'⟩))
    go_roundw
    case rel => exact HQ.out.below hb'
    case measure => rw [← HM.out]; simp only [jiM, intOf]; omega
   ·have hcd : decide (cv < 0) = false := HE.out.trans (decide_eq_false hc)
    have HQ := Lib.hid (show BsS w n id (.int .i64 (i : Int)) (.int .i64 (((i : Int) + (j : Int)) / 2)) wr from ⟨i, (i + j) / 2, by omega, by omega, rfl, by rw [← HM.out], HB.out.1, HB.out.2.1, .inr (by omega)⟩)
    clear hc
    go_wp2_with (first
     | ((with_reducible (apply wp_load_ch HSZ.out HR.out)); rfl; rfl; rfl)
     | (go_at_call 72; refine HC.out.mono ?_; rintro e w' ⟨rfl, hb'⟩))
    go_roundw
    case rel => exact HQ.out.below hb'
    case measure => rw [← HM.out]; simp only [jiM, intOf]; omega
  ·have hie : i = j := by omega
   subst hie
   have hltd : decide ((i : Int) < (i : Int)) = false := decide_eq_false (by omega)
   by_cases hin : i < n
   ·have hind : decide ((i : Int) < (n : Int)) = true := decide_eq_true (by omega)
    obtain rfl := HAO.out (by omega)
    have hT := HT.out wr HB.out.1
    obtain ⟨x, hx⟩ : ∃ x, L[i]? = some x := ⟨_, List.getElem?_eq_getElem (by have := HN.out; omega)⟩
    have HR := hT.row _ x hx
    have HC := find1_any (chA i (rb i) x) _ id (chA_at _ _ _).id wr
    have HSZ := chA_size i (rb i) x
    generalize chA i (rb i) x = A at HR HC HSZ
    replace HR := Lib.hid HR
    replace HC := Lib.hid HC
    replace HSZ := Lib.hid HSZ
    have HE := Lib.hid (cmp_eq (a := (i : Int) + 1) (b := id))
    generalize cmpI ((i : Int) + 1) id = cv at HC HE
    clear hT hx
    by_cases hc : (i : Int) + 1 = id
    ·have hcd : (cv == 0) = true := HE.out.trans (decide_eq_true hc)
     have HQ := Lib.hid (show decide (1 ≤ id ∧ id ≤ (n : Int)) = true from decide_eq_true (by omega))
     replace hc := Lib.hid hc
     go_wp2_with (first
      | ((with_reducible (apply wp_load_ch HSZ.out HR.out)); rfl; rfl; rfl)
      | (go_at_call 72; refine HC.out.mono ?_; rintro e w' ⟨rfl, hb'⟩))
     go_ret2
     exact ⟨i, by rw [HQ.out]; rfl, fun _ _ => hc.out.symm, HB.out.1.trans (hb'.mono HB.out.1.size)⟩
    ·have hcd : (cv == 0) = false := HE.out.trans (decide_eq_false hc)
     have HQ := Lib.hid (show decide (1 ≤ id ∧ id ≤ (n : Int)) = false from decide_eq_false (by have := HB.out.2; omega))
     clear hc
     go_wp2_with (first
      | ((with_reducible (apply wp_load_ch HSZ.out HR.out)); rfl; rfl; rfl)
      | (go_at_call 72; refine HC.out.mono ?_; rintro e w' ⟨rfl, hb'⟩))
     go_ret2
     exact ⟨i, by rw [HQ.out]; rfl, fun h1 h2 => absurd (HQ.out ▸ decide_eq_true (And.intro h1 h2)) (by decide), HB.out.1.trans (hb'.mono HB.out.1.size)⟩
   ·have hind : decide ((i : Int) < (n : Int)) = false := decide_eq_false (by omega)
    have HQ := Lib.hid (show decide (1 ≤ id ∧ id ≤ (n : Int)) = false from decide_eq_false (by have := HB.out.2; omega))
    go_wp2
    go_ret2
    exact ⟨i, by rw [HQ.out]; rfl, fun h1 h2 => absurd (HQ.out ▸ decide_eq_true (And.intro h1 h2)) (by decide), HB.out.1⟩
end Go.Proofs.YteikbikopgabjaaGreatDoor
end
section
namespace Go.Proofs.YteikbikopgabjaaGreatDoor
open Go.RowKit Go.Sha Go.Sl Go.GF Go.Vol Go.Loss
def fndA (b n : Nat) (id : Int) : Option Addr := if 1 ≤ id ∧ id ≤ (n : Int) then some ⟨b, (id - 1).toNat * 23, none⟩ else none
set_option maxRecDepth 20000 in
set_option maxHeartbeats 1000000 in
theorem find_any (p b cap : Nat) (rb : Nat → Nat) (L : List ChM) (id : Int) (w : World) (hT : TabR w p b cap rb L) :
  Calls Tryz.prog 46 #[.pointer (some ⟨p, 0, none⟩), .int .i64 id] w fun e w' => e = .returned (.pointer (fndA b L.length id)) ∧ Below w.heap.size w w' := by
 obtain ⟨tc, htc, htcs⟩ := Option.map_eq_some_iff.1 (show (Tryz.prog.info? TCh).map (·.size) = some 23 from by kernel_rfl)
 have HT := Lib.hid (fun W (h : Below w.heap.size w W) => hT.below h)
 have HC := Lib.hid (bsearch_any p b cap rb L id w hT)
 have c0 := hT.hd
 have HAO := Lib.hid (fun h : 0 < L.length => sOf_pos (b := b) h)
 generalize sOf b L = ao at HAO HC c0 ⊢
 obtain ⟨n, hn⟩ : ∃ n, n = L.length := ⟨_, rfl⟩
 rw [← hn] at HC HAO c0 ⊢
 have HN := Lib.hid hn
 clear hT hn
 by_cases hf : 1 ≤ id ∧ id ≤ (n : Int)
 ·have HD := Lib.hid (show decide (1 ≤ id ∧ id ≤ (n : Int)) = true from decide_eq_true hf)
  have HE := Lib.hid (show fndA b n id = some ⟨b, (id - 1).toNat * 23, none⟩ from if_pos hf)
  obtain rfl := HAO.out (by omega)
  obtain ⟨k, rfl⟩ : ∃ k : Nat, id = (k : Int) + 1 := ⟨(id - 1).toNat, by omega⟩
  have hkn : k < n := by omega
  have hk1 : (k : Int) < (n : Int) := by omega
  clear hf
  go_enter Tryz.func46, Tryz.ntmps46
  go_upto_region 2 with (go_at_call 71; refine HC.out.mono ?_; rintro e w1 ⟨k2, rfl, h1, h2⟩; rw [HD.out]; have HB := Lib.hid h2; obtain rfl : k2 = k := (by have := h1 (by omega) (by omega); omega); clear h1 h2)
  have c1 := ((HT.out w1 HB.out).hd)
  rw [← HN.out, sOf_pos (by have := HN.out; omega)] at c1
  go_wp2
  go_ret
  refine ⟨?_, HB.out⟩
  rw [HE.out, show ((k2 : Int) + 1 - 1).toNat = k2 by omega]
  rfl
 ·have HD := Lib.hid (show decide (1 ≤ id ∧ id ≤ (n : Int)) = false from decide_eq_false hf)
  have HE := Lib.hid (show fndA b n id = none from if_neg hf)
  clear hf
  go_enter Tryz.func46, Tryz.ntmps46
  go_wp2_with (go_at_call 71; refine HC.out.mono ?_; rintro e w1 ⟨k2, rfl, h1, h2⟩; rw [HD.out]; have HB := Lib.hid h2; clear h1 h2)
  go_ret
  exact ⟨by rw [HE.out]; rfl, HB.out⟩
theorem info_rf : (Tryz.prog.info? TRf).map (fun i => (i.zero, i.size, i.bytes)) = some (some (.agg #[.int .i64 0, .int .i64 0]), 2, 16) := by kernel_rfl
def rfE : List Value := [.int .i64 0, .int .i64 1]
set_option maxRecDepth 20000 in
set_option maxHeartbeats 1000000 in
theorem clonerefs_any (rb : Nat) (F : HProp) (w : World) (hl : rb < w.heap.size) (h0 : w.cell? ⟨rb, 0, none⟩ = some (.int .i64 0)) (h1 : w.cell? ⟨rb, 1, none⟩ = some (.int .i64 1)) (hF : Sat w F) :
  Calls Tryz.prog 65 #[.slice (some ⟨rb, 0, none⟩) 1 1] w fun e w' => ∃ ao cp, e = .returned (.slice ao 1 cp) ∧ Same w w' ∧ Sat w' (ownAt TRf 2 (.slice ao 1 cp) 1 rfE * F) := by
 obtain ⟨ti, hti, hz0, hts, hz2⟩ := info_parts info_rf
 have H1 := Lib.hid (And.intro ((Same.refl w).alloc (.cells #[] TRf)) (show Sat (w.alloc (.cells #[] TRf)) (ownAt TRf 2 (.slice (some ⟨w.heap.size, 0, none⟩) 0 0) 0 [] * F) from ownAt_iff.2 (.inr ⟨w.heap.size, 0, #[], ⟨rfl, Nat.le_refl _, Nat.zero_le _, by simp, by simp, by simp⟩, hF.alloc _⟩)))
 have HC := Lib.hid (show ∀ j u, rfE[j]? = some u → (w.alloc (.cells #[] TRf)).cell? ((⟨rb, 0, none⟩ : Addr).add j) = some u from fun j u hu => by
  rw [Addr.add_mid, Nat.zero_add, World.cell?_alloc_lt _ _ _ hl]
  match j, hu with
  | 0, hu => cases hu; exact h0
  | 1, hu => cases hu; exact h1)
 have hq : ∀ w, (binOp .eql 61 (.slice (some ⟨rb, 0, none⟩) 1 1) (.slice none 0 0)).run Tryz.prog w = .ok (.bool false) w := fun w => Lib.run_eql_slice_nil w _ _ _ 1 1 0 0 Tryz.underlying61
 clear hF h0 h1
 go_enter Tryz.func65, Tryz.ntmps65
 go_wp2_with (at_builtin; refine wpList_append_ownAt (F := F) rfl _ _ 61 TRf rfl ti _ Tryz.underlying61 hti hz0 hts hz2 rfl H1.out.2 rfE rfl rfl rfl HC.out (by intro u hu; simp [rfE] at hu; rcases hu with rfl | rfl <;> rfl) (by unfold maxLen; omega) (by omega) ?_; intro v' w' h2)
 go_ret
 rw [Nat.zero_add, List.nil_append] at h2
 obtain ⟨ao, cap, rfl⟩ := ownAt_slice h2.out.2
 exact ⟨_, _, rfl, H1.out.1.trans h2.out.1, h2.out.2⟩
end Go.Proofs.YteikbikopgabjaaGreatDoor
end
section
namespace Go.Proofs.YteikbikopgabjaaGreatDoor
open Go.RowKit Go.Sha Go.Sl Go.GF Go.Vol Go.Loss
def zCh : Array Value := #[.int .i64 0] ++ zD ++ #[.int .u32 0, .int .i64 0, .int .i64 0, .int .i64 0, .bool false, .slice none 0 0]
theorem zCh_size : zCh.size = 23 := by decide
theorem zeroCh (w : World) : (zeroValue TCh).run Tryz.prog w = .ok (.agg zCh) w := by kernel_rfl
theorem infoCh {c : Array Value} (h : c.size = 23) : (Tryz.prog.info? TCh).map (·.size) = some c.size := by rw [h]; kernel_rfl
theorem zCh_one : ∀ v ∈ zCh.toList, v.oneCell' = true := by decide
section
variable {ops : Array Oper} {rest : List Oper} {o : Oper} {a : Act} {w : World} {Q : Exit → Act → World → Prop}
theorem wp_load_chB {g : Nat} {A : Array Value} {F : HProp} (hb : Sat w (pts g (.cells A TCh (0, 0)) * F)) (hc : A.size = 23) (hg : o.guard = none) (x : Operand) (ho : o.op = .load TCh x) (hx : a.eval x = .pointer (some ⟨g, 0, none⟩))
  (k : wpList Tryz.prog ops Q rest (a.put o.dst (.agg A)) w) : wpList Tryz.prog ops Q (o :: rest) a w :=
 wpList_load_row hg TCh x ho g hx TCh A (0, 0) _ hb.block Tryz.underlying93 rfl (infoCh hc) k
end
def getR (L : List ChM) (id : Int) (v : Value) : Prop := match if 1 ≤ id then L[(id - 1).toNat]? else none with
 | some x => ∃ ao cp, v = .tuple #[.agg (chV (id - 1).toNat x (.slice ao 1 cp)), .bool true]
 | none => v = .tuple #[.agg zCh, .bool false]
theorem getR_none {L : List ChM} {id : Int} (h : ¬ (1 ≤ id ∧ id ≤ (L.length : Int))) : getR L id (.tuple #[.agg zCh, .bool false]) := by
 unfold getR
 by_cases h1 : 1 ≤ id
 ·rw [if_pos h1, List.getElem?_eq_none (by omega)]
 ·rw [if_neg h1]
theorem getR_some {L : List ChM} {k : Nat} {x : ChM} (h : L[k]? = some x) (ao : Option Addr) (cp : Nat) : getR L ((k : Int) + 1) (.tuple #[.agg (chV k x (.slice ao 1 cp)), .bool true]) := by
 unfold getR
 rw [if_pos (by omega), show ((k : Int) + 1 - 1).toNat = k by omega, h]
 exact ⟨ao, cp, rfl⟩
set_option maxRecDepth 20000 in
set_option maxHeartbeats 2000000 in
theorem get_any41 (p b cap : Nat) (rb : Nat → Nat) (L : List ChM) (id : Int) (w : World) (hT : TabR w p b cap rb L) :
  Calls Tryz.prog 39 #[.pointer (some ⟨p, 0, none⟩), .int .i64 id] w fun e w' => ∃ v, e = .returned v ∧ getR L id v ∧ Below w.heap.size w w' := by
 have HF := Lib.hid (fun W (h : Below w.heap.size w W) => find_any p b cap rb L id W (hT.below h))
 have HT := Lib.hid (fun W (h : Below w.heap.size w W) => hT.below h)
 have HW0 := Lib.hid (And.intro ((Same.refl w).alloc (.cells zCh TCh)) ((Sat.old w).alloc (.cells zCh TCh)))
 clear hT
 by_cases hf : 1 ≤ id ∧ id ≤ (L.length : Int)
 ·obtain ⟨k, rfl⟩ : ∃ k : Nat, id = (k : Int) + 1 := ⟨(id - 1).toNat, by omega⟩
  obtain ⟨x, hx⟩ : ∃ x, L[k]? = some x := ⟨_, List.getElem?_eq_getElem (by omega)⟩
  have HE := Lib.hid (show fndA b L.length ((k : Int) + 1) = some ⟨b, k * 23, none⟩ from by unfold fndA; rw [if_pos hf, show ((k : Int) + 1 - 1).toNat = k by omega])
  have HG := Lib.hid (getR_some hx)
  have HR := Lib.hid (fun W (h : Below w.heap.size w W) => And.intro ((HT.out W h).row k x hx) ((HT.out W h).ref k (by omega)))
  have HV := Lib.hid (chA_at k (rb k) x)
  have HS := Lib.hid (And.intro (chV_set k x) (chV_one k x))
  have HO := Lib.hid (chA_one k (rb k) x)
  have hdef : chA k (rb k) x = chV k x (.slice (some ⟨rb k, 0, none⟩) 1 1) := rfl
  have HST := Lib.hid (fun rv => (congrArg (fun z : Array Value => z.setIfInBounds 22 rv) hdef).trans (chV_set k x _ rv))
  generalize chA k (rb k) x = A at HR HV HO HST
  clear hdef hx hf HT
  go_enter Tryz.func39, Tryz.ntmps39
  go_upto_region 1 with ((with_reducible (refine wpList_alloc_zero ?_ TCh ?_ _ (zeroCh _) ?_)); rfl; rfl)
  generalize w.alloc (.cells zCh TCh) = w1 at HW0 ⊢
  have HB1 := Lib.hid (HW0.out.1.below_of HW0.out.2)
  go_upto_region 4 with (go_at_call 46; refine (HF.out w1 HB1.out).mono ?_; rintro e w2 ⟨rfl, h2⟩; rw [HE.out]; have HW2 := Lib.hid (And.intro (HW0.out.1.below h2) (HW0.out.2.below h2)); clear h2)
  have HB2 := Lib.hid (HW2.out.1.below_of HW2.out.2)
  have HA := Lib.hid ((HR.out w2 HB2.out).1)
  have HW3 := Lib.hid (And.intro (HW2.out.1.alloc (.cells zCh TCh)) (HW2.out.2.alloc (.cells zCh TCh)))
  go_upto_region 5 with (first
   | ((with_reducible (apply wp_load_ch HV.out.size HA.out)); rfl; rfl; rfl)
   | ((with_reducible (refine wpList_alloc_zero ?_ TCh ?_ _ (zeroCh _) ?_)); rfl; rfl; generalize w2.alloc (.cells zCh TCh) = w3 at HW3 ⊢; generalize w2.heap.size = g7 at HW3 ⊢)
   | (refine wpList_store_blk (T := TCh) (old := zCh) (new := A) rfl rfl rfl rfl HW3.out.2 (infoCh HV.out.size) (by rw [HV.out.size]; rfl) HO.out ?_; intro w4 h4))
  simp only [Act.put, zq1, zq2, zq3]
  have HW4 := Lib.hid (And.intro (HW3.out.1.trans h4.out.1) h4.out.2)
  clear h4 HW3 HA HB1 HW0
  have HB4 := Lib.hid (HW4.out.1.below_of (HW4.out.2.perm (show _ = (pts g7 (.cells A TCh (0, 0)) * pts w.heap.size (.cells zCh TCh (0, 0))) * old w by ac_rfl)))
  have c22 : w4.cell? ⟨b, k * 23 + 22, none⟩ = some (.slice (some ⟨rb k, 0, none⟩) 1 1) := (HR.out w4 HB4.out).1 22 _ (by rw [Array.getElem?_toList]; exact HV.out.refs)
  have HCL := Lib.hid (clonerefs_any (rb k) _ w4 (HR.out w4 HB4.out).2.1 (HR.out w4 HB4.out).2.2.1 (HR.out w4 HB4.out).2.2.2 HW4.out.2)
  go_upto_region 6 with (go_at_call 65; refine HCL.out.mono ?_; rintro e w5 ⟨ao5, cp5, rfl, h5, h6⟩; (have HW5 := Lib.hid (And.intro (HW4.out.1.trans h5) h6.right)); (have c5 := cells_at HW5.out.2.block 22); (rw [HV.out.refs] at c5); (have f5 := thawed_at HW5.out.2.block 22); clear h5 h6)
  have HW6 := Lib.hid (And.intro (HW5.out.1.setCell ⟨g7, 22, none⟩ (.slice ao5 1 cp5)) (HW5.out.2.setCell (i := 22) (.slice ao5 1 cp5)))
  rw [HST.out] at HW6
  have HO5 := Lib.hid (HS.out.2 (.slice ao5 1 cp5) rfl)
  have HZ := Lib.hid (chV_size k x (.slice ao5 1 cp5))
  have HG5 := Lib.hid (HG.out ao5 cp5)
  generalize w5.setCell ⟨g7, 22, none⟩ (.slice ao5 1 cp5) = w6 at HW6 ⊢
  generalize chV k x (.slice ao5 1 cp5) = A5 at HW6 HO5 HZ HG5
  clear c22 c5 f5
  go_wp2_with (first
   | ((with_reducible (apply wp_load_chB HW6.out.2 HZ.out)); rfl; rfl; rfl)
   | (refine wpList_store_blk (T := TCh) (old := zCh) (new := A5) rfl rfl rfl rfl (HW6.out.2.perm (show _ = pts w.heap.size (.cells zCh TCh (0, 0)) * (pts g7 (.cells A5 TCh (0, 0)) * old w) by ac_rfl)) (infoCh HZ.out) (by rw [HZ.out]; rfl) HO5.out ?_; intro w9 h9))
  refine bodyPost_ret (v := .tuple #[.agg A5, .bool true]) ?_ rfl ⟨_, rfl, HG5.out, (HW6.out.1.trans h9.out.1).below_of (h9.out.2.perm (show _ = (pts w.heap.size (.cells A5 TCh (0, 0)) * pts g7 (.cells A5 TCh (0, 0))) * old w by ac_rfl))⟩
  exact results2 Tryz.results39 (ResIs.row rfl h9.out.2.block Tryz.underlying93 rfl (infoCh HZ.out)) (.tmp rfl)
 ·have HE := Lib.hid (show fndA b L.length id = none from if_neg hf)
  have HG := Lib.hid (getR_none hf)
  clear hf
  go_enter Tryz.func39, Tryz.ntmps39
  go_upto_region 1 with ((with_reducible (refine wpList_alloc_zero ?_ TCh ?_ _ (zeroCh _) ?_)); rfl; rfl)
  generalize w.alloc (.cells zCh TCh) = w1 at HW0 ⊢
  have HB1 := Lib.hid (HW0.out.1.below_of HW0.out.2)
  go_wp2_with (first
   | (go_at_call 46; refine (HF.out w1 HB1.out).mono ?_; rintro e w2 ⟨rfl, h2⟩; rw [HE.out]; have HW2 := Lib.hid (And.intro (HW0.out.1.below h2) (HW0.out.2.below h2)); clear h2)
   | (refine wpList_store_blk (T := TCh) (old := zCh) (new := zCh) rfl rfl rfl rfl HW2.out.2 (infoCh zCh_size) rfl zCh_one ?_; intro w9 h9))
  refine bodyPost_ret (v := .tuple #[.agg zCh, .bool false]) ?_ rfl ⟨_, rfl, HG.out, (HW2.out.1.trans h9.out.1).below_of h9.out.2⟩
  exact results2 Tryz.results39 (ResIs.row rfl h9.out.2.block Tryz.underlying93 rfl (infoCh zCh_size)) (.tmp rfl)
end Go.Proofs.YteikbikopgabjaaGreatDoor
end
