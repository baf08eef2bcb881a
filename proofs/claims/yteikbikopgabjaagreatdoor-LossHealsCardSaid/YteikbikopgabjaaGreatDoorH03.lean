import Derived.Test.YteikbikopgabjaaGreatDoorH02
import Derived.RangeFuncRecord
import Derived.Test.YteikbikopgabjaaGreatDoorRows
import Derived.Lib.Hide
import Derived.Deep.Cut
import Derived.Deep.QuietTactic
import Derived.BigQuiet
import Derived.WalkSmall
import Derived.Test.YteikbikopgabjaaGreatDoorH01
/- Part 3 of a proof; the last part says what is proved. -/
section
namespace Go.Sl
open Go Go.RowKit
section
variable {P : Program} {ops : Array Oper} {Q : Exit → Act → World → Prop} {S : World → Prop}
def YieldsU (P : Program) (ops : Array Oper) (S : World → Prop) (o : Oper) (v : Value) (a : Act) : Prop :=
 (Region.wanted o (yielded ops a.tmps) = false ∧ v = undef) ∨
 (Region.wanted o (yielded ops a.tmps) = true ∧ ∀ w, S w → (execOp a.eval o).run P w = .ok (.value v) w ∨ ∃ f args, (execOp a.eval o).run P w = .ok (.enter f args) w ∧ Calls P f args w fun e w' => e = .returned v ∧ S w')
theorem YieldsU.of_same {o : Oper} {v : Value} {a a' : Act} (hy : YieldsU P ops S o v a) (he : execOp a'.eval o = execOp a.eval o)
  (hw : Region.wanted o (yielded ops a'.tmps) = Region.wanted o (yielded ops a.tmps)) : YieldsU P ops S o v a' := by
 unfold YieldsU at *
 rw [he, hw]; exact hy
theorem YieldsU.wpOp {i : Nat} {o : Oper} {v : Value} {a : Act} (hi : ops[i]? = some o) (hy : YieldsU P ops S o v a) {K : Act → World → Prop} {w : World} (hS : S w) (h : ∀ w', S w' → K (a.put o.dst v) w') : wpOp P ops Q i K a w := by
 unfold Go.wpOp
 simp only [hi]
 rcases hy with ⟨hw, rfl⟩ | ⟨hw, hv⟩
 ·simp only [hw, Bool.false_eq_true, if_false]
  exact h w hS
 ·simp only [hw, if_true]
  left
  unfold Oper.wp
  rcases hv w hS with hr | ⟨f, args, hr, hc⟩
  ·rw [hr]
   simp only [Oper.upon]
   exact h w hS
  ·rw [hr]
   refine hc.mono ?_
   rintro e w' ⟨rfl, h2⟩
   exact h w' h2
def waitsB (ops : Array Oper) (j : Nat) (listed : Array Bool) : Bool := (List.range ops.size).all fun k => !(listed.getD k false) || reachB ops 12 j k
def wpU (P : Program) (ops : Array Oper) (Q : Exit → Act → World → Prop) (S : World → Prop) : Nat → Array Bool → Act → Prop
  | 0, listed, a => Region.ready .any ops listed = [] ∧ ∀ w, S w → Q .normal a w
  | fuel + 1, listed, a =>
    ((∃ j, Region.ready .any ops listed = [j] ∧ waitsB ops j listed = true) ∧ ∀ w, S w → wpAny P .any ops Q (fuel + 1) listed a w) ∨
    ((Region.ready .any ops listed = [] → ∀ w, S w → Q .normal a w) ∧
      ∀ i ∈ Region.ready .any ops listed, ∃ o v, ops[i]? = some o ∧ YieldsU P ops S o v a ∧ wpU P ops Q S fuel (listed.setIfInBounds i true) (a.put o.dst v))
theorem wpAny_of_U : ∀ (fuel : Nat) (listed : Array Bool) (a : Act), wpU P ops Q S fuel listed a → ∀ w, S w → wpAny P .any ops Q fuel listed a w
 | 0, _, _, h, w, hS => ⟨h.1, h.2 w hS⟩
 | fuel + 1, listed, a, h, w, hS => by
  rcases h with ⟨_, h⟩ | ⟨h1, h2⟩
  ·exact h w hS
  ·refine ⟨fun hr => h1 hr w hS, fun i hi => ?_⟩
   obtain ⟨o, v, ho, hy, hk⟩ := h2 i hi
   exact hy.wpOp ho hS fun w' hS' => wpAny_of_U fuel _ _ hk w' hS'
theorem wpU_first {i : Nat} {oi : Oper} {v : Value} (hi : ops[i]? = some oi) (hsel : ∀ (j : Nat) (o : Oper) cs b, ops[j]? = some o → o.op ≠ .select cs b) :
  ∀ (fuel : Nat) (listed : Array Bool) (a : Act), Closed ops listed →
   (∀ j oj, ops[j]? = some oj → j ≠ i → listed.getD j true = false → (∀ e ∈ oj.after, Region.binds .any e = true → e.on ≠ i) → oi.apart ops oj = true) →
   i ∈ Region.ready .any ops listed → YieldsU P ops S oi v a →
   wpU P ops Q S fuel (listed.setIfInBounds i true) (a.put oi.dst v) → wpU P ops Q S (fuel + 1) listed a := by
 intro fuel
 induction fuel with
 | zero =>
  intro listed a _ _ hr hy H
  refine .inr ⟨fun h => (by rw [h] at hr; cases hr), fun j hj => ?_⟩
  by_cases hji : j = i
  ·subst hji; exact ⟨oi, v, hi, hy, H⟩
  ·have h1 := ready_mono hj hji
   rw [H.1] at h1
   cases h1
 | succ fuel ih =>
  intro listed a hc hfree hr hy H
  refine .inr ⟨fun h => (by rw [h] at hr; cases hr), fun j hj => ?_⟩
  by_cases hji : j = i
  ·subst hji; exact ⟨oi, v, hi, hy, H⟩
  ·obtain ⟨hjun, oj, hoj, hall⟩ := mem_ready.1 hj
   have hiun := (mem_ready.1 hr).1
   have hilt : i < listed.size := by
    rcases Nat.lt_or_ge i listed.size with h' | h'
    ·exact h'
    ·simp [Array.getElem?_eq_none h'] at hiun
   have hnot : ∀ e ∈ oj.after, Region.binds .any e = true → e.on ≠ i := fun e he hb heq => by
    have h1 := hall e he hb
    rw [heq] at h1
    simp [hilt] at hiun h1; rw [hiun] at h1; cases h1
   have hap := hfree j oj hoj hji hjun hnot
   obtain ⟨p1, p2, p3⟩ := Oper.apart_spec hap
   rcases H with ⟨⟨j0, hj0, hw0⟩, _⟩ | ⟨-, H2⟩
   ·exfalso
    have h1 := ready_mono hj hji
    rw [hj0] at h1
    have hjj : j = j0 := by simpa using h1
    subst hjj
    unfold waitsB at hw0
    have hisz : i < ops.size := (Array.getElem?_eq_some_iff.1 hi).1
    have h2 := List.all_eq_true.1 hw0 i (by simp [hisz])
    rw [show (listed.setIfInBounds i true).getD i false = true by simp [hilt]] at h2
    have h3 := hc.reach _ j i oj hoj hall (by simpa using h2)
    simp [hilt] at hiun h3; rw [hiun] at h3; cases h3
   ·obtain ⟨oj', u, hoj', hyj, hk⟩ := H2 j (ready_mono hj hji)
    rw [hoj] at hoj'
    cases hoj'
    have hyj' : YieldsU P ops S oj u a := hyj.of_same (execOp_put oj (fun cs b => hsel j oj cs b hoj) a oi.dst v p1).symm (wanted_put oj a oi.dst v p1).symm
    refine ⟨oj, u, hoj, hyj', ih (listed.setIfInBounds j true) (a.put oj.dst u) (hc.set hj) ?_ (ready_mono hr (Ne.symm hji)) ?_ ?_⟩
    ·intro k ok hk' hki hun hno
     refine hfree k ok hk' hki ?_ hno
     by_cases hjk : j = k
     ·subst hjk; exact hjun
     ·rw [getD_set_ne true hjk] at hun; exact hun
    ·exact hy.of_same (execOp_put oi (fun cs b => hsel i oi cs b hi) a oj.dst u p3) (wanted_put oi a oj.dst u p3)
    ·rw [Array.setIfInBounds_comm _ _ hji, ← Act.put_comm a v u p2]
     exact hk
end
structure RegU (P : Program) (ops : Array Oper) (Q : Exit → Act → World → Prop) (S : World → Prop) (fuel : Nat) (listed : Array Bool) (t : Array Value) (df : List Deferred) : Prop where
 out : Closed ops listed → wpU P ops (NoPanic Q) S fuel listed ⟨t, df⟩
section
variable {P : Program} {ops : Array Oper} {Q : Exit → Act → World → Prop} {S : World → Prop} {fuel : Nat} {listed : Array Bool} {t : Array Value} {df : List Deferred} {w : World}
theorem regU_begin (S : World → Prop) {id : Nat} (hm : P.follows .mixedOrders = true) (hS : S w.drew) (h : RegU P ops Q S ops.size (Array.replicate ops.size false) t df) : (Code.region id ops true).wp P Q ⟨t, df⟩ w :=
 wp_region_noPanic (wp_region_any hm (wpAny_of_U _ _ _ (h.out (Closed.init ops)) _ hS))
theorem regU_y (i : Nat) {o : Oper} {d : Tmp} {v : Value} (ho : ops[i]? = some o) (hd : o.dst = some d) (hck : takeOK ops listed i = true) (hy : YieldsU P ops S o v ⟨t, df⟩)
  (k : RegU P ops Q S fuel (listed.setIfInBounds i true) (t.setIfInBounds d v) df) : RegU P ops Q S (fuel + 1) listed t df := by
 simp only [takeOK, Bool.and_eq_true] at hck
 exact ⟨fun hc => wpU_first ho (Region.noSelect_spec hck.1.1) fuel listed ⟨t, df⟩ hc (Region.free_spec ho hck.1.2) (by simpa using hck.2) hy (by rw [hd]; exact k.out (hc.set (by simpa using hck.2)))⟩
theorem regU_take (i : Nat) {o : Oper} {d : Tmp} {v : Value} (ho : ops[i]? = some o) (hd : o.dst = some d) (hck : takeOK ops listed i = true) (hw : Region.wanted o (yielded ops t) = true)
  (hr : ∀ w', S w' → (execOp (Act.eval ⟨t, df⟩) o).run P w' = .ok (.value v) w')
  (k : RegU P ops Q S fuel (listed.setIfInBounds i true) (t.setIfInBounds d v) df) : RegU P ops Q S (fuel + 1) listed t df :=
 regU_y i ho hd hck (.inr ⟨hw, fun w' h => .inl (hr w' h)⟩) k
theorem regU_call (i : Nat) {o : Oper} {d : Tmp} {v : Value} {f : FuncId} {args : Array Value} (ho : ops[i]? = some o) (hd : o.dst = some d) (hck : takeOK ops listed i = true) (hw : Region.wanted o (yielded ops t) = true)
  (hr : ∀ w', (execOp (Act.eval ⟨t, df⟩) o).run P w' = .ok (.enter f args) w') (hcl : ∀ w', S w' → Calls P f args w' fun e w'' => e = .returned v ∧ S w'')
  (k : RegU P ops Q S fuel (listed.setIfInBounds i true) (t.setIfInBounds d v) df) : RegU P ops Q S (fuel + 1) listed t df :=
 regU_y i ho hd hck (.inr ⟨hw, fun w' h => .inr ⟨f, args, hr w', hcl w' h⟩⟩) k
theorem regU_alone {S' : World → Prop} (j : Nat) (hck : (aloneOK ops listed j && waitsB ops j listed) = true) (k : ∀ w, S w → Reg P ops Q S' (fuel + 1) listed t df w) : RegU P ops Q S (fuel + 1) listed t df := by
 simp only [Bool.and_eq_true, aloneOK, beq_iff_eq] at hck
 exact ⟨fun hc => .inl ⟨⟨j, hck.1, hck.2⟩, fun w hS => wpAny_of_G _ _ _ _ ((k w hS).out hc)⟩⟩
theorem regU_done (hr : (Region.ready .any ops listed).isEmpty = true) (h : ∀ w, S w → Q .normal ⟨t, df⟩ w) : RegU P ops Q S fuel listed t df := by
 have hr' : Region.ready .any ops listed = [] := by simpa using hr
 constructor
 intro _
 cases fuel with
 | zero => exact ⟨hr', fun w hS => NoPanic.normal (h w hS)⟩
 | succ n => exact .inr ⟨fun _ w hS => NoPanic.normal (h w hS), fun j hj => by rw [hr'] at hj; cases hj⟩
theorem reg_call_last (i : Nat) {o : Oper} {d : Tmp} {f : FuncId} {args : Array Value} {R : Value → World → Prop} (ho : ops[i]? = some o) (hd : o.dst = some d) (hck : (aloneOK ops listed i && tailB ops i && (Region.ready .any ops (listed.setIfInBounds i true)).isEmpty) = true) (hw : Region.wanted o (yielded ops t) = true)
  (hr : (execOp (Act.eval ⟨t, df⟩) o).run P w = .ok (.enter f args) w) (hc : Calls P f args w fun e w' => ∃ v, e = .returned v ∧ R v w')
  (k : ∀ v w', R v w' → Q .normal ⟨t.setIfInBounds d v, df⟩ w') : Reg P ops Q S (fuel + 1) listed t df w := by
 simp only [Bool.and_eq_true] at hck
 refine reg_op' i ho hck.1.1 hw ?_
 unfold Oper.wp; rw [hr]
 refine hc.mono ?_
 rintro e w' ⟨v, rfl, h⟩
 simp only [hd, put_some]
 refine ⟨.inl hck.1.2, ?_⟩
 exact reg_done hck.2 (k v w' h)
end
end Go.Sl
end
section
namespace Go.Proofs.YteikbikopgabjaaGreatDoor
open Go.RowKit Go.Sha Go.Sl
attribute [local go_sem high] o_xor o_and o_or o_add
set_option maxRecDepth 20000 in
theorem rotr_any (x : Nat) (hx : x < 4294967296) (n : Nat) (z : Int) (hz : z = (n : Int)) (hn : n ≤ 32) (w : World) :
  Calls Tryz.prog 134 #[.int .u32 (x : Int), .int .i64 z] w fun e w' => e = .returned (.int .u32 ((rotr x n : Nat) : Int)) ∧ Below w.heap.size w w' := by
 have h1 := fun t => o_shr t .i64 x z (by omega) (by omega) hx
 have h2 := fun t => o_shl t .i64 x (32 - z) (by omega) (by omega)
 have hw : IntKind.i64.wrap (32 - z) = 32 - z := IntWalk.i64_in _ (by omega)
 have g0 : (32 - z < 0) = False := eq_false (by omega)
 have g1 : (z < 0) = False := eq_false (by omega)
 have e1 : z.toNat = n := by omega
 have e2 : (32 - z).toNat = 32 - n := by omega
 rw [e1] at h1
 rw [e2] at h2
 have HR := Lib.hid (show or32 (shr32 x n) (shl32 x (32 - n)) = rotr x n from rfl)
 clear hz hn hx e1 e2
 go_enter Tryz.func134, Tryz.ntmps134
 go_upto_region 1 with (fail)
 go_quiet (fail)
 go_wp2
 go_ret
 rw [HR.out]
 exact ⟨rfl, below_drewN (Below.refl _ w) _⟩
end Go.Proofs.YteikbikopgabjaaGreatDoor
end
