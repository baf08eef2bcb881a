import Derived.Test.YteikbikopgabjaaGreatDoorH49
import Derived.Lib.AppendStr
import Derived.Scope
import Derived.OrdersIn
import Derived.Test.YteikbikopgabjaaGreatDoorH06
import Derived.RangeFuncWrites
import Derived.Test.YteikbikopgabjaaGreatDoorH01
/- Part 50 of a proof; the last part says what is proved. -/
section
namespace Go.Proofs.YteikbikopgabjaaGreatDoor
open Go.RowKit Go.Sha Go.Sl Go.GF
theorem strCells8 (l : List UInt8) : Lib.strCells (strL l) = b8 l := by
 simp [Lib.strCells, strL, b8]
theorem zero8 (n : Nat) : (Builtin.zeroCells (Value.int .u8 0).cells n).toList = List.replicate n (.int .u8 0) := by
 have h : (Value.int .u8 0).cells = #[Value.int .u8 0] := rfl
 rw [h]
 unfold Builtin.zeroCells
 apply List.ext_getElem?
 intro j
 simp [Nat.mod_one, List.getElem?_replicate]
 split <;> simp_all
section
variable {w : World} {F : HProp} {v : Value} {l : List UInt8}
theorem own8_iff (h0 : 0 < l.length) : Sat w (own8 v l * F) → ∃ g cap cur, v = .slice (some ⟨g, 0, none⟩) l.length cap ∧ l.length ≤ cap ∧ cap ≤ maxLen ∧ cur.size = cap ∧ cur.toList.take l.length = b8 l ∧ Sat w (pts g (.cells cur T8 (0, 0)) * F) := by
 intro h
 rcases ownAt_iff.1 h with ⟨_, h2, _⟩ | ⟨g, cap, cur, ⟨h1, h2, h3, h4, h5, _⟩, hs⟩
 ·omega
 ·exact ⟨g, cap, cur, h1, h2, h3, by omega, by rw [Nat.mul_one] at h5; exact h5, hs⟩
theorem own8_olds {g : Nat} {cur : Array Value} (ht : cur.toList.take l.length = b8 l) (hb : w.heap[g]? = some (.cells cur T8 (0, 0))) : ∀ j u, (b8 l)[j]? = some u → w.cell? ((⟨g, 0, none⟩ : Addr).add j) = some u := by
 intro j u hu
 rw [Addr.add_mid, cells_at hb, Nat.zero_add]
 rw [← ht, List.getElem?_take] at hu
 split at hu
 ·rw [Array.getElem?_toList] at hu; exact hu
 ·cases hu
theorem own8_grown (m : List UInt8) (old : Nat) (hF : Sat w F) (h63 : l.length + m.length ≤ maxLen) (c : Array Value) (k : Nat) (hk : k = grownCap w (l.length + m.length) old T8) (hc : c.toList = b8 l ++ b8 m ++ List.replicate (k - (l.length + m.length)) (.int .u8 0)) :
  Sat (w.drew.alloc (.cells c T8)) (own8 (.slice (some ⟨w.heap.size, 0, none⟩) (l.length + m.length) k) (l ++ m) * F) := by
 have hge := grownCap_ge w (l.length + m.length) old T8
 have hcm : grownCap w (l.length + m.length) old T8 ≤ maxLen := grownCap_le_maxLen w (l.length + m.length) old T8 h63
 rw [← hk] at hge hcm
 have e : (l ++ m).length = l.length + m.length := List.length_append
 unfold own8
 rw [e, b8_app]
 refine ownAt_iff.2 (.inr ⟨w.heap.size, k, c, ⟨rfl, hge, hcm, ?_, ?_, by rw [List.length_append, b8_len, b8_len, Nat.mul_one]⟩, hF.drew.alloc _⟩)
 ·rw [← Array.length_toList, hc]
  simp only [List.length_append, b8_len, List.length_replicate]
  omega
 ·rw [hc, List.take_left' (by rw [List.length_append, b8_len, b8_len, Nat.mul_one])]
theorem own8_room (m : List UInt8) {g cap : Nat} {cur : Array Value} (ht : cur.toList.take l.length = b8 l) (hsz : cur.size = cap) (hcm : cap ≤ maxLen) (hr : l.length + m.length ≤ cap) (hs : Sat w (pts g (.cells cur T8 (0, 0)) * F)) (c : Array Value) (hc : c.toList = cur.toList.take l.length ++ b8 m ++ cur.toList.drop (l.length + m.length)) :
  Sat (w.setRow g c) (own8 (.slice (some ⟨g, 0, none⟩) (l.length + m.length) cap) (l ++ m) * F) := by
 have e : (l ++ m).length = l.length + m.length := List.length_append
 have hlen : cur.toList.length = cap := by rw [Array.length_toList]; exact hsz
 unfold own8
 rw [e, b8_app]
 refine ownAt_iff.2 (.inr ⟨g, cap, c, ⟨rfl, hr, hcm, ?_, ?_, by rw [List.length_append, b8_len, b8_len, Nat.mul_one]⟩, hs.setRow⟩)
 ·rw [← Array.length_toList, hc]
  simp only [List.length_append, List.length_take, List.length_drop, b8_len]
  omega
 ·rw [hc, ht, List.take_left' (by rw [List.length_append, b8_len, b8_len, Nat.mul_one])]
theorem run_append_s8 (h0 : 0 < l.length) (h : Sat w (own8 v l * F)) (m : List UInt8) (hs : l.length + m.length ≤ 1000000) (ty : TypeId) :
  ∃ v' w', (Builtin.append_ #[131, 9] ty #[v, .string (strL m)]).run Tryz.prog w = .ok v' w' ∧ Same w w' ∧ Sat w' (own8 v' (l ++ m) * F) := by
 obtain ⟨i, hi, hz, hsz, hby⟩ := info_parts info_b8
 obtain ⟨g, cap, cur, rfl, hn, hcm, hcs, ht, hS⟩ := own8_iff h0 h
 have hms : (strL m).size = m.length := strL_size m
 have hsc := strCells8 m
 by_cases hr : l.length + m.length ≤ cap
 ·have hrun := Lib.run_append_room_string (P := Tryz.prog) w 131 9 ty T8 i Tryz.underlying131 Tryz.underlying9 hi hsz g l.length cap cur hS.block (strL m) (by rw [hms]; exact hr) (by rw [hms, hcs]; exact hr)
  rw [hms, hsc] at hrun
  exact ⟨_, _, hrun, Same.setRow (Same.refl w) _ _, own8_room m ht hcs hcm hr hS _ (by simp)⟩
 ·have hrun := Lib.run_append_grow_string (P := Tryz.prog) w 131 9 ty T8 i _ Tryz.underlying131 Tryz.underlying9 hi hz ⟨g, 0, none⟩ l.length cap (b8 l) (by rw [b8_len, hsz]; omega) (own8_olds ht hS.block) (strL m) (by rw [hms]; omega) (by rw [hms]; omega) (by rw [hms]; exact growslice_fits (by omega) (by rw [hby]; omega))
  rw [hms, hsc] at hrun
  exact ⟨_, _, hrun, ((Same.refl w).drew).alloc _, own8_grown m cap hS.right (by unfold maxLen; omega) _ _ rfl (by
   simp only [Array.toList_append, List.append_assoc]
   rw [zero8])⟩
end
theorem wpList_apps8 {ops : Array Oper} {rest : List Oper} {o : Oper} {a : Act} {Q : Exit → Act → World → Prop} {F : HProp} {W : World} (hg : o.guard = none) (s x : Operand)
  (ho : o.op = .call { callee := .builtin .append, args := #[s, x], argTypes := #[131, 9] }) {v : Value} {l m : List UInt8} (hs : a.eval s = v) (hx : a.eval x = .string (strL m)) (h0 : 0 < l.length) (h : Sat W (own8 v l * F)) (hn : l.length + m.length ≤ 1000000)
  (k : ∀ v' w', Same W w' → Sat w' (own8 v' (l ++ m) * F) → wpList Tryz.prog ops Q rest (a.put o.dst v') w') : wpList Tryz.prog ops Q (o :: rest) a W := by
 obtain ⟨v', w', hr, h1, h2⟩ := run_append_s8 h0 h m hn o.type
 refine wpList_run hg (v := v') (w' := w') ?_ (k v' w' h1 h2)
 unfold execOp
 simp only [ho, resolve, invoke, builtin, Sem.run_bind, Sem.run_pure, Result.andThen_ok, List.map_toArray, List.map_cons, List.map_nil, hs, hx, hr]
structure WiS (w : World) (iv : Value) (wr : World) : Prop where
 st : ∃ z : Int, 1 ≤ z ∧ z ≤ 8 ∧ iv = .int .i64 z ∧ wr = w
structure WjS (w : World) (ov iv : Value) (wr : World) : Prop where
 st : ∃ (i : Int) (l : List UInt8), (i = 0 ∧ l = [129] ∨ i = -1 ∧ l = [129, 32]) ∧ iv = .int .i64 i ∧ Same w wr ∧ Sat wr (own8 ov l * old w)
theorem shr32_zero {q : Nat} (h : 2 ≤ q) (h8 : q ≤ 8) : (32 >>> (8 * (q - 1)) : Nat) = 0 := by
 obtain rfl | rfl | rfl | rfl | rfl | rfl | rfl : q = 2 ∨ q = 3 ∨ q = 4 ∨ q = 5 ∨ q = 6 ∨ q = 7 ∨ q = 8 := by omega
 all_goals rfl
set_option maxRecDepth 20000 in
set_option maxHeartbeats 2000000 in
theorem wint_any (w : World) : Calls Tryz.prog 131 #[.int .i64 32] w fun e w' => ∃ v, e = .returned v ∧ Same w w' ∧ Sat w' (own8 v [129, 32] * old w) := by
 have hx1 : bits .xor .u8 129 0 = 129 := by decide
 have hx2 : bits .xor .u8 32 0 = 32 := by decide
 go_enter Tryz.func131, Tryz.ntmps131
 go_wp2
 refine wp_scope_straight ?_
 go_wp2
 refine wp_label ?_
 go_wp2
 go_loopw [5] (fun iv wr => WiS w iv wr) (fun iv _ => (intOf iv).toNat)
 case atStart => exact ⟨⟨8, by omega, by omega, rfl, rfl⟩⟩
 case round =>
  obtain ⟨z, h1, h8, rfl, rfl⟩ := hrel.st
  clear hrel
  by_cases hq : z = 1
  ·subst hq
   go_upto_region 6 with (fail)
   refine wp_region_lit ?_
   (apply wpList_runG rfl); (go_simp; first | rfl | exact ⟨rfl, rfl⟩); simp only [Act.put, zq1, zq2, zq3]
   (apply wpList_runG rfl); (go_simp; first | rfl | exact ⟨rfl, rfl⟩); simp only [Act.put, zq1, zq2, zq3]
   refine wpList_runG (v := .int .i64 0) rfl (exec_binop (vx := .int .i64 1) (vy := .int .i64 1) rfl rfl rfl rfl (by rw [b_sub _ 1 1 0 rfl (by decide) (by decide)]; rfl)) ?_; simp only [Act.put, zq1, zq2, zq3]
   refine wpList_runG (v := .int .i64 0) rfl (exec_binop (vx := .int .i64 8) (vy := .int .i64 0) rfl rfl rfl rfl (by rw [b_mul _ 8 0 0 rfl (by decide) (by decide)]; rfl)) ?_; simp only [Act.put, zq1, zq2, zq3]
   refine wpList_runG (v := .int .u64 32) rfl (exec_binop (vx := .int .u64 32) (vy := .int .i64 0) rfl rfl rfl rfl (by rw [show (32 : Int) = ((32 : Nat) : Int) from rfl, show (0 : Int) = ((0 : Nat) : Int) from rfl, o_shr64 _ 32 0 (by omega)]; rfl)) ?_; simp only [Act.put, zq1, zq2, zq3]
   (apply wpList_runG rfl); (go_simp; first | rfl | exact ⟨rfl, rfl⟩); simp only [Act.put, zq1, zq2, zq3]
   refine wpList_nil ?_
   have H0 := Lib.hid (show Same wr (wr.alloc (.cells #[.int .u8 129] T8)) ∧ Sat (wr.alloc (.cells #[.int .u8 129] T8)) (own8 (.slice (some ⟨wr.heap.size, 0, none⟩) 1 1) [129] * old wr) from
    ⟨(Same.refl wr).alloc _, ownAt_iff.2 (.inr ⟨_, _, _, ⟨rfl, Nat.le_refl _, by unfold maxLen; omega, by simp, by simp [b8], by simp [b8]⟩, (Sat.old wr).alloc _⟩)⟩)
   clear h1 h8
   go_wp2
   generalize wr.alloc (.cells #[.int .u8 129] T8) = w1 at H0 ⊢
   generalize wr.heap.size = g1 at H0 ⊢
   obtain ⟨wo, rfl⟩ : ∃ wo : World, wo = wr := ⟨_, rfl⟩
   go_loopw [6, 7] (fun ov iv wr => WjS wo ov iv wr) (fun _ iv _ => (intOf iv + 1).toNat)
   case atStart => exact ⟨⟨0, [129], .inl ⟨rfl, rfl⟩, rfl, H0.out.1, H0.out.2⟩⟩
   case round =>
    clear H0
    obtain ⟨i, l, hil, rfl, hsm, hst⟩ := hrel.st
    clear hrel
    have HS := Lib.hid (And.intro hsm hst)
    clear hsm hst
    rcases hil with ⟨rfl, rfl⟩ | ⟨rfl, rfl⟩
    ·go_wp2_with (at_builtin; refine wpList_ap8 (z := 32) rfl _ _ rfl rfl rfl rfl HS.out.2 (by simp) ?_; intro v9 w9 h9 h10)
     go_roundw
     case rel => exact ⟨⟨-1, [129, 32], .inr ⟨rfl, rfl⟩, rfl, HS.out.1.trans h9, h10⟩⟩
     case measure => simp [intOf]
    ·go_wp2
     try rw [Exit.noGoto_ret]
     go_ret
     exact ⟨_, rfl, HS.out.1, HS.out.2⟩
  ·obtain ⟨q, rfl⟩ : ∃ q : Nat, z = (q : Int) := ⟨z.toNat, by omega⟩
   have hp : decide (0 < (q : Int)) = true := decide_eq_true (by omega)
   go_upto_region 6 with (fail)
   refine wp_region_lit ?_
   (apply wpList_runG rfl); (go_simp; first | rfl | exact ⟨rfl, rfl⟩); simp only [Act.put, zq1, zq2, zq3]
   (apply wpList_runG rfl); (go_simp; first | rfl | exact ⟨rfl, rfl⟩); simp only [Act.put, zq1, zq2, zq3]
   refine wpList_runG (v := .int .i64 ((q - 1 : Nat) : Int)) rfl (exec_binop (vx := .int .i64 (q : Int)) (vy := .int .i64 1) rfl rfl rfl rfl (by rw [b_sub _ (q : Int) 1 ((q - 1 : Nat) : Int) (by omega) (by omega) (by omega)]; rfl)) ?_; simp only [Act.put, zq1, zq2, zq3]
   refine wpList_runG (v := .int .i64 ((8 * (q - 1) : Nat) : Int)) rfl (exec_binop (vx := .int .i64 8) (vy := .int .i64 ((q - 1 : Nat) : Int)) rfl rfl rfl rfl (by rw [b_mul _ 8 ((q - 1 : Nat) : Int) ((8 * (q - 1) : Nat) : Int) (by omega) (by omega) (by omega)]; rfl)) ?_; simp only [Act.put, zq1, zq2, zq3]
   refine wpList_runG (v := .int .u64 ((32 >>> (8 * (q - 1)) : Nat) : Int)) rfl (exec_binop (vx := .int .u64 ((32 : Nat) : Int)) (vy := .int .i64 ((8 * (q - 1) : Nat) : Int)) rfl rfl rfl rfl (by rw [o_shr64 _ 32 (8 * (q - 1)) (by omega)]; rfl)) ?_; simp only [Act.put, zq1, zq2, zq3]
   rw [shr32_zero (by omega) (by omega)]
   (apply wpList_runG rfl); (go_simp; first | rfl | exact ⟨rfl, rfl⟩); simp only [Act.put, zq1, zq2, zq3]
   refine wpList_nil ?_
   have hw : IntKind.i64.wrap ((q : Int) - 1) = (q : Int) - 1 := IntWalk.i64_in _ (by omega)
   go_wp2
   go_roundw
   case rel => exact ⟨⟨(q : Int) - 1, by omega, by omega, rfl, rfl⟩⟩
   case measure => simp only [intOf]; omega
set_option maxRecDepth 20000 in
theorem wbytes_any (s : List UInt8) (hs : s.length = 32) (w : World) : Calls Tryz.prog 103 #[.string (strL s)] w fun e w' => ∃ v, e = .returned v ∧ Same w w' ∧ Sat w' (own8 v (lenB s) * old w) := by
 have hsz : (strL s).size = 32 := by rw [strL_size, hs]
 have HI := Lib.hid (fun W => wint_any W)
 have HL := Lib.hid hs
 clear hs
 go_enter Tryz.func103, Tryz.ntmps103
 go_wp2_with first
  | (go_at_call 131; refine (HI.out _).mono ?_; rintro e w1 ⟨v1, rfl, h1, h2⟩; have H1 := Lib.hid (And.intro h1 h2); clear h1 h2)
  | (at_builtin; refine wpList_apps8 rfl _ _ rfl rfl rfl (by simp) H1.out.2 (by rw [HL.out]; simp) ?_; intro v9 w9 h9 h10)
 go_ret
 exact ⟨_, rfl, H1.out.1.trans h9, h10⟩
structure DiS (w : World) (l : List UInt8) (ov iv : Value) (wr : World) : Prop where
 st : ∃ (i : Nat) (m : List UInt8), (i = 0 ∧ m = [3] ∨ i = 1 ∧ m = [3] ++ lenB l) ∧ iv = .int .i64 (i : Int) ∧ Same w wr ∧ Sat wr (own8 ov m * old w)
set_option maxRecDepth 20000 in
set_option maxHeartbeats 1000000 in
theorem dinput_any (s : List UInt8) (hs : s.length = 32) (b off cap : Nat) (w : World) (hb : w.cell? ⟨b, off, none⟩ = some (.string (strL s))) :
  Calls Tryz.prog 77 #[.int .i64 3, .slice (some ⟨b, off, none⟩) 1 cap] w fun e w' => ∃ v, e = .returned v ∧ Same w w' ∧ Sat w' (own8 v ([3] ++ lenB s) * old w) := by
 have HBY := Lib.hid (fun W => wbytes_any s hs W)
 have HC := Lib.hid (fun W (h : Below w.heap.size w W) => (h.cell (p := ⟨b, off, none⟩) (World.block_lt_of_cell? _ _ hb)).trans hb)
 have HLL := Lib.hid (show (lenB s).length = 34 by unfold lenB; simp [hs])
 have H0 := Lib.hid (show Same w (w.alloc (.cells #[.int .u8 3] T8)) ∧ Sat (w.alloc (.cells #[.int .u8 3] T8)) (own8 (.slice (some ⟨w.heap.size, 0, none⟩) 1 1) [3] * old w) from
  ⟨(Same.refl w).alloc _, ownAt_iff.2 (.inr ⟨_, _, _, ⟨rfl, Nat.le_refl _, by unfold maxLen; omega, by simp, by simp [b8], by simp [b8]⟩, (Sat.old w).alloc _⟩)⟩)
 clear hb hs
 go_enter Tryz.func77, Tryz.ntmps77
 go_wp2
 generalize w.alloc (.cells #[.int .u8 3] T8) = w1 at H0 ⊢
 generalize w.heap.size = g1 at H0 ⊢
 go_loopw [5, 13] (fun ov iv wr => DiS w s ov iv wr) (fun _ iv _ => 1 - (intOf iv).toNat)
 case atStart => exact ⟨⟨0, [3], .inl ⟨rfl, rfl⟩, rfl, H0.out⟩⟩
 case round =>
  clear H0
  obtain ⟨i, m, him, rfl, hsm, hst⟩ := hrel.st
  clear hrel
  have HS := Lib.hid (And.intro hsm hst)
  have c1 := HC.out wr (hsm.below_of hst)
  clear hsm hst
  rcases him with ⟨rfl, rfl⟩ | ⟨rfl, rfl⟩
  ·go_wp2_with first
    | (go_at_call 103; refine (HBY.out wr).mono ?_; rintro e w2 ⟨v2, rfl, h2, h3⟩; have H2 := Lib.hid (And.intro h2 h3); clear h2 h3)
    | (at_builtin; refine wpList_app8 (F := old w) rfl _ _ rfl rfl rfl (((H2.out.2.of_all HS.out.2)).right) (own8_row H2.out.2) (by rw [HLL.out]; simp) ?_; intro v9 w9 h9 h10)
   go_roundw
   case rel => exact ⟨⟨1, _, .inr ⟨rfl, rfl⟩, rfl, (HS.out.1.trans H2.out.1).trans h9, h10⟩⟩
   case measure => decide
  ·go_wp2
   go_ret
   exact ⟨_, rfl, HS.out.1, HS.out.2⟩
end Go.Proofs.YteikbikopgabjaaGreatDoor
end
section
namespace Go.Sl
open Go Go.RowKit
structure Free (F : Fence) (P : Program) : Prop where
 round : F.round = none
 depth : F.depth = none
 fn : ∀ f, F.fn f
 calls : ∀ (n : Nat) (f : FuncId) (args : Array Value) (w : World) (R : Ending → World → Prop), Calls P f args w R → CallsIn F n P f args w R
theorem free_wide (P : Program) : Free Fence.wide P := ⟨rfl, rfl, fun _ => trivial, fun _ _ _ _ _ h => callsIn_wide.2 h⟩
theorem Free.callsR {F : Fence} {P : Program} (h : Free F P) (l n : Nat) {f : FuncId} {args : Array Value} {w : World} {R : Ending → World → Prop} (hc : Calls P f args w R) : CallsIn (F.inRound l) n P f args w R := h.calls n f args w R hc
theorem Free.ask {F : Fence} {P : Program} (h : Free F P) (k : Nat) : (F.depth.isSome = true → 1 ≤ k) := fun h2 => by rw [h.depth] at h2; cases h2
section
variable {F : Fence} {n : Nat} {P : Program} {ops : Array Oper} {Q : Exit → Act → World → Prop} {S : World → Prop}
theorem YieldsIf.wpOpI (hF : Free F P) {i : Nat} {o : Oper} {v : Value} {a : Act} (hi : ops[i]? = some o) (hy : YieldsIf P ops S o v a) {K : Act → World → Prop} {w : World} (hS : S w) (h : K (a.put o.dst v) w) : wpOpIn F n P ops Q i K a w := by
 unfold Go.wpOpIn
 simp only [hi]
 rcases hy with ⟨hw, hv⟩ | ⟨hw, rfl⟩
 ·simp only [hw, if_true, Oper.wpIn, hF.round, Oper.semAt_none, hv w hS, Oper.uponIn]; exact ⟨fun _ _ => hF.fn _, h⟩
 ·simp only [hw, Bool.false_eq_true, if_false]; exact ⟨fun _ _ => hF.fn _, h⟩
theorem wpOpI_put (hF : Free F P) {j : Nat} {oi oj : Oper} {v : Value} (hj : ops[j]? = some oj) (hap : oi.apart ops oj = true) (hsi : ∀ cs b, oi.op ≠ .select cs b) (hsj : ∀ cs b, oj.op ≠ .select cs b)
  (hQ : ∀ c a w, Q (.panic c) (a.put oi.dst v) w → Q (.panic c) a w) {K : Act → World → Prop} {a : Act} {w : World} (hy : YieldsIf P ops S oi v a) (h : wpOpIn F n P ops Q j K (a.put oi.dst v) w) :
  wpOpIn F n P ops Q j (fun a' w' => YieldsIf P ops S oi v a' ∧ K (a'.put oi.dst v) w') a w := by
 obtain ⟨h1, h2, h3⟩ := Oper.apart_spec hap
 have keep : ∀ b : Act, YieldsIf P ops S oi v b → ∀ u, YieldsIf P ops S oi v (b.put oj.dst u) := fun b hb u => hb.of_same (execOp_put oi hsi b oj.dst u h3) (wanted_put oi b oj.dst u h3)
 unfold wpOpIn at *
 simp only [hj] at *
 rw [wanted_put oj a oi.dst v h1] at h
 cases hw : Region.wanted oj (yielded ops a.tmps) with
 | false =>
  simp only [hw, Bool.false_eq_true, if_false] at h ⊢
  exact ⟨fun _ _ => hF.fn _, keep a hy _, by rw [← Act.put_comm a v undef h2]; exact h.2⟩
 | true =>
  simp only [hw, if_true] at h ⊢
  unfold Oper.wpIn at *
  refine ⟨fun _ _ => hF.fn _, ?_⟩
  have h := h.2
  rw [hF.round, Oper.semAt_none, execOp_put oj hsj a oi.dst v h1] at h
  rw [hF.round, Oper.semAt_none]
  cases hr : (execOp a.eval oj).run P w with
  | ok x w' =>
   rw [hr] at h
   cases x <;> simp only [Oper.uponIn] at h ⊢
   case value u => exact ⟨keep a hy u, by rw [← Act.put_comm a v u h2]; exact h⟩
   case skip => exact ⟨keep a hy _, by rw [← Act.put_comm a v undef h2]; exact h⟩
   case defer d =>
    refine ⟨keep ⟨a.tmps, d :: a.defers⟩ (hy.of_same rfl rfl) _, ?_⟩
    rw [← Act.put_comm _ v undef h2, ← Act.put_defers]
    exact h
   case enter f args =>
    refine ⟨h.1, CallsIn.mono h.2 fun e w'' he => ?_⟩
    cases e with
    | returned u => exact ⟨keep a hy u, by rw [← Act.put_comm a v u h2]; exact he⟩
    | panicked c => exact hQ _ _ _ he
    | outgrown => exact he
   case row row args => exact ⟨h.1, RowsIn.mono h.2 fun u w'' he => ⟨keep a hy u, by rw [← Act.put_comm a v u h2]; exact he⟩⟩
   case round l f tmps assign body =>
    refine ⟨h.1, RoundIn.mono h.2 fun e w'' he => ?_⟩
    cases e with
    | returned u => exact ⟨keep a hy u, by rw [← Act.put_comm a v u h2]; exact he⟩
    | panicked c => exact hQ _ _ _ he
    | outgrown => exact he
  | halt x w' =>
   rw [hr] at h
   cases x <;> simp only [Oper.uponIn] at h ⊢
   exact hQ _ _ _ h
def pivB (ops : Array Oper) (j : Nat) : Bool := (List.range ops.size).all fun i => i == j || reachB ops 12 j i || reachB ops 12 i j
theorem not_piv {i j : Nat} {listed : Array Bool} (hc : Closed ops listed) (hi : i ∈ Region.ready .any ops listed) (hj : j ∈ Region.ready .any ops listed) (hne : j ≠ i) : pivB ops j = false := by
 obtain ⟨hiun, oi, hoi, halli⟩ := mem_ready.1 hi
 obtain ⟨hjun, oj, hoj, hall⟩ := mem_ready.1 hj
 cases ht : pivB ops j with
 | false => rfl
 | true =>
  exfalso
  unfold pivB at ht
  have hisz : i < ops.size := (Array.getElem?_eq_some_iff.1 hoi).1
  have h1 := List.all_eq_true.1 ht i (by simp [hisz])
  have h2 : (i == j) = false := by simp; exact Ne.symm hne
  rw [h2, Bool.false_or, Bool.or_eq_true] at h1
  rcases h1 with h1 | h1
  ·have h3 := hc.reach _ j i oj hoj hall h1
   rcases Nat.lt_or_ge i listed.size with h' | h'
   ·simp [h'] at hiun h3; rw [hiun] at h3; cases h3
   ·simp [Array.getElem?_eq_none h'] at h3
  ·have h3 := hc.reach _ i j oi hoi halli h1
   rcases Nat.lt_or_ge j listed.size with h' | h'
   ·simp [h'] at hjun h3; rw [hjun] at h3; cases h3
   ·simp [Array.getElem?_eq_none h'] at h3
def wpAnyGI (F : Fence) (n : Nat) (P : Program) (ops : Array Oper) (Q : Exit → Act → World → Prop) (S : World → Prop) : Nat → Array Bool → Act → World → Prop
 | 0, listed, a, w => Region.ready .any ops listed = [] ∧ Q .normal a w
 | fuel + 1, listed, a, w =>
  (Region.ready .any ops listed = [] → Q .normal a w) ∧
  ∀ i ∈ Region.ready .any ops listed, wpOpIn F n P ops Q i (fun a' w' => (pivB ops i = true ∨ S w') ∧ wpAnyGI F n P ops Q S fuel (listed.setIfInBounds i true) a' w') a w
theorem wpAnyIn_of_GI : ∀ (fuel : Nat) (listed : Array Bool) (a : Act) (w : World), wpAnyGI F n P ops Q S fuel listed a w → wpAnyIn F n P .any ops Q fuel listed a w
 | 0, _, _, _, h => h
 | fuel + 1, _, _, _, h => ⟨h.1, fun i hi => wpOpIn_mono (fun a' w' h' => wpAnyIn_of_GI fuel _ a' w' h'.2) (h.2 i hi)⟩
theorem wpAnyGI_first (hF : Free F P) {i : Nat} {oi : Oper} {v : Value} (hi : ops[i]? = some oi) (hsel : ∀ (j : Nat) (o : Oper) cs b, ops[j]? = some o → o.op ≠ .select cs b)
  (hQ : ∀ c a w, Q (.panic c) (a.put oi.dst v) w → Q (.panic c) a w) :
  ∀ (fuel : Nat) (listed : Array Bool) (a : Act) (w : World), Closed ops listed →
   (∀ j oj, ops[j]? = some oj → j ≠ i → listed.getD j true = false → (∀ e ∈ oj.after, Region.binds .any e = true → e.on ≠ i) → oi.apart ops oj = true) →
   i ∈ Region.ready .any ops listed → YieldsIf P ops S oi v a → S w →
   wpAnyGI F n P ops Q S fuel (listed.setIfInBounds i true) (a.put oi.dst v) w → wpAnyGI F n P ops Q S (fuel + 1) listed a w := by
 intro fuel
 induction fuel with
 | zero =>
  intro listed a w _ _ hr hy hS H
  refine ⟨fun h => (by rw [h] at hr; cases hr), fun j hj => ?_⟩
  by_cases hji : j = i
  ·subst hji; exact YieldsIf.wpOpI hF hi hy hS ⟨.inr hS, H⟩
  ·have := ready_mono hj hji
   rw [H.1] at this
   cases this
 | succ fuel ih =>
  intro listed a w hc hfree hr hy hS H
  refine ⟨fun h => (by rw [h] at hr; cases hr), fun j hj => ?_⟩
  by_cases hji : j = i
  ·subst hji; exact YieldsIf.wpOpI hF hi hy hS ⟨.inr hS, H⟩
  ·have h1 := H.2 j (ready_mono hj hji)
   obtain ⟨hjun, oj, hoj, hall⟩ := mem_ready.1 hj
   have hnot : ∀ e ∈ oj.after, Region.binds .any e = true → e.on ≠ i := fun e he hb heq => by
    have h1 := hall e he hb
    have h0 := (mem_ready.1 hr).1
    rw [heq] at h1
    rcases Nat.lt_or_ge i listed.size with h' | h'
    ·simp [h'] at h0 h1; rw [h0] at h1; cases h1
    ·simp [Array.getElem?_eq_none h'] at h1
   have h2 := wpOpI_put hF hoj (hfree j oj hoj hji hjun hnot) (fun cs b => hsel i oi cs b hi) (fun cs b => hsel j oj cs b hoj) hQ hy h1
   have hfree' : ∀ k ok, ops[k]? = some ok → k ≠ i → (listed.setIfInBounds j true).getD k true = false →
     (∀ e ∈ ok.after, Region.binds .any e = true → e.on ≠ i) → oi.apart ops ok = true := fun k ok hk hki hun hno => by
    refine hfree k ok hk hki ?_ hno
    by_cases hjk : j = k
    ·subst hjk; exact hjun
    ·rw [getD_set_ne true hjk] at hun; exact hun
   have hnt := not_piv hc hr hj hji
   refine wpOpIn_mono (fun a' w' h3 => ?_) h2
   have hS' : S w' := by
    rcases h3.2.1 with h | h
    ·rw [hnt] at h; cases h
    ·exact h
   refine ⟨.inr hS', ih (listed.setIfInBounds j true) a' w' (hc.set hj) hfree' (ready_mono hr (Ne.symm hji)) h3.1 hS' ?_⟩
   rw [Array.setIfInBounds_comm _ _ hji]
   exact h3.2.2
end
structure RegI (F : Fence) (n : Nat) (P : Program) (ops : Array Oper) (Q : Exit → Act → World → Prop) (S : World → Prop) (fuel : Nat) (listed : Array Bool) (t : Array Value) (df : List Deferred) (w : World) : Prop where
 out : Closed ops listed → wpAnyGI F n P ops (NoPanic Q) S fuel listed ⟨t, df⟩ w
section
variable {F : Fence} {n : Nat} {P : Program} {ops : Array Oper} {Q : Exit → Act → World → Prop} {S : World → Prop} {fuel : Nat} {listed : Array Bool} {t : Array Value} {df : List Deferred} {w : World}
theorem regi_begin (S : World → Prop) {id : Nat} (hm : P.follows .mixedOrders = true) (h : RegI F n P ops Q S ops.size (Array.replicate ops.size false) t df w.drew) : (Code.region id ops true).wpIn F n P Q ⟨t, df⟩ w :=
 wpIn_mono (wpIn_region_any hm (wpAnyIn_of_GI _ _ _ _ (h.out (Closed.init ops)))) NoPanic.imp
theorem regi_take (hF : Free F P) (i : Nat) {o : Oper} {d : Tmp} {v : Value} (ho : ops[i]? = some o) (hd : o.dst = some d) (hck : takeOK ops listed i = true) (hw : Region.wanted o (yielded ops t) = true)
  (hr : ∀ w', S w' → (execOp (Act.eval ⟨t, df⟩) o).run P w' = .ok (.value v) w') (hS : S w)
  (k : RegI F n P ops Q S fuel (listed.setIfInBounds i true) (t.setIfInBounds d v) df w) : RegI F n P ops Q S (fuel + 1) listed t df w := by
 simp only [takeOK, Bool.and_eq_true] at hck
 exact ⟨fun hc => wpAnyGI_first hF ho (Region.noSelect_spec hck.1.1) (fun _ _ _ h => h) _ _ _ _ hc (Region.free_spec ho hck.1.2) (by simpa using hck.2) (.inl ⟨hw, hr⟩) hS (by rw [hd]; exact k.out (hc.set (by simpa using hck.2)))⟩
theorem regi_done (hr : (Region.ready .any ops listed).isEmpty = true) (h : Q .normal ⟨t, df⟩ w) : RegI F n P ops Q S fuel listed t df w := by
 have hr' : Region.ready .any ops listed = [] := by simpa using hr
 constructor
 intro _
 cases fuel with
 | zero => exact ⟨hr', NoPanic.normal h⟩
 | succ n => exact ⟨fun _ => NoPanic.normal h, fun j hj => by rw [hr'] at hj; cases hj⟩
end
end Go.Sl
end
section
namespace Go.Sl
open Go Go.RowKit
def SeqSat {α : Type} (F : Fence) (n : Nat) (P : Program) (gf : Nat) (lb : Array Value) (encs : α → Array Value) (xs : List α) (Bx : HProp) (w0 : World) : Prop :=
 ∀ (l : Nat) (J : Nat → HProp) (Jx : HProp) (W : World),
  (∀ i x W1 G, xs[i]? = some x → Same w0 W1 → Sat W1 (J i * (Bx * G)) → YieldAt F (n - 1) P l (encs x) W1 fun e W' =>
   (e = .returned (.bool true) ∧ Same w0 W' ∧ Sat W' (J (i + 1) * (Bx * G))) ∨ (e = .returned (.bool false) ∧ Same w0 W' ∧ Sat W' (Jx * (Bx * G)))) →
  Same w0 W → Sat W (J 0 * Bx) →
  CallsIn F n P gf (#[.func (.yield l) #[] #[]] ++ lb) W fun e W' => (∃ v, e = .returned v) ∧ ((Same w0 W' ∧ Sat W' (J xs.length * Bx)) ∨ (Same w0 W' ∧ Sat W' (Jx * Bx)))
def satPost (w0 : World) (R : HProp) (Rx : Code → HProp) (G : HProp) : Exit → Act → World → Prop
 | .normal, _, W' => Same w0 W' ∧ Sat W' (R * G)
 | .ret, _, W' => Same w0 W' ∧ Sat W' (Rx .ret * G)
 | .exit id, _, W' => Same w0 W' ∧ Sat W' (Rx (.exit id) * G)
 | .goto t, _, W' => Same w0 W' ∧ Sat W' (Rx (.goto t) * G)
 | .panic _, _, _ => False
 | .outgrown, _, _ => False
theorem wpIn_rangeFunc_sat {α : Type} {F : Fence} {n : Nat} {P : Program} {g : Operand} {ps : Array Tmp} {assign body : Code} {Q : Exit → Act → World → Prop} {a : Act} {w : World}
  (hro : F.round = none) (h1 : 1 ≤ n) {gf : Nat} {lb : Array Value} (hg : a.eval g = .func (.func gf) #[] lb) (hFg : F.fn gf) (eg : ∀ args w, (callFunc gf args).run P w = .ok (.enter gf args) w)
  {encs : α → Array Value} {xs : List α} {Bx : HProp} {w0 : World} (hseq : SeqSat F (n - 1) P gf lb encs xs Bx w0) (hps : ∀ x, (encs x).size = ps.size)
  (R : Nat → HProp) (Rx : Code → HProp) (hsm : Same w0 w) (h0 : Sat w (R 0 * Bx)) (a₁ : α → Act)
  (hassign : ∀ (l : Nat) (x : α) (W : World) (K : Act → World → Prop), K (a₁ x) W →
   assign.wpIn (F.inRound l) (n - 1 - 1) P (Exit.then K (fun _ _ _ => False)) { tmps := (ps.zip (encs x)).foldl (fun t (p, v) => t.setIfInBounds p v) a.tmps, defers := [] } W)
  (hbody : ∀ (l i : Nat) (x : α) (G : HProp) (W : World), xs[i]? = some x → Same w0 W → Sat W (R i * G) → body.wpIn (F.inRound l) (n - 1 - 1) P (satPost w0 (R (i + 1)) Rx G) (a₁ x) W)
  (hdone : ∀ (D : Nat) (W : World), Same w0 W → Sat W (R xs.length * (pts D (.deferred (some [])) * Bx)) → Q .normal { a with defers := { target := .collected D, args := #[] } :: a.defers } W)
  (hstop : ∀ (D : Nat) (c : Code) (W : World), Same w0 W → Sat W (Rx c * (pts D (.deferred (some [])) * Bx)) → c.wpIn F n P Q { a with defers := { target := .collected D, args := #[] } :: a.defers } W) :
  (Code.rangeFunc g ps assign body).wpIn F n P Q a w := by
 refine wpIn_rangeFunc ?_
 intro fn hfn
 rw [hro]
 obtain ⟨rec, hrec⟩ : ∃ rec : LoopState → Option Code → Loop, rec = fun st pe => { state := st, pending := pe, fn, tmps := a.tmps, params := ps, assign, body, defers := w.heap.size } := ⟨_, rfl⟩
 obtain ⟨W1, hW1⟩ : ∃ W1, (w.alloc (.deferred (some []))).alloc (.loop (rec .ready none)) = W1 := ⟨_, rfl⟩
 have hS1 : Sat W1 (pts (w.heap.size + 1) (.loop (rec .ready none)) * (pts w.heap.size (.deferred (some [])) * (R 0 * Bx))) := by
  have h := (h0.alloc (.deferred (some []))).alloc (.loop (rec .ready none))
  rw [World.size_alloc, hW1] at h
  exact h
 have hM1 : Same w0 W1 := by rw [← hW1]; exact (hsm.alloc _).alloc _
 refine ⟨w.heap.size + 1, [{ target := .collected w.heap.size, args := #[] }], W1, { target := .fn (.func gf) lb, args := #[.func (.yield (w.heap.size + 1)) #[] #[]] }, W1, gf,
  #[.func (.yield (w.heap.size + 1)) #[] #[]] ++ lb, W1, ?_, ?_, ?_, ?_, fun _ => h1, ?_⟩
 ·rw [← hW1, hrec]; exact run_enterLoop_outer _ _ _ _ _
 ·simp only [resolve, hg]
  simp [go_sem]
 ·intro f' hf'; simp [Target.leads] at hf'; subst hf'; exact hFg
 ·simp [invoke, go_sem, eg]
 ·generalize w.heap.size = D at hS1 hrec ⊢
  refine (hseq (D + 1) (fun i => R i * (pts (D + 1) (.loop (rec .ready none)) * pts D (.deferred (some [])))) (ex fun c => Rx c * (pts (D + 1) (.loop (rec .done (some c))) * pts D (.deferred (some []))))
   W1 ?_ hM1 (hS1.perm (by ac_rfl))).mono ?_
  ·rintro i x W G' hx hm hs
   have hsl : Sat W (pts (D + 1) (.loop (rec .ready none)) * (R i * (pts D (.deferred (some [])) * (Bx * G')))) := hs.perm (by ac_rfl)
   have hl := hsl.block
   have hy := run_yield (P := P) (args := encs x) hl (by rw [hrec]; exact hps x)
   rw [hrec] at hy
   refine ⟨fn, _, assign, body, hy, roundIn_of_wpIn hfn (hassign _ x W _ ⟨_, run_beginRound hl (by rw [hrec]), ?_⟩)⟩
   have hs2 : Sat (W.putObj (D + 1) (.loop { rec .ready none with state := .busy })) (pts (D + 1) (.loop { rec .ready none with state := .busy }) * (R i * (pts D (.deferred (some [])) * (Bx * G')))) := hsl.putObj
   have hm2 : Same w0 (W.putObj (D + 1) (.loop { rec .ready none with state := .busy })) := hm.putObj _ _
   refine wpIn_mono (hbody _ i x (pts (D + 1) (.loop { rec .ready none with state := .busy }) * (pts D (.deferred (some [])) * (Bx * G'))) _ hx hm2 (hs2.perm (by ac_rfl))) ?_
   have fin : ∀ (jump : Option Code) (W3 : World) (X : HProp), Same w0 W3 → Sat W3 (X * (pts (D + 1) (.loop { rec .ready none with state := .busy }) * (pts D (.deferred (some [])) * (Bx * G')))) →
     (Instr.endRound (D + 1) jump).run P W3 = .ok (.bool jump.isNone) (W3.putObj (D + 1) (.loop (rec (if jump.isNone then .ready else .done) jump))) ∧
     Same w0 (W3.putObj (D + 1) (.loop (rec (if jump.isNone then .ready else .done) jump))) ∧
     Sat (W3.putObj (D + 1) (.loop (rec (if jump.isNone then .ready else .done) jump))) (X * (pts (D + 1) (.loop (rec (if jump.isNone then .ready else .done) jump)) * pts D (.deferred (some []))) * (Bx * G')) := fun jump W3 X hm3 hs3 => by
    have hs4 : Sat W3 (pts (D + 1) (.loop { rec .ready none with state := .busy }) * (X * (pts D (.deferred (some [])) * (Bx * G')))) := hs3.perm (by ac_rfl)
    have hl3 := hs4.block
    have := run_endRound (P := P) jump hl3
    rw [hrec] at this ⊢
    refine ⟨this, hm3.putObj _ _, ?_⟩
    have h5 := hs4.putObj (o' := .loop (rec (if jump.isNone then .ready else .done) jump))
    rw [hrec] at h5
    exact Sat.perm h5 (by ac_rfl)
   rintro e a3 W3 hp
   cases e with
   | normal =>
    obtain ⟨hm3, hs3⟩ := hp
    obtain ⟨hr, hm4, hs4⟩ := fin none W3 _ hm3 hs3
    exact ⟨_, _, hr, .inl ⟨rfl, hm4, hs4⟩⟩
   | ret =>
    obtain ⟨hm3, hs3⟩ := hp
    obtain ⟨hr, hm4, hs4⟩ := fin (some .ret) W3 _ hm3 hs3
    exact ⟨_, _, hr, .inr ⟨rfl, hm4, Sat.ex.2 ⟨.ret, hs4⟩⟩⟩
   | exit id =>
    obtain ⟨hm3, hs3⟩ := hp
    obtain ⟨hr, hm4, hs4⟩ := fin (some (.exit id)) W3 _ hm3 hs3
    exact ⟨_, _, hr, .inr ⟨rfl, hm4, Sat.ex.2 ⟨.exit id, hs4⟩⟩⟩
   | goto t =>
    obtain ⟨hm3, hs3⟩ := hp
    obtain ⟨hr, hm4, hs4⟩ := fin (some (.goto t)) W3 _ hm3 hs3
    exact ⟨_, _, hr, .inr ⟨rfl, hm4, Sat.ex.2 ⟨.goto t, hs4⟩⟩⟩
   | panic ch => exact hp.elim
   | outgrown => exact hp.elim
  ·rintro e W2 ⟨⟨v, rfl⟩, (⟨hm, hs⟩ | ⟨hm, hs⟩)⟩
   ·have hsl : Sat W2 (pts (D + 1) (.loop (rec .ready none)) * (R xs.length * (pts D (.deferred (some [])) * Bx))) := hs.perm (by ac_rfl)
    exact ⟨none, _, by have := run_endLoop (P := P) hsl.block (by rw [hrec]; simp); rw [hrec] at this; exact this, hdone D _ (hm.putObj _ _) ((hsl.putObj (o' := _)).right)⟩
   ·obtain ⟨c, hc⟩ := Sat.ex.1 hs
    have hsl : Sat W2 (pts (D + 1) (.loop (rec .done (some c))) * (Rx c * (pts D (.deferred (some [])) * Bx))) := hc.perm (by ac_rfl)
    exact ⟨some c, _, by have := run_endLoop (P := P) hsl.block (by rw [hrec]; simp); rw [hrec] at this; exact this, hstop D c _ (hm.putObj _ _) ((hsl.putObj (o' := _)).right)⟩
end Go.Sl
end
