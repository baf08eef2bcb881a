import Derived.Test.YteikbikopgabjaaGreatDoorH24
import Derived.Test.YteikbikopgabjaaGreatDoorH25
import Derived.Test.YteikbikopgabjaaGreatDoorH21
import Derived.Test.YteikbikopgabjaaGreatDoorH27
import Derived.Test.YteikbikopgabjaaGreatDoorH19
import Derived.DeepKeys5
import Derived.Lib.AppendZerosOnto
/- Part 28 of a proof; the last part says what is proved. -/
section
namespace Go.GF
open Go
def lineI (f : Nat → Nat) (n : Nat) : List Int := (List.range n).map fun i => ((f i : Nat) : Int)
theorem lineI_len (f : Nat → Nat) (n : Nat) : (lineI f n).length = n := by unfold lineI; simp
theorem lineI_at (f : Nat → Nat) {n i : Nat} (h : i < n) : (lineI f n)[i]? = some ((f i : Nat) : Int) := by unfold lineI; rw [List.getElem?_map, List.getElem?_range h]; rfl
def linesI (X : Mat) (n R : Nat) : List (List Int) := (List.range n).map fun k => lineI (X k) R
theorem linesI_len (X : Mat) (n R : Nat) : (linesI X n R).length = n := by unfold linesI; simp
theorem linesI_at (X : Mat) {n R k : Nat} (h : k < n) : (linesI X n R)[k]? = some (lineI (X k) R) := by unfold linesI; rw [List.getElem?_map, List.getElem?_range h]; rfl
end Go.GF
namespace Go.Sl
open Go Go.RowKit Go.GF
def hdrsL (C : Nat) (g : Nat → Nat × Nat) (n : Nat) : List Value := (List.range n).map fun i => hdrV C (g i)
theorem hdrsL_len (C : Nat) (g : Nat → Nat × Nat) (n : Nat) : (hdrsL C g n).length = n := by unfold hdrsL; simp
theorem hdrsL_at {C : Nat} {g : Nat → Nat × Nat} {n i : Nat} (h : i < n) : (hdrsL C g n)[i]? = some (hdrV C (g i)) := by unfold hdrsL; rw [List.getElem?_map, List.getElem?_range h]; rfl
def snG (g : Nat → Nat × Nat) (n : Nat) (x : Nat × Nat) : Nat → Nat × Nat := fun i => if i = n then x else g i
theorem row_of_own {w : World} {F : HProp} {T : TypeId} {v : Value} {n : Nat} {f : Nat → Nat} (hn : 0 < n) (h : Sat w (ownAt T 1 v n (intsV (lineI f n)) * F)) : ∃ x : Nat × Nat, v = hdrV n x ∧ Sat w (rowS T x n f * F) := by
 rcases ownAt_iff.1 h with ⟨_, h0, _⟩ | ⟨g, cap, cur, ⟨rfl, h1, h2, h3, h4, h5⟩, hs⟩
 ·omega
 ·refine ⟨(g, cap), rfl, rowS_iff.2 ⟨cur, ⟨h1, h2, by simpa using h3, fun j hj => ?_⟩, hs⟩⟩
  have := intsV_at (lineI_at f hj)
  rw [← h4, List.getElem?_take, if_pos (by omega), Array.getElem?_toList] at this
  exact this
theorem rowI_at {w : World} {ao : Option Addr} {n cp : Nat} {L : List Int} {i : Nat} {x : Int} (h : RowI w (.slice ao n cp) (intsV L)) (hx : L[i]? = some x) : n = L.length ∧ ∃ b off : Nat, ao = some ⟨b, off, none⟩ ∧ w.cell? ⟨b, off + i, none⟩ = some (.int .i64 x) := by
 obtain ⟨ao', cp', h1, h2, h3, h4⟩ := h
 cases h1
 obtain ⟨b, off, e, -, hc⟩ := h4 (by have := (List.getElem?_eq_some_iff.1 hx).1; rw [intsV_len]; omega)
 exact ⟨intsV_len L, b, off, e, hc i _ (intsV_at hx)⟩
end Go.Sl
namespace Go.Proofs.YteikbikopgabjaaGreatDoor
open Go.RowKit Go.GF Go.Sl
theorem wpList_apF {ops : Array Oper} {rest : List Oper} {o : Oper} {a : Act} {Q : Exit → Act → World → Prop} {F : HProp} {W : World} {t : TypeId} (hgd : o.guard = none) (s x : Operand)
  (ho : o.op = .call { callee := .builtin .append, args := #[s, x], argTypes := #[36, 36] }) {v : Value} {L : List Int} {z : Int} (hs : a.eval s = v) (hx : a.eval x = .slice (some ⟨W.heap.size, 0, none⟩) 1 1)
  (h : Sat W (ownAt TI 1 v L.length (intsV L) * F)) (hn : L.length ≤ 100000)
  (k : ∀ v' w', Same W w' → Sat w' (ownAt TI 1 v' (L ++ [z]).length (intsV (L ++ [z])) * F) → wpList Tryz.prog ops Q rest (a.put o.dst v') w') : wpList Tryz.prog ops Q (o :: rest) a (W.alloc (.cells #[.int .i64 z] t)) := by
 obtain ⟨i0, hi, hz0, hz1, hz2⟩ := info_parts info_int3
 refine wpList_append_ownAt (F := F) hgd s x 36 TI ho i0 _ Tryz.underlying36 hi hz0 hz1 hz2 rfl (h.allocKeep _) [.int .i64 z] hs hx rfl ?_ (by simp [Value.oneCell']) (by unfold maxLen; omega) (by omega) ?_
 ·intro j u hu
  match j, hu with
  | 0, hu =>
   simp at hu
   subst hu
   rw [Addr.add_mid]
   unfold World.cell?
   rw [show (W.alloc (.cells #[.int .i64 z] t)).heap[W.heap.size]? = _ from World.alloc_heap_new W _]; rfl
 ·intro v' w' h6
  refine k v' w' (((Same.refl W).alloc _).trans h6.out.1) ?_
  have := h6.out.2
  rw [show intsV L ++ [Value.int .i64 z] = intsV (L ++ [z]) by unfold intsV; simp, show L.length + 1 = (L ++ [z]).length by simp] at this
  exact this
end Go.Proofs.YteikbikopgabjaaGreatDoor
namespace Go.Proofs.YteikbikopgabjaaGreatDoor
open Go.RowKit Go.GF Go.Sl
structure ExB (w : World) (gs m n : Nat) (M : Mat) (j : Nat) (v : Value) (g : Nat → Nat × Nat) (F : HProp) (wr : World) : Prop where
 same : Same w wr
 sat : Sat wr (pts gs (.cells #[.int .i64 (m : Int), v] TSy (0, 0)) * (ownAt TRo 1 v j (hdrsL (n + 1) g j) * ((bigs j fun i => rowS TI (g i) (n + 1) (M i)) * F)))
theorem ExB.bel {w wr : World} {gs m n j : Nat} {M : Mat} {v : Value} {g : Nat → Nat × Nat} (h : ExB w gs m n M j v g (old w) wr) : Below w.heap.size w wr :=
 h.same.below_of (h.sat.perm (show _ = (pts gs (.cells #[.int .i64 (m : Int), v] TSy (0, 0)) * (ownAt TRo 1 v j (hdrsL (n + 1) g j) * bigs j fun i => rowS TI (g i) (n + 1) (M i))) * old w by ac_rfl))
end Go.Proofs.YteikbikopgabjaaGreatDoor
end
section
namespace Go.Proofs.YteikbikopgabjaaGreatDoor
open Go.RowKit Go.Sha Go.Sl Go.GF Go.Vol Go.Loss
def sameD (a b : List UInt8) : Bool := (List.range 16).all fun j => Go.Sha.sumN ([3] ++ lenB a) j == Go.Sha.sumN ([3] ++ lenB b) j
theorem sameD_iff {a b : List UInt8} : sameD a b = true ↔ digM a = digM b := by
 unfold sameD digM
 rw [List.all_eq_true]
 constructor
 ·intro h
  exact arrK_congr fun j hj => by simpa using h j (List.mem_range.2 hj)
 ·intro h j hj
  have hj2 : j < 16 := List.mem_range.1 hj
  have h4 := congrArg (fun a => a[j]?) h
  have h5 := (arrK_at .u8 16 (Go.Sha.sumN ([3] ++ lenB a)) hj2).symm.trans (h4.trans (arrK_at .u8 16 (Go.Sha.sumN ([3] ++ lenB b)) hj2))
  have h7 := (Value.int.inj (Option.some.inj h5)).2
  simp only [beq_iff_eq]
  omega
theorem eq_digM (a b : List UInt8) (w : World) : (binOp .eql TD (.agg (digM a)) (.agg (digM b))).run Tryz.prog w = .ok (.bool (sameD a b)) w := by
 obtain ⟨r, h1, h2⟩ := eq_dig (Go.Sha.sumN ([3] ++ lenB a)) (Go.Sha.sumN ([3] ++ lenB b)) (sumN_lt _) (sumN_lt _) w
 rw [show (Value.agg (digM a)) = .agg (arrK .u8 16 (Go.Sha.sumN ([3] ++ lenB a))) from rfl, show (Value.agg (digM b)) = .agg (arrK .u8 16 (Go.Sha.sumN ([3] ++ lenB b))) from rfl, h1]
 have e : r = sameD a b := Bool.eq_iff_iff.2 (h2.trans sameD_iff.symm)
 rw [e]
theorem load_dig {w : World} {b o : Nat} {s : List UInt8} (h : w.rangeAt b o (digM s).toList) : (loadVar TD ⟨b, o, none⟩).run Tryz.prog w = .ok (.agg (digM s)) w := by
 have := run_loadVar_mid (P := Tryz.prog) w b o TD (digM s).toList _ h Tryz.underlying67 rfl (by rw [Array.length_toList, digM_size]; kernel_rfl)
 rwa [Array.toArray_toList] at this
theorem guardD : Tryz.prog.eqGuardType Tryz.prog.depth TD = false := by kernel_rfl
theorem exec_eqA {a : Act} {o : Oper} {w : World} {x y : Operand} {t2 t : TypeId} {xs ys : Array Value} {r : Bool} (hm : Tryz.prog.eqGuardType Tryz.prog.depth t = false) (ho : o.op = .binOp .eql t x y t2) (hx : a.eval x = .agg xs) (hy : a.eval y = .agg ys)
  (h : (binOp .eql t (.agg xs) (.agg ys)).run Tryz.prog w = .ok (.bool r) w) : (execOp a.eval o).run Tryz.prog w = .ok (.value (.bool r)) w := by
 have hg := run_eqGuard_agg (P := Tryz.prog) (w := w) .eql t x y xs ys hm
 unfold execOp
 simp only [ho, Sem.run_bind, Sem.run_pure, hx, hy, hg, h, Result.andThen_ok]
theorem exec_eqD {a : Act} {o : Oper} {w : World} {x y : Operand} {t2 : TypeId} {s t : List UInt8} (ho : o.op = .binOp .eql TD x y t2) (hx : a.eval x = .agg (digM s)) (hy : a.eval y = .agg (digM t)) :
  (execOp a.eval o).run Tryz.prog w = .ok (.value (.bool (sameD s t))) w := exec_eqA guardD ho hx hy (eq_digM s t w)
def idsL (n : Nat) : List Int := (List.range n).map fun i => ((i : Nat) : Int) + 1
theorem idsL_len (n : Nat) : (idsL n).length = n := by simp [idsL]
theorem idsL_succ (n : Nat) : idsL (n + 1) = idsL n ++ [(n : Int) + 1] := by unfold idsL; rw [List.range_succ, List.map_append]; rfl
structure IdS (w : World) (n : Nat) (v i : Value) (wr : World) : Prop where
 st : ∃ k : Nat, k ≤ n ∧ i = .int .i64 (k : Int) ∧ Same w wr ∧ Sat wr (ownAt TI 1 v (idsL k).length (intsV (idsL k)) * old w)
set_option maxRecDepth 20000 in
set_option maxHeartbeats 2000000 in
theorem ids_any (p b cap : Nat) (rb : Nat → Nat) (L : List ChM) (w : World) (hT : TabR w p b cap rb L) :
  Calls Tryz.prog 38 #[.pointer (some ⟨p, 0, none⟩)] w fun e w' => ∃ v, e = .returned v ∧ Same w w' ∧ Sat w' (ownAt TI 1 v (idsL L.length).length (intsV (idsL L.length)) * old w) := by
 obtain ⟨tc, htc, htcs⟩ := Option.map_eq_some_iff.1 (show (Tryz.prog.info? TCh).map (·.size) = some 23 from by kernel_rfl)
 have HT := Lib.hid (fun W (h : Below w.heap.size w W) => hT.below h)
 have hmx := hT.max
 have c0 := hT.hd
 have HAO := Lib.hid (fun h : 0 < L.length => sOf_pos (b := b) h)
 generalize sOf b L = ao at HAO c0
 obtain ⟨n, hn⟩ : ∃ n, n = L.length := ⟨_, rfl⟩
 rw [← hn] at hmx HAO c0 ⊢
 have HN := Lib.hid hn
 clear hT hn
 go_enter Tryz.func38, Tryz.ntmps38
 go_wp2
 clear c0
 go_loopw [3, 11] (fun v i wr => IdS w n v i wr) (fun _ i _ => n - (intOf i).toNat)
 case atStart => exact ⟨⟨0, Nat.zero_le _, rfl, Same.refl _, ownAt_nil.2 (Sat.old w)⟩⟩
 case round =>
  obtain ⟨i, hi1, rfl, hsm, hst⟩ := hrel.st
  clear hrel
  have HS := Lib.hid (And.intro hsm hst)
  clear hsm hst
  have hi3 : (i : Int) ≤ 1000 := by omega
  by_cases hlt : i < n
  ·have hltd : decide ((i : Int) < (n : Int)) = true := decide_eq_true (by omega)
   obtain rfl := HAO.out (by omega)
   have HB := Lib.hid (HS.out.1.below_of HS.out.2)
   have hT := HT.out wr HB.out
   obtain ⟨x, hx⟩ : ∃ x, L[i]? = some x := ⟨_, List.getElem?_eq_getElem (by have := HN.out; omega)⟩
   have HR := hT.row _ x hx
   have HV := chA_at i (rb i) x
   have HO := chA_one i (rb i) x
   generalize chA i (rb i) x = A at HR HV HO
   replace HR := Lib.hid HR
   replace HV := Lib.hid HV
   replace HO := Lib.hid HO
   clear hT hx
   have HW3 := Lib.hid (And.intro (HS.out.1.alloc (.cells zCh TCh)) (HS.out.2.alloc (.cells zCh TCh)))
   have HLn := Lib.hid (idsL_succ i)
   have HLl := Lib.hid (idsL_len i)
   go_upto_region 5 with (first
    | ((with_reducible (apply wp_load_ch HV.out.size HR.out)); rfl; rfl; rfl)
    | ((with_reducible (refine wpList_alloc_zero ?_ TCh ?_ _ (zeroCh _) ?_)); rfl; rfl; generalize wr.alloc (.cells zCh TCh) = w3 at HW3 ⊢; generalize wr.heap.size = g5 at HW3 ⊢)
    | (refine wpList_store_blk (T := TCh) (old := zCh) (new := A) rfl rfl rfl rfl HW3.out.2 (infoCh HV.out.size) (by rw [HV.out.size]; rfl) HO.out ?_; intro w4 h4))
   have HW4 := Lib.hid (And.intro (HW3.out.1.trans h4.out.1) (h4.out.2.perm (show _ = ownAt TI 1 u3 (idsL i).length (intsV (idsL i)) * (pts g5 (.cells A TCh (0, 0)) * old w) by ac_rfl)))
   have c5 := (cells_at h4.out.2.block 0).trans HV.out.id
   clear h4 HW3 HS
   go_wp2_with (at_builtin; refine wpList_apF rfl _ _ rfl rfl rfl HW4.out.2 (by rw [HLl.out]; omega) ?_; intro v6 w6 h5 h6)
   refine ⟨⟨i + 1, by omega, by push_cast; rfl, HW4.out.1.trans h5, ?_⟩, by simp only [intOf]; omega⟩
   rw [HLn.out]
   exact (h6.perm (show _ = pts g5 (.cells A TCh (0, 0)) * (ownAt TI 1 v6 (idsL i ++ [(i : Int) + 1]).length (intsV (idsL i ++ [(i : Int) + 1])) * old w) by ac_rfl)).right
  ·have hie : i = n := by omega
   subst hie
   have hltd : decide ((i : Int) < (i : Int)) = false := decide_eq_false (by omega)
   go_wp2
   go_ret
   exact ⟨_, rfl, HS.out.1, HS.out.2⟩
def lostL (L : List ChM) (u : List UInt8) : List Int := (L.zipIdx.filter fun q => q.1.lost && sameD (unitL q.1.fill) u).map fun q => ((q.2 : Nat) : Int) + 1
theorem lostL_succ (L : List ChM) (u : List UInt8) {i : Nat} {x : ChM} (h : L[i]? = some x) : lostL (L.take (i + 1)) u = lostL (L.take i) u ++ (if (x.lost && sameD (unitL x.fill) u) = true then [(i : Int) + 1] else []) := by
 have hi := (List.getElem?_eq_some_iff.1 h).1
 unfold lostL
 rw [List.take_add_one, h, List.zipIdx_append, List.filter_append, List.map_append]
 congr 1
 simp only [Option.toList_some, List.zipIdx_cons, List.zipIdx_nil, List.length_take, Nat.zero_add, Nat.min_eq_left (Nat.le_of_lt hi)]
 cases hq : (x.lost && sameD (unitL x.fill) u) with
 | true => simp only [List.filter_cons, List.filter_nil, hq, if_true, List.map_cons, List.map_nil]
 | false => simp only [List.filter_cons, List.filter_nil, hq, if_false, List.map_nil, Bool.false_eq_true]
theorem lostL_len (L : List ChM) (u : List UInt8) : (lostL L u).length ≤ L.length := by
 unfold lostL
 rw [List.length_map]
 exact Nat.le_trans (List.length_filter_le _ _) (by rw [List.length_zipIdx]; omega)
structure LsS (w : World) (g3 : Nat) (D : Array Value) (L : List ChM) (u : List UInt8) (v i : Value) (wr : World) : Prop where
 st : ∃ k : Nat, k ≤ L.length ∧ i = .int .i64 (k : Int) ∧ Same w wr ∧ Sat wr (ownAt TI 1 v (lostL (L.take k) u).length (intsV (lostL (L.take k) u)) * (pts g3 (.cells D TD (0, 0)) * old w))
set_option maxRecDepth 20000 in
set_option maxHeartbeats 2000000 in
theorem lost_any (p b cap : Nat) (rb : Nat → Nat) (L : List ChM) (u : List UInt8) (w : World) (hT : TabR w p b cap rb L) :
  Calls Tryz.prog 51 #[.pointer (some ⟨p, 0, none⟩), .agg (digM u)] w fun e w' => ∃ v, e = .returned v ∧ Same w w' ∧ Sat w' (ownAt TI 1 v (lostL L u).length (intsV (lostL L u)) * old w) := by
 obtain ⟨tc, htc, htcs⟩ := Option.map_eq_some_iff.1 (show (Tryz.prog.info? TCh).map (·.size) = some 23 from by kernel_rfl)
 have HT := Lib.hid (fun W (h : Below w.heap.size w W) => hT.below h)
 have hmx := hT.max
 have c0 := hT.hd
 have hlt0 := hT.lt
 have HAO := Lib.hid (fun h : 0 < L.length => sOf_pos (b := b) h)
 generalize sOf b L = ao at HAO c0
 obtain ⟨n, hn⟩ : ∃ n, n = L.length := ⟨_, rfl⟩
 rw [← hn] at hmx HAO c0
 have HN := Lib.hid hn
 clear hT hn
 have hk : Tryz.prog.cellsOf TD = 16 := by kernel_rfl
 have HDO := Lib.hid (digM_size u)
 have HLL := Lib.hid (fun i (x : ChM) (h : L[i]? = some x) => lostL_succ L u h)
 have HW0 := Lib.hid (And.intro ((Same.refl w).alloc (.cells (digM u) TD)) ((Sat.old w).alloc (.cells (digM u) TD)))
 obtain ⟨D, hD⟩ : ∃ D, D = digM u := ⟨_, rfl⟩
 rw [← hD] at HW0 HDO ⊢
 have HDD := Lib.hid hD
 clear hD
 go_enter Tryz.func51, Tryz.ntmps51
 go_upto_region 1 with (fail)
 replace c0 := (World.cell?_alloc_lt w (.cells D TD) ⟨p, 0, none⟩ hlt0).trans c0
 have HB1 := Lib.hid (HW0.out.1.below_of HW0.out.2)
 generalize w.alloc (.cells D TD) = w1 at HW0 HB1 c0 ⊢
 generalize w.heap.size = g3 at HW0 ⊢
 go_wp2
 clear c0
 go_loopw [5, 13] (fun v i wr => LsS w g3 D L u v i wr) (fun _ i _ => n - (intOf i).toNat)
 case atStart => exact ⟨⟨0, Nat.zero_le _, rfl, HW0.out.1, ownAt_nil.2 HW0.out.2⟩⟩
 case round =>
  clear HW0 HB1
  obtain ⟨i, hi1, rfl, hsm, hst⟩ := hrel.st
  clear hrel
  rw [← HN.out] at hi1
  have HS := Lib.hid (And.intro hsm hst)
  clear hsm hst
  have hi3 : (i : Int) ≤ 1000 := by omega
  by_cases hlt : i < n
  ·have hltd : decide ((i : Int) < (n : Int)) = true := decide_eq_true (by omega)
   obtain rfl := HAO.out (by omega)
   have HB := Lib.hid (HS.out.1.below_of (HS.out.2.perm (star_assoc _ _ _).symm))
   have hT := HT.out wr HB.out
   obtain ⟨x, hx⟩ : ∃ x, L[i]? = some x := ⟨_, List.getElem?_eq_getElem (by have := HN.out; omega)⟩
   have HR := hT.row _ x hx
   have HV := chA_at i (rb i) x
   have HO := chA_one i (rb i) x
   have HLS := Lib.hid (HLL.out i x hx)
   have HLn := Lib.hid (lostL_len (L.take i) u)
   generalize chA i (rb i) x = A at HR HV HO
   replace HR := Lib.hid HR
   replace HV := Lib.hid HV
   replace HO := Lib.hid HO
   clear hT hx
   generalize hL0 : lostL (L.take i) u = L0 at HS HLS HLn
   have HLm := Lib.hid (show L0.length ≤ 1000 by have := HLn.out; rw [List.length_take] at this; omega)
   clear HLn hL0
   have HW3 := Lib.hid (And.intro (HS.out.1.alloc (.cells zCh TCh)) (HS.out.2.alloc (.cells zCh TCh)))
   go_upto_region 5 with (first
    | ((with_reducible (apply wp_load_ch HV.out.size HR.out)); rfl; rfl; rfl)
    | ((with_reducible (refine wpList_alloc_zero ?_ TCh ?_ _ (zeroCh _) ?_)); rfl; rfl; generalize wr.alloc (.cells zCh TCh) = w3 at HW3 ⊢; generalize wr.heap.size = g7 at HW3 ⊢)
    | (refine wpList_store_blk (T := TCh) (old := zCh) (new := A) rfl rfl rfl rfl HW3.out.2 (infoCh HV.out.size) (by rw [HV.out.size]; rfl) HO.out ?_; intro w4 h4))
   simp only [Act.put, zq1, zq2, zq3]
   have HW4 := Lib.hid (And.intro (HW3.out.1.trans h4.out.1) (h4.out.2.perm (show _ = ownAt TI 1 u5 L0.length (intsV L0) * (pts g7 (.cells A TCh (0, 0)) * (pts g3 (.cells D TD (0, 0)) * old w)) by ac_rfl)))
   have c5 := (cells_at h4.out.2.block 0).trans HV.out.id
   have c21 := (cells_at h4.out.2.block 21).trans HV.out.lost
   have HCD := Lib.hid (show w4.rangeAt g7 1 (digM (unitL x.fill)).toList from fun j v hv => by
    rw [Array.getElem?_toList] at hv
    have hj : j < 16 := by have := (Array.getElem?_eq_some_iff.1 hv).1; rwa [digM_size] at this
    rw [cells_at h4.out.2.block, HV.out.dig j hj]; exact hv)
   have HSk := Lib.hid (fun (h : (x.lost && sameD (unitL x.fill) u) = false) => show LsS w g3 D L u u5 (.int .i64 ((i : Int) + 1)) w4 from ⟨i + 1, by rw [← HN.out]; omega, by push_cast; rfl, HW4.out.1, by rw [HLS.out, h]; simp only [Bool.false_eq_true, if_false, List.append_nil]; exact (HW4.out.2.perm (show _ = pts g7 (.cells A TCh (0, 0)) * (ownAt TI 1 u5 L0.length (intsV L0) * (pts g3 (.cells D TD (0, 0)) * old w)) by ac_rfl)).right⟩)
   have HD3 := Lib.hid (run_loadVar_row (P := Tryz.prog) w4 g3 TD TD D (0, 0) _ (h4.out.2.perm (show _ = pts g3 (.cells D TD (0, 0)) * (pts g7 (.cells A TCh (0, 0)) * (ownAt TI 1 u5 L0.length (intsV L0) * old w)) by ac_rfl)).block Tryz.underlying67 rfl (infoD HDO.out))
   clear h4 HW3 HS
   cases hxl : x.lost with
   | false =>
    rw [hxl] at c21
    have HF := Lib.hid (HSk.out (by rw [hxl]; rfl))
    clear HSk
    go_wp2
    go_roundw
    case rel => exact HF.out
    case measure => simp only [intOf]; omega
   | true =>
    rw [hxl] at c21
    go_upto_region 5 with (fail)
    refine wp_region_lit ?_
    (apply wpList_runG rfl); (go_simp; first | rfl | exact ⟨rfl, rfl⟩); simp only [Act.put, zq1, zq2, zq3]
    refine wpList_runG (v := .bool true) rfl (exec_load_cell rfl rfl Tryz.underlying4 rfl c21) ?_; simp only [Act.put, zq1, zq2, zq3]
    (apply wpList_runG rfl); (go_simp; first | rfl | exact ⟨rfl, rfl⟩); simp only [Act.put, zq1, zq2, zq3]
    (apply wpList_runG rfl); (go_simp; first | rfl | exact ⟨rfl, rfl⟩); simp only [Act.put, zq1, zq2, zq3]
    refine wpList_runG (v := .agg (digM (unitL x.fill))) rfl (exec_load_mid rfl rfl (load_dig HCD.out)) ?_; simp only [Act.put, zq1, zq2, zq3]
    refine wpList_runG (v := .agg D) rfl (exec_load_mid rfl rfl HD3.out) ?_; simp only [Act.put, zq1, zq2, zq3]
    refine wpList_runG (v := .bool (sameD (unitL x.fill) u)) rfl (exec_eqD rfl rfl (congrArg Value.agg HDD.out)) ?_; simp only [Act.put, zq1, zq2, zq3]
    (apply wpList_runG rfl); (go_simp; first | rfl | exact ⟨rfl, rfl⟩); simp only [Act.put, zq1, zq2, zq3]
    refine wpList_nil ?_
    cases hsd : sameD (unitL x.fill) u with
    | false =>
     have HF := Lib.hid (HSk.out (by rw [hxl, hsd]; rfl))
     clear HSk
     go_wp2
     go_roundw
     case rel => exact HF.out
     case measure => simp only [intOf]; omega
    | true =>
     rw [hxl, hsd] at HLS
     replace HLS := Lib.hid (show lostL (L.take (i + 1)) u = L0 ++ [(i : Int) + 1] from HLS.out)
     clear HSk
     go_wp2_with (at_builtin; refine wpList_apF rfl _ _ rfl rfl rfl HW4.out.2 (by have := HLm.out; omega) ?_; intro v6 w6 h5 h6)
     refine ⟨⟨i + 1, by rw [← HN.out]; omega, by push_cast; rfl, HW4.out.1.trans h5, ?_⟩, by simp only [intOf]; omega⟩
     rw [HLS.out]
     exact (h6.perm (show _ = pts g7 (.cells A TCh (0, 0)) * (ownAt TI 1 v6 (L0 ++ [(i : Int) + 1]).length (intsV (L0 ++ [(i : Int) + 1])) * (pts g3 (.cells D TD (0, 0)) * old w)) by ac_rfl)).right
  ·have hie : i = n := by omega
   subst hie
   have hltd : decide ((i : Int) < (i : Int)) = false := decide_eq_false (by omega)
   go_wp2
   go_ret
   refine ⟨_, rfl, HS.out.1, ?_⟩
   have h := HS.out.2
   rw [HN.out, List.take_length] at h
   exact (h.perm (show _ = pts g3 (.cells D TD (0, 0)) * (ownAt TI 1 u5 (lostL L u).length (intsV (lostL L u)) * old w) by ac_rfl)).right
end Go.Proofs.YteikbikopgabjaaGreatDoor
end
section
namespace Go.Sl
open Go Go.RowKit
theorem ownAt_setK {w : World} {F : HProp} {T : TypeId} {sz g n cp : Nat} {xs : List Value} (h : Sat w (ownAt T sz (.slice (some ⟨g, 0, none⟩) n cp) n xs * F)) {j : Nat} (hj : j < n * sz) (u : Value) :
  (∃ x, xs[j]? = some x ∧ w.cell? ⟨g, j, none⟩ = some x) ∧ w.frozen? ⟨g, j, none⟩ = false ∧ Sat (w.setCell ⟨g, j, none⟩ u) (ownAt T sz (.slice (some ⟨g, 0, none⟩) n cp) n (xs.set j u) * F) := by
 rcases ownAt_iff.1 h with ⟨h0, _⟩ | ⟨g', cap', cur, ⟨he, h2, h3, h4, h5, h6⟩, hs⟩
 ·simp at h0
 ·cases he
  have hjc : j < cur.size := by rw [h4]; exact Nat.lt_of_lt_of_le hj (Nat.mul_le_mul_right _ h2)
  refine ⟨⟨cur[j], ?_, by rw [cells_at hs.block]; exact Array.getElem?_eq_getElem hjc⟩, thawed_at hs.block j, ownAt_iff.2 (.inr ⟨g, cp, cur.setIfInBounds j u, ⟨rfl, h2, h3, by simpa using h4, ?_, by simpa using h6⟩, hs.setCell u⟩)⟩
  ·rw [← h5, List.getElem?_take, if_pos hj, Array.getElem?_toList]; exact Array.getElem?_eq_getElem hjc
  ·rw [← h5, Array.toList_setIfInBounds, List.take_set]
theorem flat_split {α : Type} {k : Nat} {f : α → List Value} (hf : ∀ x, (f x).length = k) : ∀ (l : List α) (i : Nat) (x : α), l[i]? = some x → ∃ pre post, pre.length = i * k ∧ l.flatMap f = pre ++ (f x ++ post) ∧ ∀ y, (l.set i y).flatMap f = pre ++ (f y ++ post)
 | [], i, x, h => by simp at h
 | a :: l, 0, x, h => by
  simp at h
  subst h
  exact ⟨[], l.flatMap f, by simp, by rw [List.flatMap_cons]; rfl, fun y => by rw [List.set_cons_zero, List.flatMap_cons]; rfl⟩
 | a :: l, i + 1, x, h => by
  rw [List.getElem?_cons_succ] at h
  obtain ⟨pre, post, h1, h2, h3⟩ := flat_split hf l i x h
  refine ⟨f a ++ pre, post, by rw [List.length_append, hf, h1, Nat.add_mul, Nat.one_mul]; omega, by rw [List.flatMap_cons, h2, List.append_assoc], fun y => by rw [List.set_cons_succ, List.flatMap_cons, h3 y, List.append_assoc]⟩
theorem set_mid {pre m post : List Value} {n j : Nat} (hp : pre.length = n) (hj : j < m.length) (u : Value) : (pre ++ (m ++ post)).set (n + j) u = pre ++ (m.set j u ++ post) := by
 rw [List.set_append_right _ _ (by omega), hp, Nat.add_sub_cancel_left, List.set_append_left _ _ hj]
end Go.Sl
namespace Go.Proofs.YteikbikopgabjaaGreatDoor
open Go.RowKit Go.Sha Go.Sl Go.GF Go.Vol Go.Loss
abbrev TUn : TypeId := 57
def chE (rb : Nat → Nat) (q : ChM × Nat) : List Value := (chA q.2 (rb q.2) q.1).toList
theorem chE_len (rb : Nat → Nat) (q : ChM × Nat) : (chE rb q).length = 23 := by unfold chE; rw [Array.length_toList, chA_size]
def chL (rb : Nat → Nat) (L : List ChM) : List Value := L.zipIdx.flatMap (chE rb)
theorem chL_at (rb : Nat → Nat) {L : List ChM} {i : Nat} {x : ChM} (h : L[i]? = some x) {j : Nat} {v : Value} (hv : (chA i (rb i) x).toList[j]? = some v) : (chL rb L)[i * 23 + j]? = some v :=
 flat_at (chE_len rb) L.zipIdx i (x, i) (by rw [List.getElem?_zipIdx, h]; simp) j v hv
theorem flatMap_eq {α β : Type} {f g : α → List β} : ∀ {l : List α}, (∀ x ∈ l, f x = g x) → l.flatMap f = l.flatMap g
 | [], _ => rfl
 | x :: l, h => by rw [List.flatMap_cons, List.flatMap_cons, h x List.mem_cons_self, flatMap_eq fun y hy => h y (List.mem_cons_of_mem _ hy)]
theorem chL_snoc (rb : Nat → Nat) (L : List ChM) (x : ChM) (r : Nat) : chL (fun i => if i = L.length then r else rb i) (L ++ [x]) = chL rb L ++ (chA L.length r x).toList := by
 unfold chL
 have h1 : L.zipIdx.flatMap (chE fun i => if i = L.length then r else rb i) = L.zipIdx.flatMap (chE rb) := flatMap_eq fun q hq => by
  have := List.snd_lt_of_mem_zipIdx hq
  unfold chE
  dsimp only
  rw [if_neg (by omega)]
 rw [List.zipIdx_append, List.flatMap_append, h1, List.zipIdx_cons, List.zipIdx_nil, List.flatMap_cons, List.flatMap_nil, List.append_nil]
 unfold chE
 simp only [Nat.zero_add, if_true]
theorem chA_sets (i rb : Nat) (x : ChM) (b : Bool) (k : UK) : (((((chA i rb x).toList.set 18 (.int .i64 (k.1.1 : Int))).set 19 (.int .i64 0)).set 20 (.int .i64 (k.1.2 : Int))).set 21 (.bool b)) = (chA i rb ⟨x.fill, b, k⟩).toList := by
 have hd := digM_size (unitL x.fill)
 unfold chA chV
 simp [hd, ChM.row, ChM.unit]
theorem chL_sets (rb : Nat → Nat) {L : List ChM} {i : Nat} {x : ChM} (h : L[i]? = some x) (b : Bool) (k : UK) :
  ((((chL rb L).set (i * 23 + 18) (.int .i64 (k.1.1 : Int))).set (i * 23 + 19) (.int .i64 0)).set (i * 23 + 20) (.int .i64 (k.1.2 : Int))).set (i * 23 + 21) (.bool b) = chL rb (L.set i ⟨x.fill, b, k⟩) := by
 have hi := (List.getElem?_eq_some_iff.1 h).1
 obtain ⟨pre, post, h1, h2, h3⟩ := flat_split (chE_len rb) L.zipIdx i (x, i) (by rw [List.getElem?_zipIdx, h]; simp)
 have h4 : (L.set i ⟨x.fill, b, k⟩).zipIdx = L.zipIdx.set i (⟨x.fill, b, k⟩, i) := by
  apply List.ext_getElem?
  intro j
  rw [List.getElem?_zipIdx, List.getElem?_set, List.getElem?_set, List.getElem?_zipIdx, List.length_zipIdx]
  by_cases e : i = j
  ·subst e; simp [hi]
  ·simp [e]
 have hc : chE rb (x, i) = (chA i (rb i) x).toList := rfl
 have hl : (chA i (rb i) x).toList.length = 23 := by rw [Array.length_toList, chA_size]
 unfold chL
 rw [h2, h4, h3, hc, set_mid h1 (by rw [hl]; omega), set_mid h1 (by rw [List.length_set, hl]; omega), set_mid h1 (by rw [List.length_set, List.length_set, hl]; omega), set_mid h1 (by rw [List.length_set, List.length_set, List.length_set, hl]; omega), chA_sets]
 rfl
def ukV (k : UK) : Value := .agg #[.int .i64 (k.1.1 : Int), .int .i64 0, .int .i64 (k.1.2 : Int)]
theorem ukV_inj (a b : UK) (h : ukV a = ukV b) : a = b := by
 unfold ukV at h
 simp only [Value.agg.injEq, Array.mk.injEq, List.cons.injEq, Value.int.injEq, true_and, and_true] at h
 apply Subtype.ext
 apply Prod.ext <;> omega
theorem laidB : laidOutB Tryz.prog = true := by kernel_rfl
theorem kl_int (D : Nat) (n : Int) (h1 : -9223372036854775808 ≤ n) (h2 : n ≤ 9223372036854775807) : Tryz.prog.keyLits (D + 1) 3 [.int .i64 n] = some [.int .i64 n] := by
 have h : Tryz.prog.underlying 3 = some (.int .i64) := Tryz.underlying3
 have hw : (Lit.int .i64 n).wf = true := by simp [Lit.wf, IntKind.min, IntKind.max, IntKind.bits, IntKind.signed]; omega
 unfold Program.keyLits
 rw [h]
 simp [hw]
theorem kl_stripe (D : Nat) (a b : Int) (h1 : -9223372036854775808 ≤ a) (h2 : a ≤ 9223372036854775807) (h3 : -9223372036854775808 ≤ b) (h4 : b ≤ 9223372036854775807) :
  Tryz.prog.keyLits (D + 2) 55 [.int .i64 a, .int .i64 b] = some [.int .i64 a, .int .i64 b] := by
 have c2 : Tryz.prog.cellsOf 55 = 2 := by kernel_rfl
 have c1 : Tryz.prog.cellsOf 3 = 1 := by kernel_rfl
 unfold Program.keyLits
 rw [Tryz.underlying55]
 simp [c1, c2, kl_int D a h1 h2, kl_int D b h3 h4]
theorem kl_unit (D : Nat) (k : UK) : Tryz.prog.keyLits (D + 3) TUn [.int .i64 (k.1.1 : Int), .int .i64 0, .int .i64 (k.1.2 : Int)] = some [.int .i64 (k.1.1 : Int), .int .i64 0, .int .i64 (k.1.2 : Int)] := by
 have c3 : Tryz.prog.cellsOf TUn = 3 := by kernel_rfl
 have c2 : Tryz.prog.cellsOf 55 = 2 := by kernel_rfl
 have c1 : Tryz.prog.cellsOf 3 = 1 := by kernel_rfl
 have hk := k.2
 unfold Program.keyLits
 rw [Tryz.underlying57]
 simp [c1, c2, c3, kl_stripe D (k.1.1 : Int) 0 (by omega) (by omega) (by omega) (by omega), kl_int (D + 1) (k.1.2 : Int) (by omega) (by omega)]
theorem keyOf_unit (k : UK) : ∃ l, keyOf Tryz.prog TUn (ukV k) = some l := by
 have hf : (ukV k).formed Tryz.prog TUn = true := by
  have c3 : Tryz.prog.cellsOf TUn = 3 := by kernel_rfl
  unfold ukV
  simp [Value.formed, Tryz.underlying57, c3]
 have ht : Tryz.prog.keyType TUn = true := by kernel_rfl
 obtain ⟨D, hD⟩ : ∃ D, Tryz.prog.types.size + 1 = D + 3 := ⟨Tryz.prog.types.size - 2, by have : 2 ≤ Tryz.prog.types.size := (by decide +kernel); omega⟩
 unfold keyOf
 rw [Tryz.underlying57]
 dsimp only
 simp only [ht, hf, Bool.and_self, if_true, hD, show (ukV k).cells.toList = [.int .i64 (k.1.1 : Int), .int .i64 0, .int .i64 (k.1.2 : Int)] from rfl, kl_unit]
 exact ⟨_, rfl⟩
theorem emb_unit : Go.Key.KeyEmb Tryz.prog TUn ukV :=
 Go.Key.emb_of_law (deep_law_gate laidB (by decide +kernel) (by decide +kernel) (by kernel_rfl) (by kernel_rfl)) ukV_inj keyOf_unit
end Go.Proofs.YteikbikopgabjaaGreatDoor
end
section
namespace Go.Proofs.YteikbikopgabjaaGreatDoor
open Go.RowKit Go.Sha Go.Sl Go.GF Go.Vol Go.Loss
def refB (rb : Nat → Nat) (n : Nat) : HProp := bigs n fun i => pts (rb i) (.cells rfE.toArray TRf (0, 0))
def placeS (at_ : Nat) (l : Go.Key.KV UK) : HProp := Sl.ex fun es => Sl.ex fun clock => Sl.lift (Go.Key.MapG ukV es clock l) * pts at_ (.map es clock)
def tabS (p b cap at_ : Nat) (rb : Nat → Nat) (L : List ChM) (l : Go.Key.KV UK) : HProp :=
 pts p (.cells #[.slice (sOf b L) L.length cap, .map (some at_)] TTab (0, 0)) * (ownAt TCh 23 (.slice (sOf b L) L.length cap) L.length (chL rb L) * (placeS at_ l * refB rb L.length))
section
variable {w : World} {F : HProp} {p b cap at_ : Nat} {rb : Nat → Nat} {L : List ChM} {l : Go.Key.KV UK}
theorem placeS_iff : Sat w (placeS at_ l * F) ↔ ∃ es clock, Go.Key.MapG ukV es clock l ∧ Sat w (pts at_ (.map es clock) * F) := by
 unfold placeS
 rw [Sat.ex]
 constructor
 ·rintro ⟨es, h⟩
  rw [Sat.ex] at h
  obtain ⟨clock, h⟩ := h
  rw [star_assoc, Sat.lift] at h
  exact ⟨es, clock, h⟩
 ·rintro ⟨es, clock, h⟩
  refine ⟨es, ?_⟩
  rw [Sat.ex]
  exact ⟨clock, by rw [star_assoc, Sat.lift]; exact h⟩
theorem tab_read (h : Sat w (tabS p b cap at_ rb L l * F)) (hn : L.length ≤ 1000) : TabR w p b cap rb L := by
 have h0 : Sat w (pts p (.cells #[.slice (sOf b L) L.length cap, .map (some at_)] TTab (0, 0)) * (ownAt TCh 23 (.slice (sOf b L) L.length cap) L.length (chL rb L) * (placeS at_ l * refB rb L.length * F))) := h.perm (by unfold tabS; ac_rfl)
 have hr : Sat w (refB rb L.length * (pts p (.cells #[.slice (sOf b L) L.length cap, .map (some at_)] TTab (0, 0)) * ownAt TCh 23 (.slice (sOf b L) L.length cap) L.length (chL rb L) * placeS at_ l * F)) := h.perm (by unfold tabS; ac_rfl)
 refine ⟨h0.lt, by rw [cells_at h0.block]; rfl, hn, fun hne => ?_, fun i x hx j v hv => ?_, fun i hi => ?_⟩
 ·have hpos : 0 < L.length := List.length_pos_iff.2 hne
  have h1 := h0.right
  rw [sOf_pos hpos] at h1
  rcases ownAt_iff.1 h1 with ⟨e, _⟩ | ⟨g, cp, cur, ⟨e, _⟩, hs⟩
  ·simp at e
  ·cases e; exact hs.lt
 ·have hpos : 0 < L.length := by have := (List.getElem?_eq_some_iff.1 hx).1; omega
  have h1 := h0.right
  obtain ⟨g, cp, e, hc⟩ := ownAt_cells h1 hpos
  rw [sOf_pos hpos] at e
  cases e
  exact hc _ _ (chL_at rb hx hv)
 ·have hr2 := hr
  unfold refB at hr2
  rw [bigs_pick hi, star_assoc] at hr2
  exact ⟨hr2.lt, by rw [cells_at hr2.block]; rfl, by rw [cells_at hr2.block]; rfl⟩
end
theorem istenant_any (w : World) : Calls Tryz.prog 56 #[.int .i64 0] w fun e w' => e = .returned (.bool true) ∧ w' = w := by
 go_enter Tryz.func56, Tryz.ntmps56
 go_wp2
 go_ret
 exact ⟨rfl, rfl⟩
theorem chvalid1_any (a b : Int) (h1 : 0 ≤ a) (h2 : a < b) (w : World) : Calls Tryz.prog 74 #[.int .i64 a, .int .i64 b] w fun e w' => e = .returned (.bool true) ∧ w' = w := by
 have d1 : decide (0 ≤ a) = true := decide_eq_true h1
 have d2 : decide (a < b) = true := decide_eq_true h2
 go_enter Tryz.func74, Tryz.ntmps74
 go_wp2
 go_ret
 exact ⟨rfl, rfl⟩
set_option maxRecDepth 20000 in
theorem valid_any41 (k : UK) (w : World) : Calls Tryz.prog 47 #[ukV k] w fun e w' => e = .returned (.bool true) ∧ Below w.heap.size w w' := by
 have hk := k.2
 have H1 := Lib.hid (fun W => chvalid1_any (k.1.1 : Int) 4096 (by omega) (by omega) W)
 have H2 := Lib.hid (fun W => chvalid1_any 0 64 (by omega) (by omega) W)
 have H3 := Lib.hid (fun W => chvalid1_any (k.1.2 : Int) 32 (by omega) (by omega) W)
 unfold ukV
 generalize (k.1.1 : Int) = a at H1 ⊢
 generalize (k.1.2 : Int) = u at H3 ⊢
 have hcf : ∀ args w, (callFunc 74 args).run Tryz.prog w = .ok (.enter 74 args) w := fun args w => by kernel_rfl
 have hc : Tryz.prog.cellsOf TUn = 3 := by kernel_rfl
 have h0 := (Sat.old w).alloc (.cells #[.int .i64 a, .int .i64 0, .int .i64 u] TUn)
 have HB := Lib.hid (((Same.refl w).alloc (.cells #[.int .i64 a, .int .i64 0, .int .i64 u] TUn)).below_of h0)
 have c0 := cells_at h0.block 0
 have c1 := cells_at h0.block 1
 have c2 := cells_at h0.block 2
 clear h0 hk
 go_enter Tryz.func47, Tryz.ntmps47
 go_upto_region 1 with (fail)
 generalize w.alloc (.cells #[.int .i64 a, .int .i64 0, .int .i64 u] TUn) = w1 at HB c0 c1 c2 ⊢
 generalize w.heap.size = g at c0 c1 c2 ⊢
 simp at c0 c1 c2
 go_wp2_with (first
  | (go_at_call 74; (with_reducible refine (H1.out w1).mono ?_); rintro e w2 ⟨rfl, rfl⟩; clear H1)
  | (go_at_call 74; (with_reducible refine (H2.out _).mono ?_); rintro e w2 ⟨rfl, rfl⟩; clear H2)
  | (go_at_call 74; (with_reducible refine (H3.out _).mono ?_); rintro e w2 ⟨rfl, rfl⟩))
 go_ret
 exact ⟨rfl, HB.out⟩
end Go.Proofs.YteikbikopgabjaaGreatDoor
end
