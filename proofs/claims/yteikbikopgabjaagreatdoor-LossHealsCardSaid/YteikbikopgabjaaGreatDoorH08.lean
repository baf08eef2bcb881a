import Derived.Test.YteikbikopgabjaaGreatDoorH05
import Derived.Test.YteikbikopgabjaaGreatDoorH01
import Derived.Test.YteikbikopgabjaaGreatDoorH07
import Derived.WalkSpells
import Derived.WalkLawsBesides
/- Part 8 of a proof; the last part says what is proved. -/
section
namespace Go.Sl
open Go Go.RowKit Go.GF
theorem rowV_own {w : World} {F : HProp} {T : TypeId} {v : Value} {L : List Value} {n : Nat} (hn : L.length = n) (hs : Sat w (ownAt T 1 v n L * F)) : RowI w v L := by
 subst hn
 rcases ownAt_iff.1 hs with ⟨rfl, h1, -, -⟩ | ⟨g, cap, cur, ⟨rfl, h2, h3, -, -, -⟩, -⟩
 ·obtain rfl := List.eq_nil_of_length_eq_zero h1
  exact ⟨none, 0, rfl, Nat.le_refl _, by unfold maxLen; omega, fun hh => absurd hh (by simp)⟩
 ·refine ⟨some ⟨g, 0, none⟩, cap, rfl, h2, h3, fun hp => ?_⟩
  obtain ⟨g', cap', e, hc⟩ := ownAt_cells hs hp
  cases e
  obtain ⟨x, hx⟩ : ∃ x, L[0]? = some x := ⟨_, List.getElem?_eq_getElem hp⟩
  exact ⟨g, 0, rfl, World.block_lt_of_cell? _ _ (hc 0 _ hx), fun j u hu => by rw [Nat.zero_add]; exact hc j u hu⟩
section
variable {P : Program} {w : World} {F : HProp}
theorem run_append_r0 (t ty e : TypeId) (i : TypeInfo) (ht : P.underlying t = some (.slice e)) (hi : P.info? e = some i) (bo ao : Option Addr) (n cap c : Nat) (hn : n ≤ cap) :
  (Builtin.append_ #[t, t] ty #[.slice bo n cap, .slice ao 0 c]).run P w = .ok (.slice bo n cap) w := by
 cases bo <;> cases ao <;> simp [Builtin.append_, run_underlying ht, sizeOf, typeInfo, hi, Builtin.lenOf, Builtin.firstCells, loadCells, loadCellsFrom, storeCells, hn]
theorem wpList_append_ri {ops : Array Oper} {rest : List Oper} {o : Oper} {a : Act} {Q : Exit → Act → World → Prop} (hg : o.guard = none) (s x : Operand) (t e : TypeId)
  (ho : o.op = .call { callee := .builtin .append, args := #[s, x], argTypes := #[t, t] }) (i : TypeInfo) (z : Value) (ht : P.underlying t = some (.slice e)) (hi : P.info? e = some i) (hz : i.zero = some z) {by_ : Nat} (hsz : i.size = 1) (hby : i.bytes = by_) (hzs : z.cells.size = 1)
  {v : Value} {n : Nat} {xs : List Value} (h : Sat w (ownAt e 1 v n xs * F)) {y : Value} (news : List Value) (hs : a.eval s = v) (hx : a.eval x = y) (hr : RowI w y news)
  (h1 : ∀ u ∈ news, u.oneCell' = true) (h63 : n + news.length ≤ maxLen) (hbytes : (n + news.length) * by_ ≤ 140737488355328)
  (k : ∀ v' w', Same w w' → Sat w' (ownAt e 1 v' (n + news.length) (xs ++ news) * F) → wpList P ops Q rest (a.put o.dst v') w') : wpList P ops Q (o :: rest) a w := by
 obtain ⟨ao, cap, rfl, hcap, hmax, h4⟩ := hr
 by_cases hm : news.length = 0
 ·have hnil : news = [] := List.eq_nil_of_length_eq_zero hm
  subst hnil
  have hle : ∃ bo cp, v = .slice bo n cp ∧ n ≤ cp := by
   rcases ownAt_iff.1 h with ⟨rfl, rfl, _, _⟩ | ⟨g, cap, cur, ⟨rfl, h1, _⟩, _⟩
   ·exact ⟨_, _, rfl, Nat.le_refl _⟩
   ·exact ⟨_, _, rfl, h1⟩
  obtain ⟨bo, cp, rfl, hnc⟩ := hle
  have hrun := run_append_r0 (P := P) (w := w) t o.type e i ht hi bo ao n cp cap hnc
  refine wpList_run hg (v := .slice bo n cp) (w' := w) ?_ (k _ w (Same.refl w) (by simpa using h))
  unfold execOp
  simp only [ho, resolve, invoke, builtin, Sem.run_bind, Sem.run_pure, Result.andThen_ok, List.map_toArray, List.map_cons, List.map_nil, hs, hx, List.length_nil, hrun]
 ·obtain ⟨b, off, rfl, hb, hc⟩ := h4 (by omega)
  exact wpList_append_ownAt hg s x t e ho i z ht hi hz hsz hby hzs h news hs hx (by simp) (fun j u hu => by rw [Addr.add_mid]; exact hc j u hu) h1 h63 hbytes fun v' w' h6 => k v' w' h6.out.1 h6.out.2
end
theorem ownAt_set {w : World} {F : HProp} {T : TypeId} {g n cp : Nat} {xs : List Value} (h : Sat w (ownAt T 1 (.slice (some ⟨g, 0, none⟩) n cp) n xs * F)) {j : Nat} (hj : j < n) (u : Value) :
  (∃ x, w.cell? ⟨g, j, none⟩ = some x) ∧ w.frozen? ⟨g, j, none⟩ = false ∧ Sat (w.setCell ⟨g, j, none⟩ u) (ownAt T 1 (.slice (some ⟨g, 0, none⟩) n cp) n (xs.set j u) * F) := by
 rcases ownAt_iff.1 h with ⟨h0, _⟩ | ⟨g', cap', cur, ⟨he, h2, h3, h4, h5, h6⟩, hs⟩
 ·simp at h0
 ·cases he
  have hjc : j < cur.size := by omega
  refine ⟨⟨cur[j], by rw [cells_at hs.block]; exact Array.getElem?_eq_getElem hjc⟩, thawed_at hs.block j, ownAt_iff.2 (.inr ⟨g, cp, cur.setIfInBounds j u, ⟨rfl, h2, h3, by simpa using h4, ?_, by simpa using h6⟩, hs.setCell u⟩)⟩
  rw [← h5, Array.toList_setIfInBounds, List.take_set]
theorem Sat.of_all {w w' : World} {P F : HProp} (h : Sat w' (P * Sl.old w)) (hF : Sat w F) : Sat w' (P * F) := by
 obtain ⟨x, ⟨a, b, ha, hb, hd, rfl⟩, hk⟩ := h
 obtain ⟨y, hy, hyk⟩ := hF
 have hb' : b = fun k => w.heap[k]? := hb
 subst hb'
 have hd2 : disj a y := fun k => by
  cases hyk2 : y k with
  | none => exact .inr rfl
  | some o =>
   have := hyk k o hyk2
   rcases hd k with h1 | h1
   ·exact .inl h1
   ·have h1' : w.heap[k]? = none := h1
    rw [this] at h1'; cases h1'
 refine ⟨un a y, ⟨a, y, ha, hy, hd2, rfl⟩, fun k o ho => ?_⟩
 refine hk k o ?_
 unfold un at *
 cases hak : a k with
 | some q => rw [hak] at ho; exact ho
 | none =>
  rw [hak] at ho
  have h2 := hyk k o ho
  simp only [Option.none_or]
  exact h2
end Go.Sl
end
section
namespace Go.Sha
open Go Go.RowKit Go.Sl
def b8 (l : List UInt8) : List Value := l.map fun b => .int .u8 (b.toNat : Int)
theorem b8_len (l : List UInt8) : (b8 l).length = l.length := List.length_map _
theorem b8_app (l m : List UInt8) : b8 (l ++ m) = b8 l ++ b8 m := by unfold b8; simp
theorem b8_one (l : List UInt8) : ∀ u ∈ b8 l, Value.oneCell' u = true := by
 intro u hu
 unfold b8 at hu
 obtain ⟨z, -, rfl⟩ := List.mem_map.1 hu
 rfl
def strL (s : List UInt8) : ByteArray := ⟨s.toArray⟩
theorem strL_size (s : List UInt8) : (strL s).size = s.length := by unfold strL; simp [ByteArray.size]
end Go.Sha
namespace Go.Proofs.YteikbikopgabjaaGreatDoor
open Go.RowKit Go.Sha Go.Sl Go.GF
abbrev T8 : TypeId := 5
theorem info_b8 : (Tryz.prog.info? T8).map (fun i => (i.zero, i.size, i.bytes)) = some (some (.int .u8 0), 1, 1) := by kernel_rfl
def own8 (v : Value) (l : List UInt8) : HProp := ownAt T8 1 v l.length (b8 l)
theorem own8_row {w : World} {v : Value} {l : List UInt8} {F : HProp} (h : Sat w (own8 v l * F)) : RowI w v (b8 l) := rowV_own (b8_len l) h
theorem own8_nil {w : World} {F : HProp} (h : Sat w F) : Sat w (own8 (.slice none 0 0) [] * F) := ownAt_nil.2 h
theorem own8_shape {w : World} {v : Value} {l : List UInt8} {F : HProp} (h : Sat w (own8 v l * F)) : ∃ ao cap, v = .slice ao l.length cap := ownAt_slice h
theorem wpList_ap8 {ops : Array Oper} {rest : List Oper} {o : Oper} {a : Act} {Q : Exit → Act → World → Prop} {F : HProp} {W : World} {t : TypeId} (hgd : o.guard = none) (s x : Operand)
  (ho : o.op = .call { callee := .builtin .append, args := #[s, x], argTypes := #[131, 131] }) {v : Value} {L : List UInt8} {z : UInt8} {zi : Int} (hz : zi = (z.toNat : Int)) (hs : a.eval s = v) (hx : a.eval x = .slice (some ⟨W.heap.size, 0, none⟩) 1 1)
  (h : Sat W (own8 v L * F)) (hn : L.length ≤ 100000)
  (k : ∀ v' w', Same W w' → Sat w' (own8 v' (L ++ [z]) * F) → wpList Tryz.prog ops Q rest (a.put o.dst v') w') : wpList Tryz.prog ops Q (o :: rest) a (W.alloc (.cells #[.int .u8 zi] t)) := by
 subst hz
 obtain ⟨i0, hi, hz0, hz1, hz2⟩ := info_parts info_b8
 refine wpList_append_ownAt (F := F) hgd s x 131 T8 ho i0 _ Tryz.underlying131 hi hz0 hz1 hz2 rfl (h.allocKeep _) [.int .u8 (z.toNat : Int)] hs hx rfl ?_ (by simp [Value.oneCell']) (by unfold maxLen; omega) (by omega) ?_
 ·intro j u hu
  match j, hu with
  | 0, hu =>
   simp at hu
   subst hu
   rw [Addr.add_mid]
   unfold World.cell?
   rw [show (W.alloc (.cells #[.int .u8 (z.toNat : Int)] t)).heap[W.heap.size]? = _ from World.alloc_heap_new W _]; rfl
 ·intro v' w' h6
  refine k v' w' (((Same.refl W).alloc _).trans h6.out.1) ?_
  have := h6.out.2
  unfold own8
  rw [b8_app, List.length_append]
  exact this
theorem wpList_app8 {ops : Array Oper} {rest : List Oper} {o : Oper} {a : Act} {Q : Exit → Act → World → Prop} {F : HProp} {W : World} (hgd : o.guard = none) (s x : Operand)
  (ho : o.op = .call { callee := .builtin .append, args := #[s, x], argTypes := #[131, 131] }) {v y : Value} {L M : List UInt8} (hs : a.eval s = v) (hx : a.eval x = y)
  (h : Sat W (own8 v L * F)) (hr : RowI W y (b8 M)) (hn : L.length + M.length ≤ 100000)
  (k : ∀ v' w', Same W w' → Sat w' (own8 v' (L ++ M) * F) → wpList Tryz.prog ops Q rest (a.put o.dst v') w') : wpList Tryz.prog ops Q (o :: rest) a W := by
 obtain ⟨i0, hi, hz0, hz1, hz2⟩ := info_parts info_b8
 refine wpList_append_ri (F := F) hgd s x 131 T8 ho i0 _ Tryz.underlying131 hi hz0 hz1 hz2 rfl h (b8 M) hs hx hr (b8_one M) (by rw [b8_len]; unfold maxLen; omega) (by rw [b8_len]; omega) ?_
 intro v' w' h1 h2
 refine k v' w' h1 ?_
 unfold own8
 rw [b8_app, List.length_append]
 rw [b8_len] at h2
 exact h2
theorem str_row (s : List UInt8) (hs : s.length ≤ 1000) (W : World) : ∃ v W', (convert 9 131 (.string (strL s))).run Tryz.prog W = .ok v W' ∧ Same W W' ∧ (∀ F, Sat W F → Sat W' F) ∧ RowI W' v (b8 s) := by
 have h := run_bytes_of_string (P := Tryz.prog) W 9 131 5 (strL s) Tryz.underlying9 Tryz.underlying131 Tryz.underlying5
 rw [strL_size] at h
 refine ⟨_, _, h, ((Same.refl W).drew).alloc _, fun F hF => (hF.drew).allocKeep _, ?_⟩
 refine ⟨_, _, by rw [b8_len], ?_, ?_, fun _ => ⟨W.heap.size, 0, rfl, by simp, fun j u hu => ?_⟩⟩
 ·rw [b8_len]; exact grownCap_ge W s.length 0 _
 ·exact grownCap_le_maxLen W s.length 0 _ (by unfold maxLen; omega)
 ·rw [Nat.zero_add]
  unfold World.cell?
  rw [show (W.drew.alloc (.cells (bytesRow (strL s) (grownCap W s.length 0 T8)) T8 ((bytesRow (strL s) (grownCap W s.length 0 T8)).size, (bytesRow (strL s) (grownCap W s.length 0 T8)).size + 1))).heap[W.heap.size]? = _ from World.alloc_heap_new W.drew _]
  have hj : j < s.length := by have := (List.getElem?_eq_some_iff.1 hu).1; rw [b8_len] at this; exact this
  show (bytesRow (strL s) (grownCap W s.length 0 T8))[j]? = some u
  unfold bytesRow strL
  rw [Array.getElem?_append_left (by simpa using hj)]
  unfold b8 at hu
  simpa using hu
structure I1S (w : World) (dv mv : Value) (wr : World) : Prop where
 st : ∃ (m : Nat) (l : List UInt8), (m = 32 ∧ l = [] ∨ m = 0 ∧ l = [32]) ∧ mv = .int .i64 (m : Int) ∧ Same w wr ∧ Sat wr (own8 dv l * old w)
structure I2S (w : World) (dv ov iv : Value) (wr : World) : Prop where
 st : ∃ (i : Int) (l : List UInt8), (i = 0 ∧ l = [129] ∨ i = -1 ∧ l = [129, 32]) ∧ iv = .int .i64 i ∧ Same w wr ∧ Sat wr (own8 ov l * (own8 dv [32] * old w))
set_option maxRecDepth 20000 in
set_option maxHeartbeats 2000000 in
theorem r1int_any (w : World) : Calls Tryz.prog 135 #[.int .i64 32] w fun e w' => ∃ v, e = .returned v ∧ Same w w' ∧ Sat w' (own8 v [129, 32] * old w) := by
 go_enter Tryz.func135, Tryz.ntmps135
 go_wp2
 go_loopw [3, 4] (fun mv dv wr => I1S w dv mv wr) (fun mv _ _ => (intOf mv).toNat)
 case atStart => exact ⟨⟨32, [], .inl ⟨rfl, rfl⟩, rfl, Same.refl _, own8_nil (Sat.old w)⟩⟩
 case round =>
  obtain ⟨m, l, hml, rfl, hsm, hst⟩ := hrel.st
  clear hrel
  have HS := Lib.hid (And.intro hsm hst)
  clear hsm hst
  rcases hml with ⟨rfl, rfl⟩ | ⟨rfl, rfl⟩
  ·go_wp2_with (at_builtin; refine wpList_ap8 (z := 32) rfl _ _ rfl rfl rfl rfl HS.out.2 (by simp) ?_; intro v9 w9 h9 h10)
   go_roundw
   case rel => exact ⟨⟨0, [32], .inr ⟨rfl, rfl⟩, rfl, HS.out.1.trans h9, h10⟩⟩
   case measure => decide
  ·obtain ⟨ad, cd, rfl⟩ := own8_shape HS.out.2
   have HO := Lib.hid (own8_nil HS.out.2)
   go_wp2_with (at_builtin; refine wpList_ap8 (z := 129) rfl _ _ rfl rfl rfl rfl HO.out (by simp) ?_; intro v9 w9 h9 h10)
   have HO2 := Lib.hid (And.intro (HS.out.1.trans h9) h10)
   clear h9 h10
   go_loopw [6, 7] (fun ov iv wr => I2S w (.slice ad 1 cd) ov iv wr) (fun _ iv _ => (intOf iv + 1).toNat)
   case atStart => exact ⟨⟨0, [129], .inl ⟨rfl, rfl⟩, rfl, HO2.out⟩⟩
   case round =>
    clear HO2 HO HS
    obtain ⟨i, l, hil, rfl, hsm, hst⟩ := hrel.st
    clear hrel
    have HS := Lib.hid (And.intro hsm hst)
    have hst2 := hst.perm (show _ = own8 (.slice ad 1 cd) [32] * (own8 u6 l * old w) by ac_rfl)
    obtain ⟨-, b, off, rfl, c1⟩ : 1 = 1 ∧ ∃ b off : Nat, ad = some ⟨b, off, none⟩ ∧ wr.cell? ⟨b, off, none⟩ = some (.int .u8 32) := by
     obtain ⟨ao, cp, h1, -, -, h4⟩ := own8_row hst2
     cases h1
     obtain ⟨b, off, e, -, hc⟩ := h4 (by simp [b8])
     exact ⟨rfl, b, off, e, hc 0 _ rfl⟩
    clear hsm hst hst2
    rcases hil with ⟨rfl, rfl⟩ | ⟨rfl, rfl⟩
    ·go_wp2_with (at_builtin; refine wpList_ap8 (z := 32) rfl _ _ rfl rfl rfl rfl HS.out.2 (by simp) ?_; intro v9 w9 h9 h10)
     go_roundw
     case rel => exact ⟨⟨-1, [129, 32], .inr ⟨rfl, rfl⟩, rfl, HS.out.1.trans h9, h10⟩⟩
     case measure => decide
    ·go_wp2
     go_ret
     exact ⟨_, rfl, HS.out.1, (HS.out.2.perm (show _ = own8 (.slice (some ⟨b, off, none⟩) 1 cd) [32] * (own8 u6 [129, 32] * old w) by ac_rfl)).right⟩
def lenB (s : List UInt8) : List UInt8 := [129, 32] ++ s
set_option maxRecDepth 20000 in
theorem r1bytes_any (s : List UInt8) (hs : s.length = 32) (w : World) : Calls Tryz.prog 105 #[.string (strL s)] w fun e w' => ∃ v, e = .returned v ∧ Same w w' ∧ Sat w' (own8 v (lenB s) * old w) := by
 have hsz : (strL s).size = 32 := by rw [strL_size, hs]
 have HI := Lib.hid (fun W => r1int_any W)
 have HST := Lib.hid (fun W => str_row s (by omega) W)
 have HL := Lib.hid hs
 clear hs
 go_enter Tryz.func105, Tryz.ntmps105
 go_wp2_with first
  | (go_at_call 135; refine (HI.out _).mono ?_; rintro e w1 ⟨v1, rfl, h1, h2⟩; have H1 := Lib.hid (And.intro h1 h2); clear h1 h2; obtain ⟨v2, w2, h3, h4, h5, h6⟩ := HST.out w1; have H2 := Lib.hid (And.intro h4 (And.intro h5 h6)); clear h4 h5 h6)
  | ((with_reducible (refine wpList_run ?_ (exec_convert ?_ ?_ h3) ?_)); rfl; rfl; rfl; clear h3)
  | (at_builtin; refine wpList_app8 rfl _ _ rfl rfl rfl (H2.out.2.1 _ H1.out.2) H2.out.2.2 (by rw [HL.out]; simp) ?_; intro v9 w9 h9 h10)
 go_ret
 exact ⟨_, rfl, (H1.out.1.trans H2.out.1).trans h9, h10⟩
structure InS (w : World) (l : List UInt8) (ov iv : Value) (wr : World) : Prop where
 st : ∃ (i : Nat) (m : List UInt8), (i = 0 ∧ m = [3] ∨ i = 1 ∧ m = [3] ++ lenB l) ∧ iv = .int .i64 (i : Int) ∧ Same w wr ∧ Sat wr (own8 ov m * old w)
set_option maxRecDepth 20000 in
set_option maxHeartbeats 1000000 in
theorem r2input_any (s : List UInt8) (hs : s.length = 32) (b off cap : Nat) (w : World) (hb : w.cell? ⟨b, off, none⟩ = some (.string (strL s))) :
  Calls Tryz.prog 79 #[.int .i64 3, .slice (some ⟨b, off, none⟩) 1 cap] w fun e w' => ∃ v, e = .returned v ∧ Same w w' ∧ Sat w' (own8 v ([3] ++ lenB s) * old w) := by
 have HBY := Lib.hid (fun W => r1bytes_any s hs W)
 have HC := Lib.hid (fun W (h : Below w.heap.size w W) => (h.cell (p := ⟨b, off, none⟩) (World.block_lt_of_cell? _ _ hb)).trans hb)
 have HLL := Lib.hid (show (lenB s).length = 34 by unfold lenB; simp [hs])
 have H3 := Lib.hid (fun t => show Sat (w.alloc (.cells #[.int .u8 3] t)) (old w) from (Sat.old w).allocKeep _)
 have H0 := Lib.hid (show Same w (w.alloc (.cells #[.int .u8 3] T8)) ∧ Sat (w.alloc (.cells #[.int .u8 3] T8)) (own8 (.slice (some ⟨w.heap.size, 0, none⟩) 1 1) [3] * old w) from
  ⟨(Same.refl w).alloc _, ownAt_iff.2 (.inr ⟨_, _, _, ⟨rfl, Nat.le_refl _, by unfold maxLen; omega, by simp, by simp [b8], by simp [b8]⟩, (Sat.old w).alloc _⟩)⟩)
 clear hb hs
 go_enter Tryz.func79, Tryz.ntmps79
 go_wp2
 generalize w.alloc (.cells #[.int .u8 3] T8) = w1 at H0 ⊢
 generalize w.heap.size = g1 at H0 ⊢
 go_loopw [5, 6] (fun ov iv wr => InS w s ov iv wr) (fun _ iv _ => 1 - (intOf iv).toNat)
 case atStart => exact ⟨⟨0, [3], .inl ⟨rfl, rfl⟩, rfl, H0.out⟩⟩
 case round =>
  clear H0
  obtain ⟨i, m, him, rfl, hsm, hst⟩ := hrel.st
  clear hrel
  have HS := Lib.hid (And.intro hsm hst)
  have c1 := HC.out wr (hsm.below_of hst)
  clear hsm hst
  rcases him with ⟨rfl, rfl⟩ | ⟨rfl, rfl⟩
  ·go_wp2_with first
    | (go_at_call 105; refine (HBY.out wr).mono ?_; rintro e w2 ⟨v2, rfl, h2, h3⟩; have H2 := Lib.hid (And.intro h2 h3); clear h2 h3)
    | (at_builtin; refine wpList_app8 (F := old w) rfl _ _ rfl rfl rfl (((H2.out.2.of_all HS.out.2)).right) (own8_row H2.out.2) (by rw [HLL.out]; simp) ?_; intro v9 w9 h9 h10)
   go_roundw
   case rel => exact ⟨⟨1, _, .inr ⟨rfl, rfl⟩, rfl, (HS.out.1.trans H2.out.1).trans h9, h10⟩⟩
   case measure => decide
  ·go_wp2
   go_ret
   exact ⟨_, rfl, HS.out.1, HS.out.2⟩
end Go.Proofs.YteikbikopgabjaaGreatDoor
end
section
namespace Go.Sha
open Go Go.RowKit Go.Sl
def arr (n : Nat) (f : Nat → Nat) : Array Value := ((List.range n).map fun j => Value.int .u32 ((f j : Nat) : Int)).toArray
theorem arr_size (n : Nat) (f : Nat → Nat) : (arr n f).size = n := by unfold arr; simp
theorem arr_at (n : Nat) (f : Nat → Nat) {j : Nat} (h : j < n) : (arr n f)[j]? = some (.int .u32 ((f j : Nat) : Int)) := by unfold arr; simp [h]
theorem arr_one (n : Nat) (f : Nat → Nat) : ∀ v ∈ (arr n f).toList, v.oneCell' = true := by
 intro v hv
 unfold arr at hv
 simp at hv
 obtain ⟨j, _, rfl⟩ := hv
 rfl
theorem arr_set (n : Nat) (f : Nat → Nat) (i x : Nat) : (arr n f).setIfInBounds i (.int .u32 (x : Int)) = arr n fun j => if j = i then x else f j := by
 apply Array.ext_getElem?
 intro j
 by_cases hj : j < n
 ·rw [arr_at _ _ hj]
  by_cases e : j = i
  ·subst e; rw [Array.getElem?_setIfInBounds_self_of_lt (by rw [arr_size]; exact hj), if_pos rfl]
  ·rw [Array.getElem?_setIfInBounds_ne (Ne.symm e), arr_at _ _ hj, if_neg e]
 ·rw [Array.getElem?_eq_none (by rw [Array.size_setIfInBounds, arr_size]; omega), Array.getElem?_eq_none (by rw [arr_size]; omega)]
def st8 (s : St) : Nat → Nat
 | 0 => s.a
 | 1 => s.b
 | 2 => s.c
 | 3 => s.d
 | 4 => s.e
 | 5 => s.f
 | 6 => s.g
 | _ => s.h
theorem st8_lt {s : St} (h : s.Ok) (j : Nat) : st8 s j < 4294967296 := by
 obtain ⟨h1, h2, h3, h4, h5, h6, h7, h8⟩ := h
 unfold st8
 split <;> assumption
theorem st8_plus (s v : St) : ∀ j, st8 (s.plus v) j = add32 (st8 s j) (st8 v j)
 | 0 => rfl
 | 1 => rfl
 | 2 => rfl
 | 3 => rfl
 | 4 => rfl
 | 5 => rfl
 | 6 => rfl
 | _ + 7 => rfl
def padL (l : List UInt8) : List UInt8 := l ++ [128] ++ List.replicate 20 0 ++ [0, 0, 0, 0, 0, 0, 1, 24]
def len8 (i : Nat) : List UInt8 := (List.range i).map fun i => UInt8.ofNat (280 >>> (56 - 8 * i))
theorem len8_all : len8 8 = [0, 0, 0, 0, 0, 0, 1, 24] := by decide
theorem len8_len (i : Nat) : (len8 i).length = i := by unfold len8; simp
theorem len8_succ (i : Nat) : len8 (i + 1) = len8 i ++ [UInt8.ofNat (280 >>> (56 - 8 * i))] := by unfold len8; rw [List.range_succ, List.map_append]; rfl
def byN (l : List UInt8) (j : Nat) : Nat := ((l[j]?).map UInt8.toNat).getD 0
theorem byN_lt (l : List UInt8) (j : Nat) : byN l j < 256 := by
 unfold byN
 cases l[j]? with
 | none => simp
 | some x => simp; exact x.toNat_lt
end Go.Sha
namespace Go.Proofs.YteikbikopgabjaaGreatDoor
open Go.RowKit Go.Sha Go.Sl Go.GF
attribute [local go_sem high] o_xor o_and o_or o_add
structure P1S (w : World) (l : List UInt8) (v : Value) (wr : World) : Prop where
 st : ∃ k : Nat, k ≤ 20 ∧ Same w wr ∧ Sat wr (own8 v (l ++ [128] ++ List.replicate k 0) * old w)
structure P2S (w : World) (m : List UInt8) (v iv : Value) (wr : World) : Prop where
 st : ∃ i : Nat, i ≤ 8 ∧ iv = .int .i64 (i : Int) ∧ Same w wr ∧ Sat wr (own8 v (m ++ len8 i) * old w)
theorem o_shr64 (t : TypeId) (a : Nat) (s : Nat) (h1 : s ≤ 62) : binOp .shr t (.int .u64 (a : Int)) (.int .i64 (s : Int)) = pure (.int .u64 ((a >>> s : Nat) : Int)) := by
 rw [binOp_shr, shift_shr_any _ _ _ _ (by omega), show min (s : Int).toNat IntKind.u64.bits = s by show min (s : Int).toNat 64 = s; omega]
 rw [Nat.shiftRight_eq_div_pow]
 congr 2
set_option maxRecDepth 20000 in
theorem wpList_len8 {ops : Array Oper} {rest : List Oper} {o : Oper} {a : Act} {Q : Exit → Act → World → Prop} {F : HProp} {w : World} (hgd : o.guard = none) (s : Operand)
  (ho : o.op = .call { callee := .builtin .len, args := #[s], argTypes := #[131] }) {v : Value} {L : List UInt8} {n : Nat} (hs : a.eval s = v) (h : Sat w (own8 v L * F)) (hn : L.length = n)
  (k : wpList Tryz.prog ops Q rest (a.put o.dst (.int .i64 (n : Int))) w) : wpList Tryz.prog ops Q (o :: rest) a w := by
 obtain ⟨ab, cb, rfl⟩ := own8_shape h
 subst hn
 refine wpList_run hgd (v := .int .i64 (L.length : Int)) (w' := w) ?_ k
 unfold execOp
 simp only [ho, resolve, invoke, builtin, Sem.run_bind, Sem.run_pure, Result.andThen_ok, List.map_toArray, List.map_cons, List.map_nil, hs, run_len_slice (t := 131) (h := Tryz.underlying131)]
 rfl
set_option maxRecDepth 20000 in
set_option maxHeartbeats 2000000 in
theorem padded_any (bv : Value) (l : List UInt8) (hl : l.length = 35) (w : World) (hr : RowI w bv (b8 l)) :
  Calls Tryz.prog 132 #[bv] w fun e w' => ∃ v, e = .returned v ∧ Same w w' ∧ Sat w' (own8 v (padL l) * old w) := by
 have HRR := Lib.hid (fun W (h : Below w.heap.size w W) => hr.below h)
 have HML := Lib.hid (show ∀ k, (l ++ [128] ++ List.replicate k (0 : UInt8)).length = 36 + k from fun k => by simp; omega)
 obtain ⟨ab, cb, rfl, -⟩ := id hr
 rw [b8_len] at *
 have HL := Lib.hid hl
 rw [hl] at HRR ⊢
 have H0 := Lib.hid (fun t => show t = T8 → Sat (w.alloc (.cells #[] t)) (own8 (.slice (some ⟨w.heap.size, 0, none⟩) 0 0) [] * old w) from fun e => by
  subst e
  exact ownAt_iff.2 (.inr ⟨_, _, _, ⟨rfl, Nat.le_refl _, by unfold maxLen; omega, by simp, by simp [b8], by simp [b8]⟩, (Sat.old w).alloc _⟩))
 have HBA := Lib.hid (fun o => And.intro ((Same.refl w).alloc o) (al_below w o))
 have HPL := Lib.hid (show padL l = l ++ [128] ++ List.replicate 20 0 ++ len8 8 by rw [len8_all]; rfl)
 clear hr hl
 go_enter Tryz.func132, Tryz.ntmps132
 go_wp2_with first
  | (at_builtin; refine wpList_app8 rfl _ _ rfl rfl rfl (H0.out _ rfl) (HRR.out _ (HBA.out _).2) (by rw [HL.out]; simp) ?_; intro v1 w1 h1 h2; rw [List.nil_append] at h2; have H1 := Lib.hid (And.intro ((HBA.out _).1.trans h1) h2); clear h1 h2)
  | (at_builtin; refine wpList_ap8 (z := 128) rfl _ _ rfl rfl rfl rfl H1.out.2 (by rw [HL.out]; omega) ?_; intro v2 w2 h3 h4; have H2 := Lib.hid (And.intro (H1.out.1.trans h3) h4); clear h3 h4)
 go_loopw [3] (fun v wr => P1S w l v wr) (fun v _ => match v with | .slice _ n _ => 56 - n | _ => 0)
 case atStart => exact ⟨⟨0, by omega, H2.out.1, by rw [List.replicate_zero, List.append_nil]; exact H2.out.2⟩⟩
 case round =>
  clear H2
  obtain ⟨k, hk, hsm, hst⟩ := hrel.st
  clear hrel
  have HS := Lib.hid (And.intro hsm hst)
  clear hsm hst
  have HMK := Lib.hid (HML.out k)
  by_cases hk20 : k < 20
  ·have hrm : (((36 + k : Nat) : Int) % 64 != 56) = true := by
    have : ((36 + k : Nat) : Int) % 64 = ((36 + k : Nat) : Int) := Int.emod_eq_of_lt (by omega) (by omega)
    rw [this]; simp; omega
   have HK := Lib.hid hk20
   clear hk20 hk
   generalize hq : 36 + k = q at *
   have HQ := Lib.hid hq
   clear hq
   go_wp2_with first
    | ((with_reducible (refine wpList_len8 ?_ (.tmp 12) ?_ ?_ HS.out.2 HMK.out ?_)); rfl; rfl; rfl)
    | (at_builtin; refine wpList_ap8 (z := 0) rfl _ _ rfl rfl rfl rfl HS.out.2 (by rw [HMK.out]; have := HQ.out; have := HK.out; omega) ?_; intro v3 w3 h3 h4)
   have hq := HQ.out
   have hK := HK.out
   have HE := Lib.hid (show Same w w3 ∧ Sat w3 (own8 v3 (l ++ [128] ++ List.replicate (k + 1) 0) * old w) from ⟨HS.out.1.trans h3, by rw [List.replicate_succ', ← List.append_assoc]; exact h4⟩)
   clear h3 h4 HQ HK
   go_roundw
   case rel => exact ⟨⟨k + 1, by omega, HE.out⟩⟩
   case measure =>
    obtain ⟨ao, cp, rfl⟩ := own8_shape HS.out.2
    obtain ⟨ap, cq, rfl⟩ := own8_shape HE.out.2
    have := HL.out
    simp
    omega
  ·have : k = 20 := by omega
   subst this
   clear hk hk20
   have hrm : (((56 : Nat) : Int) % 64 != 56) = false := by decide
   generalize hm : l ++ [128] ++ List.replicate 20 (0 : UInt8) = m at *
   have hm2 : m.length = 56 := by rw [← hm]; exact HML.out 20
   have HM2 := Lib.hid hm2
   clear hm hm2 HML HMK
   go_wp2_with first
    | ((with_reducible (refine wpList_len8 ?_ (.tmp 12) ?_ ?_ HS.out.2 HM2.out ?_)); rfl; rfl; rfl)
   go_loopw [3, 5] (fun v iv wr => P2S w m v iv wr) (fun _ iv _ => 8 - (intOf iv).toNat)
   case atStart => exact ⟨⟨0, by omega, rfl, HS.out.1, by rw [show len8 0 = [] from rfl, List.append_nil]; exact HS.out.2⟩⟩
   case round =>
    clear HS
    obtain ⟨i, hi, rfl, hsm, hst⟩ := hrel.st
    clear hrel
    have HS := Lib.hid (And.intro hsm hst)
    clear hsm hst
    have HI := Lib.hid hi
    by_cases hlt : i < 8
    ·obtain ⟨sh, hsh, hsn⟩ : ∃ sh : Nat, (56 : Int) - 8 * (i : Int) = (sh : Int) ∧ sh = 56 - 8 * i := ⟨56 - 8 * i, by omega, rfl⟩
     have hsh2 : sh ≤ 62 := by omega
     go_wp2_with first
      | (at_builtin; refine wpList_ap8 (z := UInt8.ofNat (280 >>> (56 - 8 * i))) rfl _ _ rfl (by rw [UInt8.toNat_ofNat', Nat.shiftRight_eq_div_pow]; push_cast; rfl) rfl rfl HS.out.2 (by rw [List.length_append, HM2.out, len8_len]; have := HI.out; omega) ?_; intro v3 w3 h3 h4)
     have HE := Lib.hid (show Same w w3 ∧ Sat w3 (own8 v3 (m ++ len8 (i + 1)) * old w) from ⟨HS.out.1.trans h3, by rw [len8_succ, ← List.append_assoc]; exact h4⟩)
     clear h3 h4
     go_roundw
     case rel => exact ⟨⟨i + 1, by omega, by push_cast; rfl, HE.out⟩⟩
     case measure => show 8 - ((i : Int) + 1).toNat < 8 - (i : Int).toNat; omega
    ·have : i = 8 := by omega
     subst this
     go_wp2
     go_ret
     exact ⟨_, rfl, HS.out.1, by rw [HPL.out]; exact HS.out.2⟩
end Go.Proofs.YteikbikopgabjaaGreatDoor
end
