import Derived.Test.YteikbikopgabjaaGreatDoorH30
import Derived.RangeFuncBox
import Derived.Maps.AppendAt
import Derived.Test.YteikbikopgabjaaGreatDoorH15
import Derived.Test.YteikbikopgabjaaGreatDoorH14
/- Part 31 of a proof; the last part says what is proved. -/
section
namespace Go.Sl
open Go Go.RowKit
section
variable {P : Program} {ops : Array Oper} {Q : Exit → Act → World → Prop} {S : World → Prop} {fuel : Nat} {listed : Array Bool} {t : Array Value} {df : List Deferred} {w : World}
theorem reg_call0_last (i : Nat) {o : Oper} (v : Value) (w' : World) (ho : ops[i]? = some o) (hd : o.dst = none) (hck : (aloneOK ops listed i && tailB ops i && (Region.ready .any ops (listed.setIfInBounds i true)).isEmpty) = true) (hw : Region.wanted o (yielded ops t) = true)
    (hr : (execOp (Act.eval ⟨t, df⟩) o).run P w = .ok (.value v) w') (k : Q .normal ⟨t, df⟩ w') : Reg P ops Q S (fuel + 1) listed t df w := by
  simp only [Bool.and_eq_true] at hck
  refine reg_op' i ho hck.1.1 hw ?_
  unfold Oper.wp; rw [hr]; simp only [Oper.upon, hd, Act.put]
  refine ⟨.inl hck.1.2, ?_⟩
  constructor
  intro _
  cases fuel with
  | zero => exact ⟨by simpa using hck.2, NoPanic.normal k⟩
  | succ n => exact ⟨fun _ => NoPanic.normal k, fun j hj => by have : Region.ready .any ops (listed.setIfInBounds i true) = [] := by simpa using hck.2
                                                               rw [this] at hj; cases hj⟩
theorem exec_delete {o : Oper} {a : Act} (m k : Operand) (T K : TypeId) (ho : o.op = Op.call { callee := Callee.builtin Builtin.delete, args := #[m, k], argTypes := #[T, K] }) {vm vk : Value} {w' : World}
  (hm : a.eval m = vm) (hk : a.eval k = vk) (hrun : ∀ ty, (Builtin.delete_ #[T, K] ty #[vm, vk]).run P w = .ok (.tuple #[]) w') : (execOp a.eval o).run P w = .ok (.value (.tuple #[])) w' := by
 unfold execOp
 simp [ho, resolve, invoke, builtin, hm, hk, hrun]
end
end Go.Sl
namespace Go.Proofs.YteikbikopgabjaaGreatDoor
open Go.RowKit Go.Sha Go.Sl Go.GF Go.Vol Go.Loss
def zUK : UK := ⟨(0, 0), by decide⟩
def leftM (l : Go.Key.KV UK) (x : ChM) : Go.Key.KV UK := if x.lost = true then l else Go.Key.del l x.loc
theorem tab_chunk {w : World} {F : HProp} {p b cap at_ : Nat} {rb : Nat → Nat} {L : List ChM} {l : Go.Key.KV UK} (h : Sat w (tabS p b cap at_ rb L l * F)) (hn : L.length ≤ 900) {k : Nat} {x : ChM} (hx : L[k]? = some x) :
  w.cell? ⟨b, k * 23 + 21, none⟩ = some (.bool x.lost) ∧ (loadVar TUn ⟨b, k * 23 + 18, none⟩).run Tryz.prog w = .ok (ukV x.loc) w := by
 have hT := tab_read h (by omega)
 have hr := hT.row k x hx
 have hv := chA_at k (rb k) x
 have hc : ∀ j v, (chA k (rb k) x)[j]? = some v → w.cell? ⟨b, k * 23 + j, none⟩ = some v := fun j v h => hr j v (by rw [Array.getElem?_toList]; exact h)
 refine ⟨hc 21 _ hv.lost, ?_⟩
 have := run_loadVar_mid (P := Tryz.prog) w b (k * 23 + 18) TUn (ukA x.loc).toList _ (fun j v hv2 => by
  match j, hv2 with
  | 0, hv2 => cases hv2; exact hc 18 _ hv.row
  | 1, hv2 => cases hv2; exact hc 19 _ hv.group
  | 2, hv2 => cases hv2; exact hc 20 _ hv.unit) Tryz.underlying57 rfl (by kernel_rfl)
 exact this
set_option maxRecDepth 20000 in
set_option maxHeartbeats 1000000 in
theorem leave_any (p b cap at_ : Nat) (rb : Nat → Nat) (L : List ChM) (l : Go.Key.KV UK) (k : Nat) (x : ChM) (hx : L[k]? = some x) (F : HProp) (w : World) (hS : Sat w (tabS p b cap at_ rb L l * F)) (hn : L.length ≤ 900) :
  Calls Tryz.prog 48 #[.pointer (some ⟨p, 0, none⟩), .pointer (some ⟨b, k * 23, none⟩)] w fun e w' => e = .returned (.tuple #[]) ∧ Same w w' ∧ Sat w' (tabS p b cap at_ rb L (leftM l x) * F) := by
 obtain ⟨es, clock, hmg, hO⟩ := tab_open.1 hS
 have hc21 := (tab_chunk hS hn hx).1
 have HU := Lib.hid (fun W (h : Sat W (tabO p b cap at_ rb L es clock * F)) => (tab_chunk (tab_open.2 ⟨es, clock, hmg, h⟩) hn hx).2)
 have HO := Lib.hid hO
 have HS := Lib.hid hS
 have HM := Lib.hid hmg
 unfold leftM
 cases hl : x.lost with
 | true =>
  rw [hl] at hc21
  simp only [if_true]
  clear hO hS hn hx hmg hl
  go_enter Tryz.func48, Tryz.ntmps48
  go_wp2
  go_end0
  exact ⟨rfl, Same.refl _, HS.out⟩
 | false =>
  rw [hl] at hc21
  simp only [Bool.false_eq_true, if_false]
  clear hO hS hn hx hmg hl HS
  go_enter Tryz.func48, Tryz.ntmps48
  go_upto_region 1 with (fail)
  have hS0 := HO.out.drew
  refine reg_begin (fun w' => Sat w' (tabO p b cap at_ rb L es clock * F)) (by kernel_rfl) ?_
  (apply reg_take 0 rfl rfl (by decide +kernel) rfl); (intro w' hw'; go_simp; rfl); exact hS0; simp only [zq1, zq2, zq3]
  (apply reg_take 1 rfl rfl (by decide +kernel) rfl); (intro w' hw'; go_simp; rfl); exact hS0; simp only [zq1, zq2, zq3]
  (apply reg_take 2 rfl rfl (by decide +kernel) rfl); (intro w' hw'; go_simp; rfl); exact hS0; simp only [zq1, zq2, zq3]
  refine reg_take 3 (v := .map (some at_)) rfl rfl (by decide +kernel) rfl (fun w' h => exec_load_cell rfl rfl Tryz.underlying104 rfl (tabO_hd h).2.1) hS0 ?_; simp only [zq1, zq2, zq3]
  (apply reg_take 4 rfl rfl (by decide +kernel) rfl); (intro w' hw'; go_simp; rfl); exact hS0; simp only [zq1, zq2, zq3]
  (apply reg_take 5 rfl rfl (by decide +kernel) rfl); (intro w' hw'; go_simp; rfl); exact hS0; simp only [zq1, zq2, zq3]
  (apply reg_take 6 rfl rfl (by decide +kernel) rfl); (intro w' hw'; go_simp; rfl); exact hS0; simp only [zq1, zq2, zq3]
  refine reg_take 7 (v := ukV x.loc) rfl rfl (by decide +kernel) rfl (fun w' h => exec_load_mid rfl rfl (HU.out w' h)) hS0 ?_; simp only [zq1, zq2, zq3]
  have h9 := hS0.perm (show _ = pts at_ (.map es clock) * (pts p (.cells #[.slice (sOf b L) L.length cap, .map (some at_)] TTab (0, 0)) * (ownAt TCh 23 (.slice (sOf b L) L.length cap) L.length (chL rb L) * refB rb L.length) * F) by unfold tabO; ac_rfl)
  obtain ⟨es', clock', hrun, hmg'⟩ := Go.Key.run_delete_kv (P := Tryz.prog) Tryz.underlying104 emb_unit h9.block HM.out x.loc
  refine reg_call0_last 8 _ _ rfl rfl (by decide +kernel) rfl (exec_delete _ _ _ _ rfl rfl rfl hrun) ?_
  have h10 := h9.setBlock (o' := .map es' clock')
  have hsm10 := ((Same.refl w).drew).setBlock (r := at_) (.map es' clock')
  have HF := Lib.hid (And.intro hsm10 (tab_open.2 ⟨es', clock', hmg', h10.perm (show _ = tabO p b cap at_ rb L es' clock' * F by unfold tabO; ac_rfl)⟩))
  clear hrun h9 h10 hsm10 hS0 hmg'
  generalize ChangeMaps.setBlock w.drew at_ (.map es' clock') = w9 at HF ⊢
  go_wp2
  go_end0
  exact ⟨rfl, HF.out.1, HF.out.2⟩
theorem tab_sets {w : World} {F : HProp} {p b cap at_ : Nat} {rb : Nat → Nat} {L : List ChM} {l : Go.Key.KV UK} (h : Sat w (tabS p b cap at_ rb L l * F)) {k : Nat} {x : ChM} (hx : L[k]? = some x) (lo : Bool) (u : UK) :
  (∃ v0 v1 v2 v3 : Value, w.cell? ⟨b, k * 23 + 18, none⟩ = some v0 ∧ w.cell? ⟨b, k * 23 + 19, none⟩ = some v1 ∧ w.cell? ⟨b, k * 23 + 20, none⟩ = some v2 ∧ w.cell? ⟨b, k * 23 + 21, none⟩ = some v3) ∧
  w.frozen? ⟨b, k * 23 + 18, none⟩ = false ∧ w.frozen? ⟨b, k * 23 + 19, none⟩ = false ∧ w.frozen? ⟨b, k * 23 + 20, none⟩ = false ∧ w.frozen? ⟨b, k * 23 + 21, none⟩ = false ∧
  Sat ((((w.setCell ⟨b, k * 23 + 18, none⟩ (.int .i64 (u.1.1 : Int))).setCell ⟨b, k * 23 + 19, none⟩ (.int .i64 0)).setCell ⟨b, k * 23 + 20, none⟩ (.int .i64 (u.1.2 : Int))).setCell ⟨b, k * 23 + 21, none⟩ (.bool lo)) (tabS p b cap at_ rb (L.set k ⟨x.fill, lo, u⟩) l * F) := by
 have hk := (List.getElem?_eq_some_iff.1 hx).1
 have hsl : sOf b L = some ⟨b, 0, none⟩ := sOf_pos (by omega)
 have hsl2 : sOf b (L.set k ⟨x.fill, lo, u⟩) = some ⟨b, 0, none⟩ := sOf_pos (by rw [List.length_set]; omega)
 have h0 := h.perm (show _ = ownAt TCh 23 (.slice (sOf b L) L.length cap) L.length (chL rb L) * (pts p (.cells #[.slice (sOf b L) L.length cap, .map (some at_)] TTab (0, 0)) * (placeS at_ l * refB rb L.length) * F) by unfold tabS; ac_rfl)
 rw [hsl] at h0
 obtain ⟨⟨v0, -, a0⟩, b0, -⟩ := ownAt_setK h0 (j := k * 23 + 18) (by omega) (.int .i64 (u.1.1 : Int))
 obtain ⟨⟨v1, -, a1⟩, b1, -⟩ := ownAt_setK h0 (j := k * 23 + 19) (by omega) (.int .i64 0)
 obtain ⟨⟨v2, -, a2⟩, b2, -⟩ := ownAt_setK h0 (j := k * 23 + 20) (by omega) (.int .i64 (u.1.2 : Int))
 obtain ⟨⟨v3, -, a3⟩, b3, -⟩ := ownAt_setK h0 (j := k * 23 + 21) (by omega) (.bool lo)
 have h1 := (ownAt_setK h0 (j := k * 23 + 18) (by omega) (.int .i64 (u.1.1 : Int))).2.2
 have h2 := (ownAt_setK h1 (j := k * 23 + 19) (by omega) (.int .i64 0)).2.2
 have h3 := (ownAt_setK h2 (j := k * 23 + 20) (by omega) (.int .i64 (u.1.2 : Int))).2.2
 have h4 := (ownAt_setK h3 (j := k * 23 + 21) (by omega) (.bool lo)).2.2
 rw [chL_sets rb hx lo u] at h4
 refine ⟨⟨v0, v1, v2, v3, a0, a1, a2, a3⟩, b0, b1, b2, b3, ?_⟩
 unfold tabS
 rw [hsl2, List.length_set]
 exact h4.perm (by ac_rfl)
set_option maxRecDepth 20000 in
set_option maxHeartbeats 1000000 in
theorem lose_any (p b cap at_ : Nat) (rb : Nat → Nat) (L : List ChM) (l : Go.Key.KV UK) (k : Nat) (x : ChM) (hx : L[k]? = some x) (F : HProp) (w : World) (hS : Sat w (tabS p b cap at_ rb L l * F)) (hn : L.length ≤ 900) :
  Calls Tryz.prog 24 #[.pointer (some ⟨p, 0, none⟩), .int .i64 ((k : Int) + 1)] w fun e w' => e = .returned (.int .i64 0) ∧ Same w w' ∧ Sat w' (tabS p b cap at_ rb (L.set k ⟨x.fill, true, zUK⟩) (leftM l x) * F) := by
 have hk := (List.getElem?_eq_some_iff.1 hx).1
 have HF := Lib.hid (find_any p b cap rb L ((k : Int) + 1) w (tab_read hS (by omega)))
 have HE := Lib.hid (show fndA b L.length ((k : Int) + 1) = some ⟨b, k * 23, none⟩ from by unfold fndA; rw [if_pos (by omega), show ((k : Int) + 1 - 1).toNat = k by omega])
 have HL := Lib.hid (fun W (h : Sat W (tabS p b cap at_ rb L l * F)) => leave_any p b cap at_ rb L l k x hx F W h hn)
 have HT := Lib.hid (fun W (h : Sat W (tabS p b cap at_ rb L (leftM l x) * F)) => tab_sets h hx true zUK)
 have HS := Lib.hid hS
 clear hS hn hx hk
 go_enter Tryz.func24, Tryz.ntmps24
 go_upto_region 5 with (first
  | (go_at_call 46; refine HF.out.mono ?_; rintro e w1 ⟨rfl, h1⟩; rw [HE.out]; have HS1 := Lib.hid (And.intro ((Same.refl w).below h1) (HS.out.below h1)); clear h1)
  | (go_at_call 48; refine (HL.out w1 HS1.out.2).mono ?_; rintro e w2 ⟨rfl, h2, h3⟩; have HS2 := Lib.hid (And.intro (HS1.out.1.trans h2) h3); clear h2 h3))
 obtain ⟨⟨v0, v1, v2, v3, c0, c1, c2, c3⟩, f0, f1, f2, f3, hT⟩ := HT.out w2 HS2.out.2
 replace hT := Lib.hid hT
 go_wp2
 go_ret
 exact ⟨rfl, (((HS2.out.1.setCell _ _).setCell _ _).setCell _ _).setCell _ _, hT.out⟩
set_option maxRecDepth 20000 in
set_option maxHeartbeats 1000000 in
theorem move_any (p b cap at_ : Nat) (rb : Nat → Nat) (L : List ChM) (l : Go.Key.KV UK) (k : Nat) (x : ChM) (u : UK) (hx : L[k]? = some x) (F : HProp) (w : World) (hS : Sat w (tabS p b cap at_ rb L l * F)) (hn : L.length ≤ 900) (hlk : Go.Key.lk l u = none) :
  Calls Tryz.prog 23 #[.pointer (some ⟨p, 0, none⟩), .int .i64 ((k : Int) + 1), ukV u] w fun e w' => e = .returned (.int .i64 0) ∧ Same w w' ∧ Sat w' (tabS p b cap at_ rb (L.set k ⟨x.fill, false, u⟩) (Go.Key.upd (leftM l x) u (.int .i64 ((k : Int) + 1))) * F) := by
 have hk := (List.getElem?_eq_some_iff.1 hx).1
 have hkU : Tryz.prog.cellsOf TUn = 3 := by kernel_rfl
 have e1 : ∀ (W : World) o, (W.alloc o).heap.size = W.heap.size + 1 := fun W o => by simp
 have HW0 := Lib.hid (And.intro ((Same.refl w).alloc (.cells (ukA u) TUn)) (hS.alloc (.cells (ukA u) TUn)))
 obtain ⟨G, hG⟩ : ∃ G, G = fun g => pts g (.cells (ukA u) TUn (0, 0)) * F := ⟨_, rfl⟩
 have HF := Lib.hid (fun W g l' (h : Sat W (tabS p b cap at_ rb L l' * G g)) => find_any p b cap rb L ((k : Int) + 1) W (tab_read h (by omega)))
 have HE := Lib.hid (show fndA b L.length ((k : Int) + 1) = some ⟨b, k * 23, none⟩ from by unfold fndA; rw [if_pos (by omega), show ((k : Int) + 1 - 1).toNat = k by omega])
 have HL := Lib.hid (fun W g (h : Sat W (tabS p b cap at_ rb L l * G g)) => leave_any p b cap at_ rb L l k x hx (G g) W h hn)
 have HT := Lib.hid (fun W g (h : Sat W (tabS p b cap at_ rb L (leftM l x) * G g)) => tab_sets h hx false u)
 have HU := Lib.hid (show ∀ W g X, Sat W (X * G g) → (loadVar TUn ⟨g, 0, none⟩).run Tryz.prog W = .ok (ukV u) W from fun W g X h => by
  rw [hG] at h
  dsimp only at h
  exact load_uk (h.perm (show _ = pts g (.cells (ukA u) TUn (0, 0)) * (X * F) by ac_rfl)))
 have HS0 := Lib.hid (And.intro HW0.out.1 (show Sat (w.alloc (.cells (ukA u) TUn)) (tabS p b cap at_ rb L l * G w.heap.size) from HW0.out.2.perm (by rw [hG]; dsimp only; ac_rfl)))
 have HG := Lib.hid hG
 have HLK := Lib.hid hlk
 have HX := Lib.hid (And.intro hx hn)
 clear HW0 hS hn hx hk hG e1 hlk
 show Calls Tryz.prog 23 #[.pointer (some ⟨p, 0, none⟩), .int .i64 ((k : Int) + 1), .agg (ukA u)] w _
 have HUU := Lib.hid (show ukV u = .agg (ukA u) from rfl)
 obtain ⟨U, hU⟩ : ∃ U, U = ukA u := ⟨_, rfl⟩
 rw [← hU] at HS0 HUU ⊢
 clear hU
 have HVA := Lib.hid (show ∀ W, Calls Tryz.prog 47 #[.agg U] W fun e w' => e = .returned (.bool true) ∧ Below W.heap.size W w' from by rw [← HUU.out]; exact fun W => valid_any41 u W)
 go_enter Tryz.func23, Tryz.ntmps23
 go_upto_region 1 with (fail)
 generalize w.alloc (.cells U TUn) = w1 at HS0 ⊢
 generalize w.heap.size = g5 at HS0 ⊢
 go_upto_region 2 with (go_at_call 46; refine (HF.out w1 _ _ HS0.out.2).mono ?_; rintro e w2 ⟨rfl, h1⟩; rw [HE.out]; have HS1 := Lib.hid (And.intro (HS0.out.1.below h1) (HS0.out.2.below h1)); clear h1)
 obtain ⟨es, clock, hmg, hO⟩ := tab_open.1 HS1.out.2
 have HM := Lib.hid hmg
 clear hmg
 have hS0 := hO.drew
 have hsm0 := HS1.out.1.drew
 clear hO HS0
 refine reg_begin (fun w' => Sat w' (tabO p b cap at_ rb L es clock * G g5)) (by kernel_rfl) ?_
 (apply reg_take 0 rfl rfl (by decide +kernel) rfl); (intro w' hw'; go_simp; rfl); exact hS0; simp only [zq1, zq2, zq3]
 (apply reg_take 1 rfl rfl (by decide +kernel) rfl); (intro w' hw'; go_simp; rfl); exact hS0; simp only [zq1, zq2, zq3]
 (apply reg_take 2 rfl rfl (by decide +kernel) rfl); (intro w' hw'; go_simp; rfl); exact hS0; simp only [zq1, zq2, zq3]
 refine reg_take 3 (v := .map (some at_)) rfl rfl (by decide +kernel) rfl (fun w' h => exec_load_cell rfl rfl Tryz.underlying104 rfl (tabO_hd h).2.1) hS0 ?_; simp only [zq1, zq2, zq3]
 refine reg_take 4 (v := ukV u) rfl rfl (by decide +kernel) rfl (fun w' h => exec_load_mid rfl rfl (HU.out w' _ _ h)) hS0 ?_; simp only [zq1, zq2, zq3]
 refine reg_take 5 (v := .tuple #[.int .i64 0, .bool false]) rfl rfl (by decide +kernel) rfl (fun w' h => exec_lookup rfl rfl rfl ((Go.Key.run_lookup_ok Tryz.underlying104 emb_unit (zero_int41 _) (tabO_hd h).2.2.2 HM.out u).trans (by rw [HLK.out]; rfl))) hS0 ?_; simp only [zq1, zq2, zq3]
 (apply reg_take 6 rfl rfl (by decide +kernel) rfl); (intro w' hw'; go_simp; rfl); exact hS0; simp only [zq1, zq2, zq3]
 (apply reg_take 7 rfl rfl (by decide +kernel) rfl); (intro w' hw'; go_simp; rfl); exact hS0; simp only [zq1, zq2, zq3]
 (apply reg_take 8 rfl rfl (by decide +kernel) rfl); (intro w' hw'; go_simp; rfl); exact hS0; simp only [zq1, zq2, zq3]
 (apply reg_take 9 rfl rfl (by decide +kernel) rfl); (intro w' hw'; go_simp; rfl); exact hS0; simp only [zq1, zq2, zq3]
 (apply reg_take 10 rfl rfl (by decide +kernel) rfl); (intro w' hw'; go_simp; rfl); exact hS0; simp only [zq1, zq2, zq3]
 refine reg_done (by decide +kernel) ?_
 have HS2 := Lib.hid (And.intro hsm0 (tab_open.2 ⟨es, clock, HM.out, hS0⟩))
 clear hS0 hsm0 HS1
 generalize w2.drew = w3 at HS2 ⊢
 go_upto_region 10 with (first
  | (refine wpList_runG (v := ukV u) rfl (exec_load_mid (ty := TUn) rfl rfl (HU.out _ _ _ HS2.out.2)) ?_; rw [HUU.out])
  | (go_at_call 47; refine (HVA.out w3).mono ?_; rintro e w4 ⟨rfl, h3⟩; have HS3 := Lib.hid (And.intro (HS2.out.1.below h3) (HS2.out.2.below h3)); clear h3)
  | (go_at_call 48; refine (HL.out w4 _ HS3.out.2).mono ?_; rintro e w5 ⟨rfl, h2, h3⟩; have HS4 := Lib.hid (And.intro (HS3.out.1.trans h2) h3); clear h2 h3))
 obtain ⟨⟨v0, v1, v2, v3, c0, c1, c2, c3⟩, f0, f1, f2, f3, hT⟩ := HT.out w5 _ HS4.out.2
 have HST := Lib.hid (And.intro ((((HS4.out.1.setCell ⟨b, k * 23 + 18, none⟩ (.int .i64 (u.1.1 : Int))).setCell ⟨b, k * 23 + 18 + 1, none⟩ (.int .i64 0)).setCell ⟨b, k * 23 + 18 + 2, none⟩ (.int .i64 (u.1.2 : Int))).setCell ⟨b, k * 23 + 21, none⟩ (.bool false))
  (show Sat ((((w5.setCell ⟨b, k * 23 + 18, none⟩ (.int .i64 (u.1.1 : Int))).setCell ⟨b, k * 23 + 18 + 1, none⟩ (.int .i64 0)).setCell ⟨b, k * 23 + 18 + 2, none⟩ (.int .i64 (u.1.2 : Int))).setCell ⟨b, k * 23 + 21, none⟩ (.bool false)) (tabS p b cap at_ rb (L.set k ⟨x.fill, false, u⟩) (leftM l x) * G g5) from hT))
 clear hT HT HL HF HE
 go_upto_region 11 with (refine wpList_runG (v := .agg #[.int .i64 (u.1.1 : Int), .int .i64 0, .int .i64 (u.1.2 : Int)]) rfl (exec_load_mid (ty := TUn) rfl rfl (HU.out _ _ _ HS4.out.2)) ?_)
 clear c0 c1 c2 c3 f0 f1 f2 f3 HS4 HS3 HS2
 generalize (((w5.setCell ⟨b, k * 23 + 18, none⟩ (.int .i64 (u.1.1 : Int))).setCell ⟨b, k * 23 + 18 + 1, none⟩ (.int .i64 0)).setCell ⟨b, k * 23 + 18 + 2, none⟩ (.int .i64 (u.1.2 : Int))).setCell ⟨b, k * 23 + 21, none⟩ (.bool false) = w6 at HST ⊢
 obtain ⟨es2, clock2, hmg2, hO2⟩ := tab_open.1 HST.out.2
 have hsm2 := HST.out.1.drew
 have hS0 := hO2.drew
 clear hO2
 refine reg_begin (fun w' => Sat w' (tabO p b cap at_ rb (L.set k ⟨x.fill, false, u⟩) es2 clock2 * G g5)) (by kernel_rfl) ?_
 (apply reg_take 0 rfl rfl (by decide +kernel) rfl); (intro w' hw'; go_simp; rfl); exact hS0; simp only [zq1, zq2, zq3]
 (apply reg_take 1 rfl rfl (by decide +kernel) rfl); (intro w' hw'; go_simp; rfl); exact hS0; simp only [zq1, zq2, zq3]
 (apply reg_take 2 rfl rfl (by decide +kernel) rfl); (intro w' hw'; go_simp; rfl); exact hS0; simp only [zq1, zq2, zq3]
 refine reg_take 3 (v := .map (some at_)) rfl rfl (by decide +kernel) rfl (fun w' h => exec_load_cell rfl rfl Tryz.underlying104 rfl (tabO_hd h).2.1) hS0 ?_; simp only [zq1, zq2, zq3]
 refine reg_take 4 (v := ukV u) rfl rfl (by decide +kernel) rfl (fun w' h => exec_load_mid rfl rfl (HU.out w' _ _ h)) hS0 ?_; simp only [zq1, zq2, zq3]
 (apply reg_take 5 rfl rfl (by decide +kernel) rfl); (intro w' hw'; go_simp; rfl); exact hS0; simp only [zq1, zq2, zq3]
 have h15 := hS0.perm (show _ = pts at_ (.map es2 clock2) * (pts p (.cells #[.slice (sOf b (L.set k ⟨x.fill, false, u⟩)) (L.set k ⟨x.fill, false, u⟩).length cap, .map (some at_)] TTab (0, 0)) * (ownAt TCh 23 (.slice (sOf b (L.set k ⟨x.fill, false, u⟩)) (L.set k ⟨x.fill, false, u⟩).length cap) (L.set k ⟨x.fill, false, u⟩).length (chL rb (L.set k ⟨x.fill, false, u⟩)) * refB rb (L.set k ⟨x.fill, false, u⟩).length) * G g5) by unfold tabO; ac_rfl)
 obtain ⟨es', clock', hrun, hmg'⟩ := Go.Key.run_mapUpdate_kv (P := Tryz.prog) Tryz.underlying104 emb_unit h15.block hmg2 u (.int .i64 ((k : Int) + 1))
 refine reg_do_last 6 _ rfl rfl (by decide +kernel) rfl (exec_mapUpdate rfl rfl rfl rfl hrun) ?_
 have h16 := h15.setBlock (o' := .map es' clock')
 have hsm16 := hsm2.setBlock (r := at_) (.map es' clock')
 have HF := Lib.hid (And.intro hsm16 (tab_open.2 ⟨es', clock', hmg', h16.perm (show _ = tabO p b cap at_ rb (L.set k ⟨x.fill, false, u⟩) es' clock' * G g5 by unfold tabO; ac_rfl)⟩))
 clear hrun h15 h16 hsm16 hS0 hmg' hmg2 hsm2
 generalize ChangeMaps.setBlock w6.drew at_ (.map es' clock') = w9 at HF ⊢
 go_wp2
 go_ret
 refine ⟨rfl, HF.out.1, ?_⟩
 have h := HF.out.2
 rw [HG.out] at h
 dsimp only at h
 exact (h.perm (show _ = pts g5 (.cells (ukA u) TUn (0, 0)) * (tabS p b cap at_ rb (L.set k ⟨x.fill, false, u⟩) (Go.Key.upd (leftM l x) u (.int .i64 ((k : Int) + 1))) * F) by ac_rfl)).right
end Go.Proofs.YteikbikopgabjaaGreatDoor
end
section
namespace Go.Proofs.YteikbikopgabjaaGreatDoor
open Go.RowKit Go.Vol Go.Shelf Go.Sl
attribute [local go_sem] Oper.semAt_some
theorem ownsRow_slice {w : World} {base : Nat} {e : TypeId} {k n : Nat} {v : Value} {L : List Value} (h : w.ownsRow base e k v n L) : ∃ a c, v = .slice a n c := by
 rcases h.2 with ⟨rfl, rfl⟩ | ⟨g, cap, cur, rfl, _⟩
 ·exact ⟨_, _, rfl⟩
 ·exact ⟨_, _, rfl⟩
theorem info_map : (Tryz.prog.info? 74).map (fun i => (i.zero, i.size, i.bytes)) = some (some (.agg #[.int .i64 0, .int .i64 0]), 2, 16) := by kernel_rfl
set_option maxRecDepth 100000 in
set_option maxHeartbeats 4000000 in
theorem mappings_in (F : Fence) (hd : F.depth = none) (n : Nat) (hn3 : 3 ≤ n) (h0 : F.fn 87) (h1 : F.fn 100) (h2 : F.fn 75) (h3 : F.fn 50) (h4 : F.fn 101) (hro : F.round = none)
  (nv : Int) (r : Value) (m : MapM) (w : World) (hn : NodeOk TNode (· < w.heap.size) w 2 r m) :
  CallsIn F n Tryz.prog 87 #[.agg #[r, .int .i64 nv]] w fun e w' => ∃ v, e = .returned v ∧ w'.ownsRow w.heap.size 74 2 v (items m).length ((items m).flatMap refE) ∧ Below w.heap.size w w' := by
 have hdd : ∀ k : Nat, (F.depth.isSome = true → 1 ≤ k) := fun k h => by rw [hd] at h; cases h
 have h1n : 1 ≤ n := by omega
 obtain ⟨q, rfl⟩ := NodeOk.ptr hn
 obtain ⟨i0, hi, hz0, hz1, hz2⟩ := info_parts info_map
 have HAL := Lib.hid (fun W => all_in F (n - 1) hdd h3 h2 hro q nv W)
 have HN := Lib.hid hn
 have hl := items_len m
 have hl2 := cnt_le m
 have HLL := Lib.hid (show (items m).length ≤ 4096 by omega)
 clear hn hl hl2
 refine callsIn_of_wp_marks Tryz.func87 rfl h0 ?_ hro
 simp only [Tryz.ntmps87, List.size_toArray, List.length_cons, List.length_nil, Nat.reduceAdd, Nat.reduceSub, Array.replicate_succ, Array.replicate_zero, List.push_toArray, List.append_toArray, List.nil_append, List.cons_append]
 gi_wp2_with ((try refine ⟨hdd _, ?_⟩); gi_at_call 50; refine (HAL.out _).mono ?_; rintro e w' ⟨rfl, hb, hr⟩)
 simp only [World.size_alloc] at hb hr ⊢
 have bO := Boxed.new (w.alloc (.cells #[.pointer q, .int .i64 nv] TTree)) 75 (.slice none 0 0)
 rw [World.size_alloc] at bO
 have hb0 : Below w.heap.size w w' := (((Below.refl _ w).alloc (Nat.le_refl _) _).alloc (by simp) _).trans (hb.mono (by omega))
 have bW : Boxed w' (w.heap.size + 1) 75 (.slice none 0 0) := (hb.block _ (by omega)).trans bO
 have hsz' : w.heap.size + 1 + 1 ≤ w'.heap.size := by have := hb.size; simp only [World.size_alloc] at this; exact this
 refine wpIn_rangeFunc_ownF hro h1n (gf := 100) (lb := #[.pointer (some ⟨w.heap.size + 1 + 1 + 1, 0, none⟩), .pointer (some ⟨w.heap.size + 1 + 1 + 1 + 1, 0, none⟩), .pointer (some ⟨w.heap.size + 1 + 1 + 1 + 2, 0, none⟩)]) rfl h1 (enters_of Tryz.func100 (by kernel_rfl) rfl)
  (all_stops F hd (n - 1) h1 h4 hro (w.heap.size + 1 + 1 + 1) w.heap.size (.pointer q) m w' hr (by omega) (NodeOk.below hb0 HN.out)) belowK_t (belowK_b (by omega)) (Below.refl _ _) (fun _ => rfl)
  (fun pre W => (∃ v, Boxed W (w.heap.size + 1) 75 v ∧ W.ownsRow w.heap.size 74 2 v pre.length (pre.flatMap refE) ∧ True) ∧ Below w.heap.size w W)
  (fun _ _ _ => False)
  (OwnFrom.and (Own.from (holdsRow_own w.heap.size (w.heap.size + 1) 75 74 2 (fun pre : List (Nat × Int) => pre.length) (fun pre => pre.flatMap refE) (fun _ _ => True)) _) (ownFrom_below (Nat.le_refl _) (by omega)))
  (fun _ _ _ _ _ hs _ _ => hs)
  ⟨⟨_, bW, World.ownsRow_nil _ _ _ _, trivial⟩, hb0⟩
  (fun x => { tmps := #[.agg #[.pointer q, .int .i64 nv], .pointer (some ⟨w.heap.size, 0, none⟩), .pointer (some ⟨w.heap.size + 1, 0, none⟩), .int .i64 (x.1 : Int), .int .i64 x.2, .agg #[.pointer q, .int .i64 nv],
   .func (.func 100) #[] #[.pointer (some ⟨w.heap.size + 1 + 1 + 1, 0, none⟩), .pointer (some ⟨w.heap.size + 1 + 1 + 1 + 1, 0, none⟩), .pointer (some ⟨w.heap.size + 1 + 1 + 1 + 2, 0, none⟩)], .int .i64 (x.1 : Int), .int .i64 x.2, undef, undef, undef, undef, undef, undef, undef], defers := [] }) ?assign ?body ?done ?stop
 case assign =>
  intro l x W K hK
  gi_wp2
  exact hK
 case body =>
  rintro l pre x W ⟨⟨v, hv, hrow, _⟩, hB⟩ hpl
  have hc := hv.cell
  have hps := HLL.out
  gi_wp2_with (gi_at_builtin; refine wpListIn_append_own _ rfl _ _ 75 rfl w.heap.size 74 i0 (.agg #[.int .i64 0, .int .i64 0]) 2 16 Tryz.underlying75 hi hz0 hz1 hz2 rfl (by decide) _ _ _ rfl (hrow.alloc _) ⟨W.heap.size, 0, none⟩ 1 1 (refE x) rfl rfl ?_ (by simp [refE, Value.oneCell']) (by unfold maxLen; omega) (by omega) (by have := hB.size; simp; omega) ?_)
  ·intro j u hu
   match j, hu with
   | 0, hu => rw [Addr.add_mid, cells_at (heap_alloc_new _ _)]; simpa [refE] using hu
   | 1, hu => rw [Addr.add_mid, cells_at (heap_alloc_new _ _)]; simpa [refE] using hu
  intro v' w1 hown' hgrow _
  obtain ⟨g', cap', rfl⟩ := ownsRow_succ hown'
  obtain ⟨hv1, hv2, hr2, hk2, hb2⟩ := hv.appended (by decide) hrow hB.size (Nat.le_succ _) hown' hgrow
  have hc1 := hv1.cell
  have hf1 := hv1.frozen
  gi_wp2
  exact ⟨hk2, hb2, ⟨_, hv2, by rw [List.flatMap_append, List.length_append]; simpa using hr2, trivial⟩, hB.trans hb2⟩
 case done =>
  rintro D ys W hD rfl ⟨⟨v, hv, hrow, _⟩, hB⟩ hK
  obtain ⟨va, vc, rfl⟩ := ownsRow_slice hrow
  have hc := hv.cell
  have hf := hv.frozen
  gi_wp2
  have hBD : D ≠ w.heap.size + 1 := by omega
  have hK2 : (W.setCell ⟨w.heap.size + 1, 0, none⟩ (.slice va (items m).length vc)).heap[D]? = some (.deferred (some [])) := (heap_setCell_other W ⟨w.heap.size + 1, 0, none⟩ D _ hBD).trans hK
  have hv2 := hv.set (.slice va (items m).length vc)
  have hv3 := hv2.kept (grownBy_putObj' _ D (.deferred none)) (by simp; omega)
  have hB2 := hB.setCell (p := ⟨w.heap.size + 1, 0, none⟩) (Nat.le_succ _) (.slice va (items m).length vc)
  refine ⟨by simp, .inl ⟨_, _, rfl, run_takeDeferred hK2, ?_⟩⟩
  refine ⟨_, ?_, _, rfl, ownsRow_putObj (hrow.kept (grownBy_setCell' W (w.heap.size + 1) _) (.inr (hv.not_row (by decide) hrow).symm)) _ hK2 rfl, hB2.trans (belowK_b (w := w) (Nat.le_refl _) _ D _ _ (by omega) hK2 rfl rfl)⟩
  have hc3 := hv3.cell
  unfold results
  simp [Tryz.results87, go_sem, hc3]
 case stop =>
  rintro D c pre W _ _ h _
  exact h.elim
end Go.Proofs.YteikbikopgabjaaGreatDoor
end
section
namespace Go.Proofs.YteikbikopgabjaaGreatDoor
open Go.RowKit Go.Vol Go.Sl
theorem mappingsO_any (nv : Int) (r : Value) (m : MapM) (w : World) (hn : NodeAt TNode w 2 r m) :
  Calls Tryz.prog 87 #[.agg #[r, .int .i64 nv]] w fun e w' => ∃ v, e = .returned v ∧ Hid (Same w w' ∧ Sat w' (ownAt TMp 2 v (items m).length ((items m).flatMap refE) * old w)) :=
 callsIn_wide.1 ((mappings_in Fence.wide rfl 3 (by omega) trivial trivial trivial trivial trivial rfl nv r m w (NodeOk.weaken (fun j _ hj => hj) hn)).mono fun e w' ⟨v, h1, h2, h3⟩ => ⟨v, h1, (Same.refl w).below h3, Sat.ownRow (Sat.old w) h3.block (Nat.le_refl _) h2⟩)
set_option maxRecDepth 20000 in
set_option maxHeartbeats 1000000 in
theorem contO_any (p : Nat) (S : SpaceM) (v : Int) (w : World) (hS : SpaceAt TNode TSp w p S) :
  Calls Tryz.prog 62 #[.pointer (some ⟨p, 0, none⟩), .int .i64 v] w fun e w' => ∃ r, e = .returned (.tuple #[r, .int .i64 (contM S v).2]) ∧ Same w w' ∧ Sat w' (ownAt TMp 2 r (contM S v).1.length ((contM S v).1.flatMap refE) * old w) := by
 obtain ⟨lv, ls, hlv, hls, ⟨vv, vs, hp, hrv, hrs⟩, hev, hes⟩ := hS
 obtain ⟨ao, cap, rfl, hvx⟩ := id hrv
 obtain ⟨so, scap, rfl, hsx⟩ := id hrs
 obtain ⟨c0, c1, hpl⟩ := sp_cells hp
 have hat := atvol_any (.slice ao lv.length cap) lv v w hrv
 rcases at_cases hlv v with ⟨hn, hi⟩ | ⟨x, hx, hsome, hi, hlt, hid, hae⟩
 ·have HM := Lib.hid (show contM S v = ([], 12) by unfold contM volF; rw [← atN_find, hn])
  rw [hi] at hat
  have HA := Lib.hid hat
  clear hlv hls hp hrv hrs hev hes hn hi hat
  go_enter Tryz.func62, Tryz.ntmps62
  go_wp2_with (go_at_call 86; refine HA.out.mono ?_; rintro e w1 ⟨rfl, h2⟩)
  go_ret2
  refine ⟨_, by rw [HM.out]; rfl, (Same.refl w).below h2, ?_⟩
  rw [HM.out]
  exact ownAt_nil.2 ((Sat.old w).below h2)
 ·have HM := Lib.hid (show contM S v = (items x.1.m, 0) by unfold contM volF; rw [← atN_find, hsome])
  rw [hi] at hat
  have HA := Lib.hid hat
  obtain ⟨g, rfl, hgl, e0, e1, e2, e3⟩ := vol_cells hrv hx
  have hN := hev x (List.mem_of_getElem? hx)
  obtain ⟨q, hq⟩ := NodeAt.ptr hN
  rw [hq] at e2 hN
  have HK := Lib.hid (And.intro hN (And.intro e2 (And.intro e3 (And.intro c0 (And.intro hgl hpl)))))
  have HG := Lib.hid (fun (W : World) (hb : Below w.heap.size w W) => mappingsO_any (cnt x.1.m : Int) (.pointer q) x.1.m W (NodeAt.below hb HK.out.1))
  have hlen : lv.length ≤ 9223372036854775807 := by
   obtain ⟨_, _, e, h2, h3, _⟩ := hrv
   unfold maxLen at h3; simp only [Value.slice.injEq] at e; omega
  generalize atE lv v = i at *
  clear hlv hls hp hrv hrs hev hes hsome hi hat hN hq hid hae hx hvx hsx
  go_enter Tryz.func62, Tryz.ntmps62
  go_wp2_with (first
   | (go_at_call 86; refine HA.out.mono ?_; rintro e w1 ⟨rfl, h2⟩; clear e0 e1 e2 e3 c0 c1; have e2 := (h2.cell (p := ⟨g, i * 4 + 2, none⟩) HK.out.2.2.2.2.1).trans HK.out.2.1; have e3 := (h2.cell (p := ⟨g, i * 4 + 3, none⟩) HK.out.2.2.2.2.1).trans HK.out.2.2.1; have c0 := (h2.cell (p := ⟨p, 0, none⟩) HK.out.2.2.2.2.2).trans HK.out.2.2.2.1)
   | (go_at_call 87; refine (HG.out _ h2).mono ?_; rintro e w2 ⟨r, rfl, h3⟩))
  go_ret2
  refine ⟨_, by rw [HM.out]; rfl, ((Same.refl w).below h2).trans h3.out.1, ?_⟩
  rw [HM.out]
  exact h3.out.2.of_all ((Sat.old w).below h2)
set_option maxRecDepth 20000 in
set_option maxHeartbeats 1000000 in
theorem imgO_any (p : Nat) (S : SpaceM) (v : Int) (w : World) (hS : SpaceAt TNode TSp w p S) :
  Calls Tryz.prog 64 #[.pointer (some ⟨p, 0, none⟩), .int .i64 v] w fun e w' => ∃ r, e = .returned (.tuple #[r, .int .i64 (imageM S v).2]) ∧ Same w w' ∧ Sat w' (ownAt TMp 2 r (imageM S v).1.length ((imageM S v).1.flatMap refE) * old w) := by
 obtain ⟨lv, ls, hlv, hls, ⟨vv, vs, hp, hrv, hrs⟩, hev, hes⟩ := hS
 obtain ⟨ao, cap, rfl, hvx⟩ := id hrv
 obtain ⟨so, scap, rfl, hsx⟩ := id hrs
 obtain ⟨c0, c1, hpl⟩ := sp_cells hp
 have hat := atsnap_any (.slice so ls.length scap) ls v w hrs
 rcases at_cases hls v with ⟨hn, hi⟩ | ⟨x, hx, hsome, hi, hlt, hid, hae⟩
 ·have HM := Lib.hid (show imageM S v = ([], 12) by unfold imageM snapF; rw [← atN_find, hn])
  rw [hi] at hat
  have HA := Lib.hid hat
  clear hlv hls hp hrv hrs hev hes hn hi hat
  go_enter Tryz.func64, Tryz.ntmps64
  go_wp2_with (go_at_call 88; refine HA.out.mono ?_; rintro e w1 ⟨rfl, h2⟩)
  go_ret2
  refine ⟨_, by rw [HM.out]; rfl, (Same.refl w).below h2, ?_⟩
  rw [HM.out]
  exact ownAt_nil.2 ((Sat.old w).below h2)
 ·have HM := Lib.hid (show imageM S v = (items x.1.m, 0) by unfold imageM snapF; rw [← atN_find, hsome])
  rw [hi] at hat
  have HA := Lib.hid hat
  obtain ⟨g, rfl, hgl, e0, e1, e2, e3, e4⟩ := snap_cells hrs hx
  have hN := hes x (List.mem_of_getElem? hx)
  obtain ⟨q, hq⟩ := NodeAt.ptr hN
  rw [hq] at e2 hN
  have HK := Lib.hid (And.intro hN (And.intro e2 (And.intro e3 (And.intro c1 (And.intro hgl hpl)))))
  have HG := Lib.hid (fun (W : World) (hb : Below w.heap.size w W) => mappingsO_any (cnt x.1.m : Int) (.pointer q) x.1.m W (NodeAt.below hb HK.out.1))
  have hlen : ls.length ≤ 9223372036854775807 := by
   obtain ⟨_, _, e, h2, h3, _⟩ := hrs
   unfold maxLen at h3; simp only [Value.slice.injEq] at e; omega
  generalize atE ls v = i at *
  clear hlv hls hp hrv hrs hev hes hsome hi hat hN hq hid hae hx hvx hsx
  go_enter Tryz.func64, Tryz.ntmps64
  go_wp2_with (first
   | (go_at_call 88; refine HA.out.mono ?_; rintro e w1 ⟨rfl, h2⟩; clear e0 e1 e2 e3 e4 c0 c1; have e2 := (h2.cell (p := ⟨g, i * 5 + 2, none⟩) HK.out.2.2.2.2.1).trans HK.out.2.1; have e3 := (h2.cell (p := ⟨g, i * 5 + 3, none⟩) HK.out.2.2.2.2.1).trans HK.out.2.2.1; have c1 := (h2.cell (p := ⟨p, 1, none⟩) HK.out.2.2.2.2.2).trans HK.out.2.2.2.1)
   | (go_at_call 87; refine (HG.out _ h2).mono ?_; rintro e w2 ⟨r, rfl, h3⟩))
  go_ret2
  refine ⟨_, by rw [HM.out]; rfl, ((Same.refl w).below h2).trans h3.out.1, ?_⟩
  rw [HM.out]
  exact h3.out.2.of_all ((Sat.old w).below h2)
end Go.Proofs.YteikbikopgabjaaGreatDoor
end
