import Derived.RangeFuncKeeps
import Derived.RangeFuncBound
import Derived.RangeFuncLeaves
import Derived.RangeFuncBox
import Derived.Test.YtbegomjbakidmaaGl
import Derived.Test.YtbegomjbakidmaaGs
/- wal.Append where it writes. -/
namespace Go.Proofs.Ytbegomjbakidmaa
open Go.RowKit Go.Sl Go.ChangeMaps Go.Shelf
attribute [local go_sem] Oper.semAt_some

def pairAct (a : Act) (t1 t2 p1 p2 : Tmp) (u v : Value) : Act := { tmps := (((a.tmps.setIfInBounds t1 u).setIfInBounds t2 v).setIfInBounds p1 u).setIfInBounds p2 v, defers := [] }
theorem wrN_succ (S : ShelfM) (d : Int) (t : TailM) (g : GenM) (r : List UInt8) (k : Nat) (h : (wrN S d t g r k).2 = 0) : wrN S d t g r (k + 1) = (wrN S d t g r k).1.write ⟨d, 1, t.next + (k : Int)⟩ (sealL ⟨d, 1, t.next + (k : Int)⟩ g (payL t r k)) := by
  show (if _ then _ else _) = _
  rw [if_neg (by rw [h]; simp)]
theorem wrN_stop {S : ShelfM} {d : Int} {t : TailM} {g : GenM} {r : List UInt8} {k : Nat} (h : (wrN S d t g r k).2 ≠ 0) : ∀ m, wrN S d t g r (k + m) = wrN S d t g r k
  | 0 => rfl
  | m + 1 => by
    have e := wrN_stop h m
    show (if (wrN S d t g r (k + m)).2 ≠ 0 then wrN S d t g r (k + m) else _) = _
    rw [e, if_pos h]
theorem wpIn_rangeFunc_pair {α : Type} {F : Fence} {n : Nat} {P : Program} {g : Operand} {t1 t2 p1 p2 : Tmp} {u v : α → Value} {assign body : Code} {Q : Exit → Act → World → Prop} {a : Act} {w : World}
    (hro : F.round = none) (h1 : 1 ≤ n) {gf : Nat} {lb : Array Value} (hg : a.eval g = .func (.func gf) #[] lb) (hFg : F.fn gf) (eg : ∀ args w, (callFunc gf args).run P w = .ok (.enter gf args) w)
    {xs : List α} {Bx : HProp} {w0 : World} (hseq : SeqSat F (n - 1) P gf lb (fun x => #[u x, v x]) xs Bx w0)
    (R : Nat → HProp) (Rx : Code → HProp) (hsm : Same w0 w) (h0 : Sat w (R 0 * Bx))
    (hassign : ∀ (l : Nat) (x : α) (W : World) (K : Act → World → Prop), K (pairAct a t1 t2 p1 p2 (u x) (v x)) W → assign.wpIn (F.inRound l) (n - 1 - 1) P (Exit.then K (fun _ _ _ => False)) { tmps := (a.tmps.setIfInBounds t1 (u x)).setIfInBounds t2 (v x), defers := [] } W)
    (hbody : ∀ (l i : Nat) (x : α) (G : HProp) (W : World), xs[i]? = some x → Same w0 W → Sat W (R i * G) → body.wpIn (F.inRound l) (n - 1 - 1) P (satPost w0 (R (i + 1)) Rx G) (pairAct a t1 t2 p1 p2 (u x) (v x)) W)
    (hdone : ∀ (D : Nat) (W : World), Same w0 W → Sat W (R xs.length * (pts D (.deferred (some [])) * Bx)) → Q .normal { a with defers := { target := .collected D, args := #[] } :: a.defers } W)
    (hstop : ∀ (D : Nat) (c : Code) (W : World), Same w0 W → Sat W (Rx c * (pts D (.deferred (some [])) * Bx)) → c.wpIn F n P Q { a with defers := { target := .collected D, args := #[] } :: a.defers } W) :
    (Code.rangeFunc g #[t1, t2] assign body).wpIn F n P Q a w :=
  wpIn_rangeFunc_sat hro h1 hg hFg eg hseq (fun _ => rfl) R Rx hsm h0 (fun x => pairAct a t1 t2 p1 p2 (u x) (v x)) (fun l x W K hK => by
    have h := hassign l x W K hK
    simpa using h) hbody hdone hstop
/-- What a round leaves, and how the rounds may be left. -/
def apR (S : ShelfM) (p B : Nat) (d : Int) (t : TailM) (g : GenM) (r : List UInt8) (F : HProp) (i : Nat) : HProp := lift ((wrN S d t g r i).2 = 0) * apB B p d t g 0 zTail (shelfAt SH p (wrN S d t g r i).1 * F)
def apX (S : ShelfM) (p B : Nat) (d : Int) (t : TailM) (g : GenM) (r : List UInt8) (F : HProp) (c : Code) : HProp := match c with
  | .ret => lift ((wrN S d t g r (recN r)).2 ≠ 0) * apB B p d t g (wrN S d t g r (recN r)).2 zTail (shelfAt SH p (wrN S d t g r (recN r)).1 * F)
  | _ => lift False
theorem apB_frame (B p : Nat) (d e : Int) (t : TailM) (g : GenM) (c : Array Value) (X G : HProp) : apB B p d t g e c X * G = apB B p d t g e c (X * G) := by unfold apB; ac_rfl
theorem apB_D (B p : Nat) (d e : Int) (t : TailM) (g : GenM) (c : Array Value) (X Y D Z : HProp) : apB B p d t g e c (X * (Y * (D * Z))) = D * apB B p d t g e c (X * (Y * Z)) := by unfold apB; ac_rfl
/-- What Append answers where nothing bars it. -/
def AppOut (p : Nat) (S : ShelfM) (F : HProp) (d : Int) (t : TailM) (g : GenM) (r : List UInt8) (w : World) (e : Ending) (w' : World) : Prop :=
  ∃ t' : TailM, ((wrN S d t g r (recN r)).2 = 0 → t' = ⟨t.next + (recN r : Int), t.number + 1, g⟩) ∧ ((wrN S d t g r (recN r)).2 ≠ 0 → t' = noTail) ∧ e = .returned (.tuple #[.agg (tailA t'), .int .i64 (wrN S d t g r (recN r)).2]) ∧ Hid (Same w w' ∧ Sat w' (shelfAt SH p (wrN S d t g r (recN r)).1 * F))
set_option maxHeartbeats 4000000 in
set_option maxRecDepth 100000 in
theorem append_in (F' : Fence) (hF : Free F' Try.prog) (n : Nat) (hn3 : 3 ≤ n) (p : Nat) (S : ShelfM) (F : HProp) (d : Int) (nx ep cn : Int) (nu ge gc : Nat) (r : List UInt8) (bv bg bn : Bool) (hbv : (decide (0 ≤ d) && decide (d < S.cfg.disks) && tailV ⟨nx, (nu : Int), ⟨(ge : Int), (gc : Int)⟩⟩) = bv) (hbg : genV ⟨ep, cn⟩ = bg) (hbn : newerM ⟨ep, cn⟩ ⟨(ge : Int), (gc : Int)⟩ = bn) (HRL : (r.length : Int) ≤ 4611686018427387904) (hv : bv = true) (hg : bg = true) (hn : bn = true) (hl : r.length ≤ 4096) (hnx : 0 ≤ nx ∧ nx ≤ 2147483647) (hnu : nu ≤ 2147483647) (hge : ge < 4294967296) (hgc : gc < 4294967296) (hfit : nx + (recN r : Int) ≤ logN S.cfg) (hd : 0 ≤ d ∧ d < 64) (hseal : ∀ k : Nat, k < recN r → sealOK ⟨d, 1, nx + (k : Int)⟩ ⟨ep, cn⟩ (payL ⟨nx, (nu : Int), ⟨(ge : Int), (gc : Int)⟩⟩ r k) = true) (w : World) (hS : Sat w (shelfAt SH p S * F)) :
    CallsIn F' n Try.prog 15 #[.pointer (some ⟨p, 0, none⟩), .int .i64 d, .agg (tailA ⟨nx, (nu : Int), ⟨(ge : Int), (gc : Int)⟩⟩), .agg (genA ⟨ep, cn⟩), .string (strB r)] w (AppOut p S F d ⟨nx, (nu : Int), ⟨(ge : Int), (gc : Int)⟩⟩ ⟨ep, cn⟩ r w) := by
  have hdd : ∀ k : Nat, (F'.depth.isSome = true → 1 ≤ k) := hF.ask
  have hro := hF.round
  have hfn := hF.fn
  have h1n : 1 ≤ n := by omega
  have HCF := Lib.hid (show ∀ (W : World) (B : Nat), Sat W (apB B p d ⟨nx, (nu : Int), ⟨(ge : Int), (gc : Int)⟩⟩ ⟨ep, cn⟩ 0 zTail (shelfAt SH p S * F)) → Calls Try.prog 31 #[.pointer (some ⟨p, 0, none⟩)] W fun e w' => e = .returned (.agg (cfgA S.cfg)) ∧ Below W.heap.size W w' from fun W B h => config_any p S F W (ap_rest h))
  have hlg := (shelfAt_wf hS).cfg.log
  have HWS := Lib.hid (fun W => wsectors_any S.cfg hlg.2 (by omega) W)
  have hsum : IntKind.i64.wrap (nx + (recN r : Int)) = nx + (recN r : Int) := IntWalk.i64_in _ (by have := recN_eq r; omega)
  clear hlg
  have hfu : ¬ logN S.cfg < nx + (recN r : Int) := by omega
  have hsz := fun W => size_any (r.length : Int) (by omega) HRL W
  rw [← recN_val] at hsz
  have HSZ := Lib.hid hsz
  have HV := Lib.hid (show ∀ (W : World) (B : Nat), Sat W (apB B p d ⟨nx, (nu : Int), ⟨(ge : Int), (gc : Int)⟩⟩ ⟨ep, cn⟩ 0 zTail (shelfAt SH p S * F)) → Calls Try.prog 26 #[.pointer (some ⟨p, 0, none⟩), .int .i64 d, .agg (tailA ⟨nx, (nu : Int), ⟨(ge : Int), (gc : Int)⟩⟩)] W fun e w' => e = .returned (.bool bv) ∧ Below W.heap.size W w' from fun W B h => by
    unfold apB at h
    rw [← hbv]
    exact wvalid_any p S F d ⟨nx, (nu : Int), ⟨(ge : Int), (gc : Int)⟩⟩ W h.right.right.right.right.right.right)
  have HVG := Lib.hid (show ∀ W, Calls Try.prog 28 #[.agg (genA ⟨ep, cn⟩)] W fun e w' => e = .returned (.bool bg) ∧ Below W.heap.size W w' from fun W => by rw [← hbg]; exact wvalidGen_any ⟨ep, cn⟩ W)
  have HNW := Lib.hid (show ∀ W, Calls Try.prog 29 #[.agg (genA ⟨ep, cn⟩), .agg (genA ⟨(ge : Int), (gc : Int)⟩)] W fun e w' => e = .returned (.bool bn) ∧ Below W.heap.size W w' from fun W => by rw [← hbn]; exact newer_any ⟨ep, cn⟩ ⟨(ge : Int), (gc : Int)⟩ W)
  have H1 := Lib.hid (show Same w ((((((w.alloc (.cells #[.pointer (some ⟨p, 0, none⟩)] TShP)).alloc (.cells #[.int .i64 d] TInt)).alloc (.cells (tailA ⟨nx, (nu : Int), ⟨(ge : Int), (gc : Int)⟩⟩) TTail)).alloc (.cells (genA ⟨ep, cn⟩) TGen)).alloc (.cells #[.int .i64 0, .int .i64 0, .int .i64 0, .int .i64 0] TTail)).alloc (.cells #[.int .i64 0] TErr)) ∧ Sat ((((((w.alloc (.cells #[.pointer (some ⟨p, 0, none⟩)] TShP)).alloc (.cells #[.int .i64 d] TInt)).alloc (.cells (tailA ⟨nx, (nu : Int), ⟨(ge : Int), (gc : Int)⟩⟩) TTail)).alloc (.cells (genA ⟨ep, cn⟩) TGen)).alloc (.cells #[.int .i64 0, .int .i64 0, .int .i64 0, .int .i64 0] TTail)).alloc (.cells #[.int .i64 0] TErr)) (apB w.heap.size p d ⟨nx, (nu : Int), ⟨(ge : Int), (gc : Int)⟩⟩ ⟨ep, cn⟩ 0 zTail (shelfAt SH p S * F)) from ⟨((((((Same.refl w).alloc _).alloc _).alloc _).alloc _).alloc _).alloc _, ap_new hS⟩)
  have hlen : (strB r).size = r.length := strB_size r
  clear hS hsz hbv hbg hbn HRL
  rw [hv] at HV
  rw [hg] at HVG
  clear hv hg
  rw [hn] at HNW
  have hld : decide ((4096 : Int) < (r.length : Int)) = false := decide_eq_false (by omega)
  clear hn
  refine callsIn_of_wp_marks Try.func15 rfl (hF.fn _) ?_ hF.round
  simp only [Try.ntmps15, List.size_toArray, List.length_cons, List.length_nil, Nat.reduceAdd, Nat.reduceSub, Array.replicate_succ, Array.replicate_zero, List.push_toArray, List.append_toArray, List.nil_append, List.cons_append]
  gi_wp2_with ((try refine ⟨hdd _, ?_⟩); gi_at_call 13; (with_reducible refine (hF.calls _ _ _ _ _ (HSZ.out _)).mono ?_); rintro e w' ⟨rfl, rfl⟩)
  (try refine ⟨hdd _, ?_⟩)
  refine (hF.calls _ _ _ _ _ (HV.out _ _ H1.out.2)).mono ?_
  rintro e w2 ⟨rfl, hb⟩
  replace H1 := Lib.hid (And.intro (H1.out.1.below hb) (ap_below H1.out.2 hb))
  clear hb
  generalize w.heap.size = B at H1 ⊢
  obtain ⟨a0, a1, ⟨t0, t1, t2, t3⟩, ⟨g0', g1'⟩, l0, l1, l2, l3, l4, l5⟩ := ap_cells H1.out.2
  obtain ⟨⟨r0, r1, r2, r3, r4⟩, s0, s1, s2, s3, s4⟩ := ap_res H1.out.2
  gi_wp2_with (first
    | ((try refine ⟨hdd _, ?_⟩); gi_at_call 13; (with_reducible refine (hF.calls _ _ _ _ _ (HSZ.out _)).mono ?_); rintro e w' ⟨rfl, rfl⟩)
    | ((try refine ⟨hdd _, ?_⟩); gi_at_call 26; (with_reducible refine (hF.calls _ _ _ _ _ (HV.out _ _ H1.out.2)).mono ?_); rintro e w2 ⟨rfl, hb⟩; replace H1 := Lib.hid (And.intro (H1.out.1.below hb) (ap_below H1.out.2 hb)); clear a0 a1 t0 t1 t2 t3 g0' g1' l0 l1 l2 l3 l4 l5 r0 r1 r2 r3 r4 s0 s1 s2 s3 s4; clear hb; obtain ⟨a0, a1, ⟨t0, t1, t2, t3⟩, ⟨g0', g1'⟩, l0, l1, l2, l3, l4, l5⟩ := ap_cells H1.out.2; obtain ⟨⟨r0, r1, r2, r3, r4⟩, s0, s1, s2, s3, s4⟩ := ap_res H1.out.2)
    | ((try refine ⟨hdd _, ?_⟩); gi_at_call 28; (with_reducible refine (hF.calls _ _ _ _ _ (HVG.out _)).mono ?_); rintro e w3 ⟨rfl, hb⟩; replace H1 := Lib.hid (And.intro (H1.out.1.below hb) (ap_below H1.out.2 hb)); clear a0 a1 t0 t1 t2 t3 g0' g1' l0 l1 l2 l3 l4 l5 r0 r1 r2 r3 r4 s0 s1 s2 s3 s4; clear hb; obtain ⟨a0, a1, ⟨t0, t1, t2, t3⟩, ⟨g0', g1'⟩, l0, l1, l2, l3, l4, l5⟩ := ap_cells H1.out.2; obtain ⟨⟨r0, r1, r2, r3, r4⟩, s0, s1, s2, s3, s4⟩ := ap_res H1.out.2)
    | ((try refine ⟨hdd _, ?_⟩); gi_at_call 29; (with_reducible refine (hF.calls _ _ _ _ _ (HNW.out _)).mono ?_); rintro e w4 ⟨rfl, hb⟩; replace H1 := Lib.hid (And.intro (H1.out.1.below hb) (ap_below H1.out.2 hb)); clear a0 a1 t0 t1 t2 t3 g0' g1' l0 l1 l2 l3 l4 l5 r0 r1 r2 r3 r4 s0 s1 s2 s3 s4; clear hb; obtain ⟨a0, a1, ⟨t0, t1, t2, t3⟩, ⟨g0', g1'⟩, l0, l1, l2, l3, l4, l5⟩ := ap_cells H1.out.2; obtain ⟨⟨r0, r1, r2, r3, r4⟩, s0, s1, s2, s3, s4⟩ := ap_res H1.out.2)
    | fail)
  clear a0 a1 t0 t1 t2 t3 g0' g1' l0 l1 l2 l3 l4 l5 r0 r1 r2 r3 r4 s0 s1 s2 s3 s4
  replace H1 := Lib.hid (And.intro H1.out.1.drew (show Sat _ (apB B p d ⟨nx, (nu : Int), ⟨(ge : Int), (gc : Int)⟩⟩ ⟨ep, cn⟩ 0 zTail (shelfAt SH p S * F)) from H1.out.2.drew))
  have hS0 := ap_cells2 H1.out.2
  refine regi_begin (fun w' => w'.cell? ⟨B, 0, none⟩ = some (.pointer (some ⟨p, 0, none⟩)) ∧ w'.cell? ⟨B + 1 + 1, 0, none⟩ = some (.int .i64 nx)) (by kernel_rfl) ?_
  (apply regi_take hF 0 rfl rfl (by decide +kernel) rfl); (rintro w' ⟨h1, h2⟩; go_simp; rfl); exact hS0; simp only [List.setIfInBounds_toArray, List.set_cons_succ, List.set_cons_zero]
  (apply regi_take hF 1 rfl rfl (by decide +kernel) rfl); (rintro w' ⟨h1, h2⟩; go_simp; rfl); exact hS0; simp only [List.setIfInBounds_toArray, List.set_cons_succ, List.set_cons_zero]
  (apply regi_take hF 2 rfl rfl (by decide +kernel) rfl); (rintro w' ⟨h1, h2⟩; go_simp; rfl); exact hS0; simp only [List.setIfInBounds_toArray, List.set_cons_succ, List.set_cons_zero]
  (apply regi_take hF 3 rfl rfl (by decide +kernel) rfl); (rintro w' ⟨h1, h2⟩; go_simp; rfl); exact hS0; simp only [List.setIfInBounds_toArray, List.set_cons_succ, List.set_cons_zero]
  (apply regi_take hF 4 rfl rfl (by decide +kernel) rfl); (rintro w' ⟨h1, h2⟩; go_simp; rfl); exact hS0; simp only [List.setIfInBounds_toArray, List.set_cons_succ, List.set_cons_zero]
  refine regi_call hF 5 rfl rfl (by decide +kernel) rfl (f := 31) (args := #[.pointer (some ⟨p, 0, none⟩)]) (R := fun v w' => v = .agg (cfgA S.cfg) ∧ Hid (Below w4.drew.heap.size w4.drew w')) (by kernel_rfl) ((HCF.out _ _ H1.out.2).mono fun e w' h => ⟨_, h.1, rfl, h.2⟩) ?_
  rintro _ w5 ⟨rfl, hb⟩
  replace H1 := Lib.hid (And.intro (H1.out.1.below hb.out) (ap_below H1.out.2 hb.out))
  replace hS0 := ap_cells2 H1.out.2
  refine ⟨hS0, ?_⟩
  simp only [List.setIfInBounds_toArray, List.set_cons_succ, List.set_cons_zero]
  refine regi_call hF 6 rfl rfl (by decide +kernel) rfl (f := 30) (args := #[.agg (cfgA S.cfg)]) (R := fun v w' => v = .int .i64 (logN S.cfg) ∧ Hid (Below w5.heap.size w5 w')) (by kernel_rfl) ((HWS.out w5).mono fun e w' h => ⟨_, h.1, rfl, h.2⟩) ?_
  rintro _ w6 ⟨rfl, hb2⟩
  replace H1 := Lib.hid (And.intro (H1.out.1.below hb2.out) (ap_below H1.out.2 hb2.out))
  replace hS0 := ap_cells2 H1.out.2
  refine ⟨hS0, ?_⟩
  simp only [List.setIfInBounds_toArray, List.set_cons_succ, List.set_cons_zero]
  refine regi_take hF 7 (v := .bool false) rfl rfl (by decide +kernel) rfl (fun w' _ => exec_binop rfl rfl rfl rfl (by simp [go_sem]; omega)) hS0 ?_; simp only [List.setIfInBounds_toArray, List.set_cons_succ, List.set_cons_zero]
  (apply regi_take hF 8 rfl rfl (by decide +kernel) rfl); (rintro w' ⟨h1, h2⟩; go_simp; rfl); exact hS0; simp only [List.setIfInBounds_toArray, List.set_cons_succ, List.set_cons_zero]
  refine regi_done (by decide +kernel) ?_
  clear hb hb2 hS0 hsum
  obtain ⟨a0, a1, ⟨t0, t1, t2, t3⟩, ⟨g0', g1'⟩, l0, l1, l2, l3, l4, l5⟩ := ap_cells H1.out.2
  obtain ⟨⟨r0, r1, r2, r3, r4⟩, s0, s1, s2, s3, s4⟩ := ap_res H1.out.2
  have HSO := Lib.hid (show ∀ k : Nat, k < recN r → sealOK ⟨d, 1, nx + (k : Int)⟩ ⟨ep, cn⟩ (payL ⟨nx, (nu : Int), ⟨(ge : Int), (gc : Int)⟩⟩ r k) = true from hseal)
  have HPY := Lib.hid (fun (W : World) (X : HProp) (h : Sat W X) => payloads_any ⟨nx, (nu : Int), ⟨(ge : Int), (gc : Int)⟩⟩ r X W h)
  gi_wp2_with ((try refine ⟨hdd _, ?_⟩); gi_at_call 32; (with_reducible refine (hF.calls _ _ _ _ _ (HPY.out _ _ H1.out.2)).mono ?_); rintro e w7 ⟨R, T, rfl, h7⟩)
  replace H1 := Lib.hid (And.intro (H1.out.1.trans h7.out.1) h7.out.2)
  clear a0 a1 t0 t1 t2 t3 g0' g1' l0 l1 l2 l3 l4 l5 r0 r1 r2 r3 r4 s0 s1 s2 s3 s4
  clear h7
  refine wpIn_rangeFunc_pair (w0 := w) (t1 := 58) (t2 := 59) (p1 := 13) (p2 := 14) (u := fun x : Nat × List UInt8 => .int .i64 (x.1 : Int)) (v := fun x => .string (strB x.2)) hro h1n (gf := 52) (lb := #[.pointer (some ⟨R, 0, none⟩), .pointer (some ⟨T, 0, none⟩)]) rfl (hfn _) (enters_of Try.func52 (by kernel_rfl) rfl)
    (xs := payXs ⟨nx, (nu : Int), ⟨(ge : Int), (gc : Int)⟩⟩ r) (Bx := payB R T ⟨nx, (nu : Int), ⟨(ge : Int), (gc : Int)⟩⟩ r) (payloads_seq F' hF (n - 1) R T nx nu ge gc r hnu hge hgc hl w) (apR S p B d ⟨nx, (nu : Int), ⟨(ge : Int), (gc : Int)⟩⟩ ⟨ep, cn⟩ r F) (apX S p B d ⟨nx, (nu : Int), ⟨(ge : Int), (gc : Int)⟩⟩ ⟨ep, cn⟩ r F) H1.out.1 ?h0 ?assign ?body ?done ?stop
  case h0 =>
    unfold apR
    rw [star_assoc]
    exact Sat.lift.2 ⟨rfl, H1.out.2.perm (star_comm _ _)⟩
  case assign =>
    intro l x W K hK
    unfold pairAct at hK
    simp only [List.setIfInBounds_toArray, List.set_cons_succ, List.set_cons_zero] at hK ⊢
    gi_wp2
    exact hK
  case body =>
    intro l i x G W hx hsm hs
    have hil : i < recN r := by
      have := (List.getElem?_eq_some_iff.1 hx).1
      rwa [payXs_len] at this
    rw [payXs_at hil] at hx
    cases hx
    unfold apR at hs
    rw [star_assoc] at hs
    obtain ⟨hw0, hs⟩ := Sat.lift.1 hs
    rw [apB_frame, star_assoc] at hs
    have hsucc := wrN_succ S d ⟨nx, (nu : Int), ⟨(ge : Int), (gc : Int)⟩⟩ ⟨ep, cn⟩ r i hw0
    have hi158 : (i : Int) ≤ 158 := by have := recN_eq r; omega
    have hRI : apR S p B d ⟨nx, (nu : Int), ⟨(ge : Int), (gc : Int)⟩⟩ ⟨ep, cn⟩ r F (i + 1) = lift ((wrN S d ⟨nx, (nu : Int), ⟨(ge : Int), (gc : Int)⟩⟩ ⟨ep, cn⟩ r (i + 1)).2 = 0) * apB B p d ⟨nx, (nu : Int), ⟨(ge : Int), (gc : Int)⟩⟩ ⟨ep, cn⟩ 0 zTail (shelfAt SH p (wrN S d ⟨nx, (nu : Int), ⟨(ge : Int), (gc : Int)⟩⟩ ⟨ep, cn⟩ r (i + 1)).1 * F) := rfl
    have hXI : (wrN S d ⟨nx, (nu : Int), ⟨(ge : Int), (gc : Int)⟩⟩ ⟨ep, cn⟩ r (i + 1)).2 ≠ 0 → apX S p B d ⟨nx, (nu : Int), ⟨(ge : Int), (gc : Int)⟩⟩ ⟨ep, cn⟩ r F .ret = lift ((wrN S d ⟨nx, (nu : Int), ⟨(ge : Int), (gc : Int)⟩⟩ ⟨ep, cn⟩ r (i + 1)).2 ≠ 0) * apB B p d ⟨nx, (nu : Int), ⟨(ge : Int), (gc : Int)⟩⟩ ⟨ep, cn⟩ (wrN S d ⟨nx, (nu : Int), ⟨(ge : Int), (gc : Int)⟩⟩ ⟨ep, cn⟩ r (i + 1)).2 zTail (shelfAt SH p (wrN S d ⟨nx, (nu : Int), ⟨(ge : Int), (gc : Int)⟩⟩ ⟨ep, cn⟩ r (i + 1)).1 * F) := fun h => by
      have e := wrN_stop h (recN r - (i + 1))
      rw [show i + 1 + (recN r - (i + 1)) = recN r by omega] at e
      unfold apX
      simp only [e]
    have hok := HSO.out i hil
    simp only at hsucc
    generalize payL ⟨nx, (nu : Int), ⟨(ge : Int), (gc : Int)⟩⟩ r i = pay at hsucc hok ⊢
    generalize (wrN S d ⟨nx, (nu : Int), ⟨(ge : Int), (gc : Int)⟩⟩ ⟨ep, cn⟩ r i).1 = SI at hs hsucc
    have HSE := Lib.hid (show ∀ W' X, Sat W' X → Calls Try.prog 33 #[.agg (plA ⟨d, 1, nx + (i : Int)⟩), .agg (genA ⟨ep, cn⟩), .string (strB pay)] W' fun e w' => e = .returned (.tuple #[.string (strB (sealL ⟨d, 1, nx + (i : Int)⟩ ⟨ep, cn⟩ pay)), .int .i64 0]) ∧ Hid (Same W' w' ∧ Sat w' X) from fun W' X h => seal_any _ _ pay hok X W' h)
    generalize sealL ⟨d, 1, nx + (i : Int)⟩ ⟨ep, cn⟩ pay = sec at hsucc HSE
    obtain ⟨⟨S2, k⟩, hsk⟩ : ∃ x, SI.write ⟨d, 1, nx + (i : Int)⟩ sec = x := ⟨_, rfl⟩
    have HWRI := Lib.hid (show ∀ W' X Y, Sat W' (X * apB B p d ⟨nx, (nu : Int), ⟨(ge : Int), (gc : Int)⟩⟩ ⟨ep, cn⟩ 0 zTail (shelfAt SH p SI * Y)) → Calls Try.prog 34 #[.pointer (some ⟨p, 0, none⟩), .agg (plA ⟨d, 1, nx + (i : Int)⟩), .string (strB sec)] W' fun e w' => e = .returned (.int .i64 k) ∧ Hid (Same W' w' ∧ Sat w' (X * apB B p d ⟨nx, (nu : Int), ⟨(ge : Int), (gc : Int)⟩⟩ ⟨ep, cn⟩ 0 zTail (shelfAt SH p S2 * Y))) from fun W' X Y h => by
      have h2 := swrite_any p SI (X * apB B p d ⟨nx, (nu : Int), ⟨(ge : Int), (gc : Int)⟩⟩ ⟨ep, cn⟩ 0 zTail Y) ⟨d, 1, nx + (i : Int)⟩ sec W' (h.perm (by unfold apB; ac_rfl))
      rw [hsk] at h2
      exact h2.mono fun e w' h' => ⟨h'.1, h'.2.out.1, h'.2.out.2.perm (by unfold apB; ac_rfl)⟩)
    rw [hsk] at hsucc
    rw [hsucc] at hXI hRI
    simp only at hXI hRI
    have HXI := Lib.hid (And.intro hXI hRI)
    clear hXI hRI hsucc hok hsk hw0
    replace H1 := Lib.hid (And.intro hsm hs)
    clear hsm hs
    obtain ⟨a0, a1, ⟨t0, t1, t2, t3⟩, ⟨g0', g1'⟩, l0, l1, l2, l3, l4, l5⟩ := ap_cells H1.out.2
    obtain ⟨⟨r0, r1, r2, r3, r4⟩, s0, s1, s2, s3, s4⟩ := ap_res H1.out.2
    unfold pairAct
    simp only [List.setIfInBounds_toArray, List.set_cons_succ, List.set_cons_zero]
    have H2 := Lib.hid (And.intro (H1.out.1.alloc (.cells (plA ⟨d, 1, nx + (i : Int)⟩) TPl)) (H1.out.2.alloc (.cells (plA ⟨d, 1, nx + (i : Int)⟩) TPl)))
    gi_wp2_with ((try refine ⟨hdd _, ?_⟩); gi_at_call 33; (with_reducible refine (hF.callsR l _ (HSE.out _ _ H2.out.2)).mono ?_); rintro e w8 ⟨rfl, h8⟩; replace H2 := Lib.hid (And.intro (H2.out.1.trans h8.out.1) h8.out.2); clear h8; clear a0 a1 t0 t1 t2 t3 g0' g1' l0 l1 l2 l3 l4 l5 r0 r1 r2 r3 r4 s0 s1 s2 s3 s4; obtain ⟨a0, a1, ⟨t0, t1, t2, t3⟩, ⟨g0', g1'⟩, l0, l1, l2, l3, l4, l5⟩ := ap_cells H2.out.2.right; obtain ⟨⟨r0, r1, r2, r3, r4⟩, s0, s1, s2, s3, s4⟩ := ap_res H2.out.2.right; obtain ⟨pc0, pc1, pc2, plt⟩ := pl_cells3 H2.out.2)
    (try refine ⟨hdd _, ?_⟩)
    refine (hF.callsR l _ (HWRI.out _ _ _ H2.out.2)).mono ?_
    rintro e w9 ⟨rfl, h9⟩
    replace H2 := Lib.hid (And.intro (H2.out.1.trans h9.out.1) h9.out.2)
    clear a0 a1 t0 t1 t2 t3 g0' g1' l0 l1 l2 l3 l4 l5 r0 r1 r2 r3 r4 s0 s1 s2 s3 s4
    clear h9 pc0 pc1 pc2 plt
    by_cases hk : k = 0
    · have hkb : (k != 0) = false := by simp [hk]
      have HK := Lib.hid hk
      clear hk
      dsimp only
      gi_wp2
      refine ⟨H2.out.1, ?_⟩
      rw [HXI.out.2, star_assoc, apB_frame, star_assoc]
      exact Sat.lift.2 ⟨HK.out, H2.out.2.right⟩
    · have hkb : (k != 0) = true := by simp [hk]
      have HK := Lib.hid hk
      clear hk
      obtain ⟨a0, a1, ⟨t0, t1, t2, t3⟩, ⟨g0', g1'⟩, l0, l1, l2, l3, l4, l5⟩ := ap_cells H2.out.2.right
      obtain ⟨⟨r0, r1, r2, r3, r4⟩, s0, s1, s2, s3, s4⟩ := ap_res H2.out.2.right
      dsimp only
      gi_wp2
      have hfin := ap_store H2.out.1 H2.out.2.right (.int .i64 0) (.int .i64 0) (.int .i64 0) (.int .i64 0) k
      refine ⟨hfin.1, ?_⟩
      rw [HXI.out.1 HK.out, star_assoc, apB_frame, star_assoc]
      exact Sat.lift.2 ⟨HK.out, hfin.2⟩
  case done =>
    intro D W hsm hs
    rw [payXs_len] at hs
    unfold apR at hs
    rw [star_assoc] at hs
    obtain ⟨hw0, hs⟩ := Sat.lift.1 hs
    rw [apB_frame, star_assoc] at hs
    replace H1 := Lib.hid (And.intro hsm hs)
    have HW0 := Lib.hid hw0
    clear hsm hs hw0
    obtain ⟨a0, a1, ⟨t0, t1, t2, t3⟩, ⟨g0', g1'⟩, l0, l1, l2, l3, l4, l5⟩ := ap_cells H1.out.2
    obtain ⟨⟨r0, r1, r2, r3, r4⟩, s0, s1, s2, s3, s4⟩ := ap_res H1.out.2
    have hsum2 : (0 : Int) ≤ nx := hnx.1
    have hr158 : (recN r : Int) ≤ 158 := by have := recN_eq r; omega
    have hnx2 : nx ≤ 2147483647 := hnx.2
    gi_wp2
    have hfin := ap_store H1.out.1 H1.out.2 (.int .i64 (nx + (recN r : Int))) (.int .i64 ((nu : Int) + 1)) (.int .i64 ep) (.int .i64 cn) 0
    have hp := hfin.2.perm (apB_D _ _ _ _ _ _ _ _ _ _ _)
    refine ⟨by simp, .inl ⟨_, _, rfl, run_takeDeferred hp.block, ?_⟩⟩
    have hq := (hp.putObj (o' := .deferred none)).right
    refine ⟨_, ap_end hq rfl rfl rfl, ?_⟩
    refine ⟨⟨nx + (recN r : Int), (nu : Int) + 1, ⟨ep, cn⟩⟩, fun _ => rfl, fun h => absurd HW0.out h, by rw [HW0.out], hfin.1.putObj _ _, ?_⟩
    have hz := ap_rest hq
    rw [← star_assoc] at hz
    exact hz.left
  case stop =>
    intro D c W hsm hs
    cases c <;> (unfold apX at hs) <;> (try exact ((Sat.lift.1 hs).1).elim)
    rw [star_assoc] at hs
    obtain ⟨hw0, hs⟩ := Sat.lift.1 hs
    rw [apB_frame, star_assoc] at hs
    gi_wp2
    have hp := hs.perm (apB_D _ _ _ _ _ _ _ _ _ _ _)
    refine ⟨by simp, .inl ⟨_, _, rfl, run_takeDeferred hp.block, ?_⟩⟩
    have hq := (hp.putObj (o' := .deferred none)).right
    refine ⟨_, ap_end hq rfl rfl rfl, ?_⟩
    refine ⟨noTail, fun h => absurd h hw0, fun _ => rfl, rfl, hsm.putObj _ _, ?_⟩
    have hz := ap_rest hq
    rw [← star_assoc] at hz
    exact hz.left
end Go.Proofs.Ytbegomjbakidmaa

/- wal.Append in one; ref.Same; the law's config and text. -/
namespace Go.Proofs.Ytbegomjbakidmaa
open Go.RowKit Go.Sl Go.ChangeMaps

def StrsAt (w : World) (v : Value) (l : List ByteArray) : Prop := ∃ ao cap, v = .slice ao l.length cap ∧ (l ≠ [] → ∃ b off, ao = some ⟨b, off, none⟩ ∧ ∀ j x, l[j]? = some x → w.cell? ⟨b, off + j * 1, none⟩ = some (.string x))
theorem ownAt_strs {w : World} {v : Value} {l : List ByteArray} {F : HProp} {n : Nat} (h : Sat w (ownAt TString 1 v n (l.map Value.string) * F)) : StrsAt w v l := by
  have hl := ownAt_len h
  simp at hl
  subst hl
  obtain ⟨ao, cap, rfl⟩ := ownAt_slice h
  refine ⟨ao, cap, rfl, fun hne => ?_⟩
  obtain ⟨g, cap', he, hc⟩ := ownAt_cells h (List.length_pos_iff.2 hne)
  injection he with h1 h2 h3
  exact ⟨g, 0, h1, fun j x hj => by rw [Nat.zero_add, Nat.mul_one]; exact hc j _ (by rw [List.getElem?_map, hj]; rfl)⟩

theorem bytes_eq {x y : ByteArray} (h : x.toList = y.toList) : x = y := by
  rw [Lib.toList_data, Lib.toList_data] at h
  cases x; cases y; congr 1; exact Array.toList_inj.1 h
theorem run_neq_str {P : Program} {t : TypeId} (w : World) {x y : ByteArray} (b : Bool) (hb : b = !decide (x = y)) : (binOp .neq t (.string x) (.string y)).run P w = .ok (.bool b) w := by
  have e : (x.toList == y.toList) = decide (x = y) := by
    by_cases h : x = y
    · subst h; simp
    · rw [decide_eq_false h]; simp; exact fun h' => h (bytes_eq h')
  simp [binOp, Op.stringOp, e, hb]

structure EqualSt (w : World) (la lb : List ByteArray) (i : Value) (wr : World) : Prop where
  st : ∃ k : Nat, k ≤ la.length ∧ i = .int .i64 k ∧ la.take k = lb.take k ∧ Below w.heap.size w wr

set_option maxHeartbeats 400000 in
theorem same18_any (va vb : Value) (la lb : List ByteArray) (w : World) (ha : StrsAt w va la) (hb : StrsAt w vb lb) (hm : la.length ≤ 4611686018427387904) :
    Calls Try.prog 14 #[va, vb] w fun e w' => e = .returned (.bool (decide (la = lb))) ∧ Below w.heap.size w w' := by
  obtain ⟨aa, ca, rfl, ha0⟩ := ha
  obtain ⟨ab, cb, rfl, hb0⟩ := hb
  by_cases hl : la.length = lb.length
  · by_cases hne : la = []
    · have hne' : lb = [] := by apply List.eq_nil_of_length_eq_zero; rw [← hl, hne]; rfl
      subst hne hne'
      clear ha0 hb0 hl
      go_enter Try.func14, Try.ntmps14
      go_wp2
      go_loopw [5] (fun i wr => i = .int .i64 0 ∧ wr = w) (fun i _ => 0)
      case atStart => exact ⟨rfl, rfl⟩
      case round =>
        obtain ⟨rfl, rfl⟩ := hrel
        go_wp2
        go_ret
        exact ⟨rfl, Below.refl _ _⟩
    obtain ⟨ba, oa, rfl, ha⟩ := ha0 hne
    obtain ⟨bb, ob, rfl, hb⟩ := hb0 (by rintro rfl; apply hne; apply List.eq_nil_of_length_eq_zero; rw [hl]; rfl)
    have hq : ((la.length : Int) != (lb.length : Int)) = false := by simp; omega
    have HL := Lib.hid hl
    have HA := Lib.hid ha
    have HB := Lib.hid hb
    obtain ⟨ti3, hti3, hz03, hts3, hz23⟩ := info_parts (show (Try.prog.info? 9).map (fun i => (i.zero, i.size, i.bytes)) = some (some (.string ByteArray.empty), 1, 16) from by kernel_rfl)
    clear ha0 hb0 ha hb hl hz03 hz23
    go_enter Try.func14, Try.ntmps14
    go_wp2
    go_loopw [5] (fun i wr => EqualSt w la lb i wr) (fun i _ => la.length - (intOf i).toNat)
    case atStart => exact ⟨⟨0, Nat.zero_le _, rfl, rfl, Below.refl _ _⟩⟩
    case round =>
      obtain ⟨k, hk, rfl, htk, hbw⟩ := hrel.st
      clear hrel
      have HT := Lib.hid htk
      have HBW := Lib.hid hbw
      by_cases hlt : k < la.length
      · have hltd : decide ((k : Int) < (la.length : Int)) = true := decide_eq_true (by omega)
        have hl2 := HL.out
        have hki : (k : Int) ≤ 4611686018427387904 := by omega
        obtain ⟨x, hx⟩ : ∃ x, la[k]? = some x := ⟨_, List.getElem?_eq_getElem hlt⟩
        obtain ⟨y, hy⟩ : ∃ y, lb[k]? = some y := ⟨_, List.getElem?_eq_getElem (by omega)⟩
        have hlt2 : k < lb.length := by omega
        have c1 : wr.cell? ⟨ba, oa + k * 1, none⟩ = some (.string x) := (hbw.cell (World.block_lt_of_cell? _ _ (HA.out k x hx))).trans (HA.out k x hx)
        have c2 : wr.cell? ⟨bb, ob + k * 1, none⟩ = some (.string y) := (hbw.cell (World.block_lt_of_cell? _ _ (HB.out k y hy))).trans (HB.out k y hy)
        have HX := Lib.hid hx
        have HY := Lib.hid hy
        clear hx hy hl2 htk hbw
        by_cases hxy : x = y
        · subst hxy
          go_upto_region 6 with (fail)
          have hS0 : wr.drew.cell? ⟨ba, oa + k * 1, none⟩ = some (.string x) ∧ wr.drew.cell? ⟨bb, ob + k * 1, none⟩ = some (.string x) := ⟨c1, c2⟩
          refine reg_begin (fun w' => w'.cell? ⟨ba, oa + k * 1, none⟩ = some (.string x) ∧ w'.cell? ⟨bb, ob + k * 1, none⟩ = some (.string x)) (by kernel_rfl) ?_
          (apply reg_take 0 rfl rfl (by decide +kernel) rfl); (rintro w' ⟨h1, h2⟩; go_simp; rfl); exact hS0; simp only [List.setIfInBounds_toArray, List.set_cons_succ, List.set_cons_zero]
          (apply reg_take 1 rfl rfl (by decide +kernel) rfl); (rintro w' ⟨h1, h2⟩; go_simp; rfl); exact hS0; simp only [List.setIfInBounds_toArray, List.set_cons_succ, List.set_cons_zero]
          refine reg_take 2 (v := .pointer (some ⟨ba, oa + k * 1, none⟩)) rfl rfl (by decide +kernel) rfl (fun _ _ => exec_index_slice rfl rfl rfl Try.underlying22 hti3 hts3 hlt) hS0 ?_; simp only [List.setIfInBounds_toArray, List.set_cons_succ, List.set_cons_zero]
          refine reg_take 3 (v := .string x) rfl rfl (by decide +kernel) rfl (fun _ h => exec_load_cell rfl rfl Try.underlying9 rfl h.1) hS0 ?_; simp only [List.setIfInBounds_toArray, List.set_cons_succ, List.set_cons_zero]
          (apply reg_take 4 rfl rfl (by decide +kernel) rfl); (rintro w' ⟨h1, h2⟩; go_simp; rfl); exact hS0; simp only [List.setIfInBounds_toArray, List.set_cons_succ, List.set_cons_zero]
          (apply reg_take 5 rfl rfl (by decide +kernel) rfl); (rintro w' ⟨h1, h2⟩; go_simp; rfl); exact hS0; simp only [List.setIfInBounds_toArray, List.set_cons_succ, List.set_cons_zero]
          refine reg_take 6 (v := .pointer (some ⟨bb, ob + k * 1, none⟩)) rfl rfl (by decide +kernel) rfl (fun _ _ => exec_index_slice rfl rfl rfl Try.underlying22 hti3 hts3 hlt2) hS0 ?_; simp only [List.setIfInBounds_toArray, List.set_cons_succ, List.set_cons_zero]
          refine reg_take 7 (v := .string x) rfl rfl (by decide +kernel) rfl (fun _ h => exec_load_cell rfl rfl Try.underlying9 rfl h.2) hS0 ?_; simp only [List.setIfInBounds_toArray, List.set_cons_succ, List.set_cons_zero]
          refine reg_take 8 (v := .bool false) rfl rfl (by decide +kernel) rfl (fun w' _ => exec_binop rfl rfl rfl rfl (run_neq_str w' false (by simp))) hS0 ?_; simp only [List.setIfInBounds_toArray, List.set_cons_succ, List.set_cons_zero]
          refine reg_done (by decide +kernel) ?_
          go_wp2
          go_roundw
          case rel =>
            refine ⟨⟨k + 1, hlt, rfl, ?_, HBW.out.drew⟩⟩
            rw [List.take_add_one, List.take_add_one, HT.out, HX.out, HY.out]
          case measure =>
            simp only [intOf]; omega
        · skip
          go_upto_region 6 with (fail)
          have hS0 : wr.drew.cell? ⟨ba, oa + k * 1, none⟩ = some (.string x) ∧ wr.drew.cell? ⟨bb, ob + k * 1, none⟩ = some (.string y) := ⟨c1, c2⟩
          refine reg_begin (fun w' => w'.cell? ⟨ba, oa + k * 1, none⟩ = some (.string x) ∧ w'.cell? ⟨bb, ob + k * 1, none⟩ = some (.string y)) (by kernel_rfl) ?_
          (apply reg_take 0 rfl rfl (by decide +kernel) rfl); (rintro w' ⟨h1, h2⟩; go_simp; rfl); exact hS0; simp only [List.setIfInBounds_toArray, List.set_cons_succ, List.set_cons_zero]
          (apply reg_take 1 rfl rfl (by decide +kernel) rfl); (rintro w' ⟨h1, h2⟩; go_simp; rfl); exact hS0; simp only [List.setIfInBounds_toArray, List.set_cons_succ, List.set_cons_zero]
          refine reg_take 2 (v := .pointer (some ⟨ba, oa + k * 1, none⟩)) rfl rfl (by decide +kernel) rfl (fun _ _ => exec_index_slice rfl rfl rfl Try.underlying22 hti3 hts3 hlt) hS0 ?_; simp only [List.setIfInBounds_toArray, List.set_cons_succ, List.set_cons_zero]
          refine reg_take 3 (v := .string x) rfl rfl (by decide +kernel) rfl (fun _ h => exec_load_cell rfl rfl Try.underlying9 rfl h.1) hS0 ?_; simp only [List.setIfInBounds_toArray, List.set_cons_succ, List.set_cons_zero]
          (apply reg_take 4 rfl rfl (by decide +kernel) rfl); (rintro w' ⟨h1, h2⟩; go_simp; rfl); exact hS0; simp only [List.setIfInBounds_toArray, List.set_cons_succ, List.set_cons_zero]
          (apply reg_take 5 rfl rfl (by decide +kernel) rfl); (rintro w' ⟨h1, h2⟩; go_simp; rfl); exact hS0; simp only [List.setIfInBounds_toArray, List.set_cons_succ, List.set_cons_zero]
          refine reg_take 6 (v := .pointer (some ⟨bb, ob + k * 1, none⟩)) rfl rfl (by decide +kernel) rfl (fun _ _ => exec_index_slice rfl rfl rfl Try.underlying22 hti3 hts3 hlt2) hS0 ?_; simp only [List.setIfInBounds_toArray, List.set_cons_succ, List.set_cons_zero]
          refine reg_take 7 (v := .string y) rfl rfl (by decide +kernel) rfl (fun _ h => exec_load_cell rfl rfl Try.underlying9 rfl h.2) hS0 ?_; simp only [List.setIfInBounds_toArray, List.set_cons_succ, List.set_cons_zero]
          refine reg_take 8 (v := .bool true) rfl rfl (by decide +kernel) rfl (fun w' _ => exec_binop rfl rfl rfl rfl (run_neq_str w' true (by simp [hxy]))) hS0 ?_; simp only [List.setIfInBounds_toArray, List.set_cons_succ, List.set_cons_zero]
          refine reg_done (by decide +kernel) ?_
          go_wp2
          go_ret
          have hd : decide (la = lb) = false := decide_eq_false (by rintro rfl; apply hxy; have h1 := HX.out; rw [HY.out] at h1; exact (Option.some.inj h1).symm)
          rw [hd]
          exact ⟨rfl, HBW.out.drew⟩
      · have hke : k = la.length := by omega
        have hltd : decide ((k : Int) < (la.length : Int)) = false := decide_eq_false (by omega)
        clear htk hbw
        go_wp2
        go_ret
        have hd : decide (la = lb) = true := decide_eq_true (by have := HT.out; rwa [hke, List.take_length, HL.out, List.take_length] at this)
        rw [hd]
        exact ⟨rfl, HBW.out⟩
  · have hq : ((la.length : Int) != (lb.length : Int)) = true := by simp; omega
    have hd : decide (la = lb) = false := decide_eq_false (by rintro rfl; exact hl rfl)
    rw [hd]
    clear hl ha0 hb0 hd
    go_enter Try.func14, Try.ntmps14
    go_wp2
    go_ret
    exact ⟨rfl, Below.refl _ _⟩


theorem map_strB_inj {l m : List (List UInt8)} : l.map strB = m.map strB ↔ l = m := by
  constructor
  · intro h
    have e : ∀ (a b : List (List UInt8)), a.map strB = b.map strB → a = b := by
      intro a
      induction a with
      | nil => intro b h; cases b with
        | nil => rfl
        | cons _ _ => cases h
      | cons x r ih => intro b h; cases b with
        | nil => cases h
        | cons y q =>
          simp only [List.map_cons, List.cons.injEq] at h
          rw [strB_inj.1 h.1, ih q h.2]
    exact e l m h
  · rintro rfl; rfl
theorem sealed_ok {d nx : Int} {g : GenM} {t : TailM} {r : List UInt8} {c : CfgM} (hd : 0 ≤ d ∧ d < 64) (h0 : 0 ≤ nx) (hl : logN c ≤ 65533) (hfit : nx + (recN r : Int) ≤ logN c) (hg : genV g = true) (ht : tailV t = true) (hn : newerM g t.gen = true) (k : Nat) (hk : k < recN r) : sealOK ⟨d, 1, nx + (k : Int)⟩ g (payL t r k) = true := by
  obtain ⟨m1, m2, m3, m4⟩ := genV_iff.1 hg
  obtain ⟨k1, k2, _, _⟩ := genV_iff.1 (tailV_iff.1 ht).2.2.2.2
  unfold sealOK
  simp only [Bool.and_eq_true, decide_eq_true_eq]
  refine ⟨⟨placeOK_iff.2 ⟨hd.1, hd.2, by simp, by simp, by simp only; omega, by simp only; omega⟩, genOK_iff.2 ⟨m1, m2, m3, m4, newer_ne hn k1 k2⟩⟩, ?_⟩
  rw [payL_length]; omega
/-- wal.Append. -/
theorem append_any (p : Nat) (S : ShelfM) (F : HProp) (d : Int) (t : TailM) (g : GenM) (r : List UInt8) (hrl : r.length ≤ 9223372036854775807) (w : World) (hS : Sat w (shelfAt SH p S * F)) :
    Calls Try.prog 15 #[.pointer (some ⟨p, 0, none⟩), .int .i64 d, .agg (tailA t), .agg (genA g), .string (strB r)] w fun e w' => e = .returned (.tuple #[.agg (tailA (appM S d t g r).2.1), .int .i64 (appM S d t g r).2.2]) ∧ Hid (Same w w' ∧ Sat w' (shelfAt SH p (appM S d t g r).1 * F)) := by
  have hwf := (shelfAt_wf hS).cfg
  obtain ⟨nx, nu, ⟨ge, gc⟩⟩ := t
  obtain ⟨ep, cn⟩ := g
  by_cases h1 : 0 ≤ d ∧ d < S.cfg.disks ∧ tailV ⟨nx, nu, ⟨ge, gc⟩⟩ = true ∧ genV ⟨ep, cn⟩ = true
  · have hbv : (decide (0 ≤ d) && decide (d < S.cfg.disks) && tailV ⟨nx, nu, ⟨ge, gc⟩⟩) = true := by simp [h1.1, h1.2.1, h1.2.2.1]
    cases hn : newerM ⟨ep, cn⟩ ⟨ge, gc⟩ with
    | false =>
      have hz : appErr S.cfg d ⟨nx, nu, ⟨ge, gc⟩⟩ ⟨ep, cn⟩ r = 9 := by unfold appErr; rw [if_neg (by simpa using h1), if_pos hn]
      rw [appM_err rfl (by rw [hz]; decide), hz]
      exact append_stale p S F d nx nu ge gc ep cn r true true false hbv h1.2.2.2 hn (by omega) rfl rfl rfl w hS
    | true =>
      by_cases hl : 4096 < r.length
      · have hz : appErr S.cfg d ⟨nx, nu, ⟨ge, gc⟩⟩ ⟨ep, cn⟩ r = 2 := by unfold appErr; rw [if_neg (by simpa using h1), if_neg (by rw [hn]; decide), if_pos hl]
        rw [appM_err rfl (by rw [hz]; decide), hz]
        exact append_long p S F d nx nu ge gc ep cn r true true true hbv h1.2.2.2 hn (by omega) rfl rfl rfl hl w hS
      · obtain ⟨t1, t2, t3, t4, t5⟩ := tailV_iff.1 h1.2.2.1
        simp only at t1 t2 t3 t4 t5
        by_cases hf : logN S.cfg < nx + (recN r : Int)
        · have hz : appErr S.cfg d ⟨nx, nu, ⟨ge, gc⟩⟩ ⟨ep, cn⟩ r = 16 := by unfold appErr; rw [if_neg (by simpa using h1), if_neg (by rw [hn]; decide), if_neg hl, if_pos hf]
          rw [appM_err rfl (by rw [hz]; decide), hz]
          exact append_full p S F d nx nu ge gc ep cn r true true true hbv h1.2.2.2 hn (by omega) rfl rfl rfl (by omega) ⟨t1, t3⟩ hf w hS
        · obtain ⟨g1, g2, g3, g4⟩ := genV_iff.1 t5
          simp only at g1 g2 g3 g4
          have hd64 : 0 ≤ d ∧ d < 64 := ⟨h1.1, by have := hwf.disks; omega⟩
          have hlg : logN S.cfg ≤ 65533 := by have := hwf.log; unfold logN; omega
          have hso := sealed_ok (c := S.cfg) hd64 t1 hlg (show nx + (recN r : Int) ≤ logN S.cfg by omega) h1.2.2.2 h1.2.2.1 hn
          have hz : appErr S.cfg d ⟨nx, nu, ⟨ge, gc⟩⟩ ⟨ep, cn⟩ r = 0 := appErr_of h1 hn (by omega) (by show nx + _ ≤ _; omega)
          obtain ⟨nu, rfl⟩ := Int.eq_ofNat_of_zero_le t2
          obtain ⟨ge, rfl⟩ := Int.eq_ofNat_of_zero_le g1
          obtain ⟨gc, rfl⟩ := Int.eq_ofNat_of_zero_le g2
          refine (callsIn_wide.1 (append_in Fence.wide (free_wide _) 3 (by omega) p S F d nx ep cn nu ge gc r true true true hbv h1.2.2.2 hn (by omega) rfl rfl rfl (by omega) ⟨t1, t3⟩ (by omega) (by omega) (by omega) (by omega) hd64 hso w hS)).mono ?_
          rintro e w' ⟨t', ha, hb, rfl, hs⟩
          unfold appM
          rw [hz, if_neg (by simp)]
          by_cases h0 : (wrN S d ⟨nx, (nu : Int), ⟨(ge : Int), (gc : Int)⟩⟩ ⟨ep, cn⟩ r (recN r)).2 = 0
          · rw [if_neg (by simpa using h0), ha h0, h0]
            exact ⟨rfl, hs⟩
          · rw [if_pos h0, hb h0]
            exact ⟨rfl, hs⟩
  · have hz : appErr S.cfg d ⟨nx, nu, ⟨ge, gc⟩⟩ ⟨ep, cn⟩ r = 1 := by unfold appErr; rw [if_pos h1]
    rw [appM_err rfl (by rw [hz]; decide), hz]
    refine append_arg p S F d nx nu ge gc ep cn r _ _ _ rfl rfl rfl (by omega) ?_ w hS
    rw [Bool.eq_false_iff]
    intro hh
    simp only [Bool.and_eq_true, decide_eq_true_eq] at hh
    exact h1 ⟨hh.1.1.1, hh.1.1.2, hh.1.2, hh.2⟩

theorem config18_any (n : Int) (h0 : -1000 ≤ n) (h1 : n ≤ 1000) (w : World) : Calls Try.prog 19 #[.int .i64 n] w fun e w' => e = .returned (.agg (cfgA (cfgW n))) ∧ Below w.heap.size w w' := by
  go_enter Try.func19, Try.ntmps19
  go_wp2
  refine bodyPost_ret (v := .agg (cfgA (cfgW n))) (results_cell_row Try.results19 _ _ w.heap.size TCfg (cfgA (cfgW n)) (0, 0) _ rfl (heap_alloc_new w _) Try.underlying53 rfl (infoTCfg _)) rfl ⟨rfl, (Below.refl _ _).alloc (Nat.le_refl _) _⟩
/-- The text of a law: so many letters. -/
def textL (n : Nat) : List UInt8 := (List.range n).map fun i => UInt8.ofNat (97 + i % 7)
theorem textL_succ (n : Nat) : textL (n + 1) = textL n ++ [UInt8.ofNat (97 + n % 7)] := by simp [textL, List.range_succ]
theorem textL_length (n : Nat) : (textL n).length = n := by simp [textL]
structure TextSt (w : World) (F : HProp) (n : Nat) (v i : Value) (wr : World) : Prop where
  st : ∃ k : Nat, k ≤ n ∧ i = .int .i64 (k : Int) ∧ Same w wr ∧ Sat wr (ownB v (textL k) * F)
set_option maxHeartbeats 1000000 in
theorem text_any (n : Nat) (hn : 0 < n) (hn2 : n ≤ 1000) (F : HProp) (w : World) (hF : Sat w F) :
    Calls Try.prog 25 #[.int .i64 (n : Int), .int .u8 97] w fun e w' => e = .returned (.string (strB (textL n))) ∧ Hid (Same w w' ∧ Sat w' F) := by
  obtain ⟨ti, hti, hz0, hts, hz2⟩ := info_parts infoB3
  have HST := Lib.hid (show TextSt w F n (.slice none 0 0) (.int .i64 ((0 : Nat) : Int)) w from ⟨⟨0, by omega, rfl, Same.refl w, ownB_nil.2 hF⟩⟩)
  clear hF
  go_enter Try.func25, Try.ntmps25
  go_wp2
  go_loopw [5, 6] (fun v i wr => TextSt w F n v i wr) (fun _ i _ => n - (intOf i).toNat)
  case atStart => exact HST.out
  case round =>
    obtain ⟨k, hk, rfl, hsm, hs⟩ := hrel.st
    clear hrel HST
    obtain ⟨ao, cap, rfl⟩ := ownAt_slice hs
    have H1 := Lib.hid (And.intro hsm hs)
    clear hsm hs
    by_cases hlt : k < n
    · have hltd : decide ((k : Int) < (n : Int)) = true := decide_eq_true (by omega)
      have hk2 : (k : Int) ≤ 1000 := by omega
      have hm : (k : Int) % 7 = ((k % 7 : Nat) : Int) := by omega
      have hm7 : k % 7 < 7 := Nat.mod_lt _ (by decide)
      have HB := Lib.hid (show (97 : Int) + ((k % 7 : Nat) : Int) = ((UInt8.ofNat (97 + k % 7)).toNat : Int) by rw [u8_ofNat_toNat (by omega)]; omega)
      have HT := Lib.hid (textL_succ k)
      have HL := Lib.hid (textL_length k)
      generalize k % 7 = m at hm hm7 HB HT
      have hmi : (m : Int) < 7 := by omega
      go_wp2_with (at_builtin; rw [HB.out]; refine wpList_append_ownAt (F := F) rfl _ _ 95 TByte rfl ti _ Try.underlying95 hti hz0 hts hz2 rfl (H1.out.2.allocKeep _) [.int .u8 ((UInt8.ofNat (97 + m)).toNat : Int)] rfl rfl rfl ?_ (by simp [Value.oneCell']) (by have := HL.out; unfold maxLen; omega) (by have := HL.out; omega) ?_)
      · intro j u hu
        match j, hu with
        | 0, hu => rw [Addr.add_mid, cells_at (heap_alloc_new _ _)]; simpa using hu
      intro v' w2 h2
      replace H1 := Lib.hid (And.intro ((H1.out.1.alloc _).trans h2.out.1) h2.out.2)
      clear h2
      go_wp2
      refine ⟨⟨⟨k + 1, by omega, rfl, H1.out.1, ?_⟩⟩, by simp only [intOf]; omega⟩
      rw [HT.out]
      unfold ownB
      rw [List.length_append, show secL (textL k ++ [UInt8.ofNat (97 + m)]) = secL (textL k) ++ [.int .u8 ((UInt8.ofNat (97 + m)).toNat : Int)] by simp [secL, byteV]]
      exact H1.out.2
    · obtain rfl : k = n := by omega
      have hltd : decide ((k : Int) < (k : Int)) = false := by simp
      have hcv := run_str_own (by rw [textL_length]; exact hn) H1.out.2
      have HLN := Lib.hid (textL_length k)
      obtain ⟨tx, htx⟩ : ∃ tx, textL k = tx := ⟨_, rfl⟩
      rw [htx] at H1 hcv HLN ⊢
      have HTX := Lib.hid htx
      clear htx
      generalize tx.length = tl at hcv HLN ⊢
      clear hn hn2 hk hlt
      go_wp2
      go_ret
      exact ⟨by rw [HTX.out]; rfl, H1.out.1, H1.out.2.right⟩
end Go.Proofs.Ytbegomjbakidmaa
