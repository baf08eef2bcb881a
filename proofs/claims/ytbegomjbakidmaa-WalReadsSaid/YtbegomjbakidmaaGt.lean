/- wal.Append where it writes. -/
import Derived.RangeFuncKeeps
import Derived.RangeFuncBound
import Derived.RangeFuncLeaves
import Derived.RangeFuncBox
import Derived.Test.YtbegomjbakidmaaGl
namespace Go.Proofs.Ytbegomjbakidmaa
open Go.RowKit Go.Sl Go.ChangeMaps Go.Shelf
attribute [local go_sem] Oper.semAt_some

def pairAct (a : Act) (t1 t2 p1 p2 : Tmp) (u v : Value) : Act := { tmps := (((a.tmps.setIfInBounds t1 u).setIfInBounds t2 v).setIfInBounds p1 u).setIfInBounds p2 v, defers := [] }
theorem wrN_succ (S : ShelfM) (d : Int) (t : TailM) (g : GenM) (r : List UInt8) (k : Nat) (h : (wrN S d t g r k).2 = 0) : wrN S d t g r (k + 1) = (wrN S d t g r k).1.write ⟨d, 1, t.next + (k : Int)⟩ (sealL ⟨d, 1, t.next + (k : Int)⟩ g (payL t r k)) := by
  show (if _ then _ else _) = _
  rw [if_neg (by rw [h]; simp)]
theorem wrN_stop {S : ShelfM} {d : Int} {t : TailM} {g : GenM} {r : List UInt8} {k : Nat} (h : (wrN S d t g r k).2 ≠ 0) : ∀ m, wrN S d t g r (k + m) = wrN S d t g r k
  | 0 => rfl
  | m + 1 => by
    have e := wrN_stop h m
    show (if (wrN S d t g r (k + m)).2 ≠ 0 then wrN S d t g r (k + m) else _) = _
    rw [e, if_pos h]
theorem wpIn_rangeFunc_pair {α : Type} {F : Fence} {n : Nat} {P : Program} {g : Operand} {t1 t2 p1 p2 : Tmp} {u v : α → Value} {assign body : Code} {Q : Exit → Act → World → Prop} {a : Act} {w : World}
    (hro : F.round = none) (h1 : 1 ≤ n) {gf : Nat} {lb : Array Value} (hg : a.eval g = .func (.func gf) #[] lb) (hFg : F.fn gf) (eg : ∀ args w, (callFunc gf args).run P w = .ok (.enter gf args) w)
    {xs : List α} {Bx : HProp} {w0 : World} (hseq : SeqSat F (n - 1) P gf lb (fun x => #[u x, v x]) xs Bx w0)
    (R : Nat → HProp) (Rx : Code → HProp) (hsm : Same w0 w) (h0 : Sat w (R 0 * Bx))
    (hassign : ∀ (l : Nat) (x : α) (W : World) (K : Act → World → Prop), K (pairAct a t1 t2 p1 p2 (u x) (v x)) W → assign.wpIn (F.inRound l) (n - 1 - 1) P (Exit.then K (fun _ _ _ => False)) { tmps := (a.tmps.setIfInBounds t1 (u x)).setIfInBounds t2 (v x), defers := [] } W)
    (hbody : ∀ (l i : Nat) (x : α) (G : HProp) (W : World), xs[i]? = some x → Same w0 W → Sat W (R i * G) → body.wpIn (F.inRound l) (n - 1 - 1) P (satPost w0 (R (i + 1)) Rx G) (pairAct a t1 t2 p1 p2 (u x) (v x)) W)
    (hdone : ∀ (D : Nat) (W : World), Same w0 W → Sat W (R xs.length * (pts D (.deferred (some [])) * Bx)) → Q .normal { a with defers := { target := .collected D, args := #[] } :: a.defers } W)
    (hstop : ∀ (D : Nat) (c : Code) (W : World), Same w0 W → Sat W (Rx c * (pts D (.deferred (some [])) * Bx)) → c.wpIn F n P Q { a with defers := { target := .collected D, args := #[] } :: a.defers } W) :
    (Code.rangeFunc g #[t1, t2] assign body).wpIn F n P Q a w :=
  wpIn_rangeFunc_sat hro h1 hg hFg eg hseq (fun _ => rfl) R Rx hsm h0 (fun x => pairAct a t1 t2 p1 p2 (u x) (v x)) (fun l x W K hK => by
    have h := hassign l x W K hK
    simpa using h) hbody hdone hstop
/-- What a round leaves, and how the rounds may be left. -/
def apR (S : ShelfM) (p B : Nat) (d : Int) (t : TailM) (g : GenM) (r : List UInt8) (F : HProp) (i : Nat) : HProp := lift ((wrN S d t g r i).2 = 0) * apB B p d t g 0 zTail (shelfAt SH p (wrN S d t g r i).1 * F)
def apX (S : ShelfM) (p B : Nat) (d : Int) (t : TailM) (g : GenM) (r : List UInt8) (F : HProp) (c : Code) : HProp := match c with
  | .ret => lift ((wrN S d t g r (recN r)).2 ≠ 0) * apB B p d t g (wrN S d t g r (recN r)).2 zTail (shelfAt SH p (wrN S d t g r (recN r)).1 * F)
  | _ => lift False
theorem apB_frame (B p : Nat) (d e : Int) (t : TailM) (g : GenM) (c : Array Value) (X G : HProp) : apB B p d t g e c X * G = apB B p d t g e c (X * G) := by unfold apB; ac_rfl
theorem apB_D (B p : Nat) (d e : Int) (t : TailM) (g : GenM) (c : Array Value) (X Y D Z : HProp) : apB B p d t g e c (X * (Y * (D * Z))) = D * apB B p d t g e c (X * (Y * Z)) := by unfold apB; ac_rfl
/-- What Append answers where nothing bars it. -/
def AppOut (p : Nat) (S : ShelfM) (F : HProp) (d : Int) (t : TailM) (g : GenM) (r : List UInt8) (w : World) (e : Ending) (w' : World) : Prop :=
  ∃ t' : TailM, ((wrN S d t g r (recN r)).2 = 0 → t' = ⟨t.next + (recN r : Int), t.number + 1, g⟩) ∧ ((wrN S d t g r (recN r)).2 ≠ 0 → t' = noTail) ∧ e = .returned (.tuple #[.agg (tailA t'), .int .i64 (wrN S d t g r (recN r)).2]) ∧ Hid (Same w w' ∧ Sat w' (shelfAt SH p (wrN S d t g r (recN r)).1 * F))
set_option maxHeartbeats 4000000 in
set_option maxRecDepth 100000 in
theorem append_in (F' : Fence) (hF : Free F' Try.prog) (n : Nat) (hn3 : 3 ≤ n) (p : Nat) (S : ShelfM) (F : HProp) (d : Int) (nx ep cn : Int) (nu ge gc : Nat) (r : List UInt8) (bv bg bn : Bool) (hbv : (decide (0 ≤ d) && decide (d < S.cfg.disks) && tailV ⟨nx, (nu : Int), ⟨(ge : Int), (gc : Int)⟩⟩) = bv) (hbg : genV ⟨ep, cn⟩ = bg) (hbn : newerM ⟨ep, cn⟩ ⟨(ge : Int), (gc : Int)⟩ = bn) (HRL : (r.length : Int) ≤ 4611686018427387904) (hv : bv = true) (hg : bg = true) (hn : bn = true) (hl : r.length ≤ 4096) (hnx : 0 ≤ nx ∧ nx ≤ 2147483647) (hnu : nu ≤ 2147483647) (hge : ge < 4294967296) (hgc : gc < 4294967296) (hfit : nx + (recN r : Int) ≤ logN S.cfg) (hd : 0 ≤ d ∧ d < 64) (hseal : ∀ k : Nat, k < recN r → sealOK ⟨d, 1, nx + (k : Int)⟩ ⟨ep, cn⟩ (payL ⟨nx, (nu : Int), ⟨(ge : Int), (gc : Int)⟩⟩ r k) = true) (w : World) (hS : Sat w (shelfAt SH p S * F)) :
    CallsIn F' n Try.prog 15 #[.pointer (some ⟨p, 0, none⟩), .int .i64 d, .agg (tailA ⟨nx, (nu : Int), ⟨(ge : Int), (gc : Int)⟩⟩), .agg (genA ⟨ep, cn⟩), .string (strB r)] w (AppOut p S F d ⟨nx, (nu : Int), ⟨(ge : Int), (gc : Int)⟩⟩ ⟨ep, cn⟩ r w) := by
  have hdd : ∀ k : Nat, (F'.depth.isSome = true → 1 ≤ k) := hF.ask
  have hro := hF.round
  have hfn := hF.fn
  have h1n : 1 ≤ n := by omega
  have HCF := Lib.hid (show ∀ (W : World) (B : Nat), Sat W (apB B p d ⟨nx, (nu : Int), ⟨(ge : Int), (gc : Int)⟩⟩ ⟨ep, cn⟩ 0 zTail (shelfAt SH p S * F)) → Calls Try.prog 31 #[.pointer (some ⟨p, 0, none⟩)] W fun e w' => e = .returned (.agg (cfgA S.cfg)) ∧ Below W.heap.size W w' from fun W B h => config_any p S F W (ap_rest h))
  have hlg := (shelfAt_wf hS).cfg.log
  have HWS := Lib.hid (fun W => wsectors_any S.cfg hlg.2 (by omega) W)
  have hsum : IntKind.i64.wrap (nx + (recN r : Int)) = nx + (recN r : Int) := IntWalk.i64_in _ (by have := recN_eq r; omega)
  clear hlg
  have hfu : ¬ logN S.cfg < nx + (recN r : Int) := by omega
  have hsz := fun W => size_any (r.length : Int) (by omega) HRL W
  rw [← recN_val] at hsz
  have HSZ := Lib.hid hsz
  have HV := Lib.hid (show ∀ (W : World) (B : Nat), Sat W (apB B p d ⟨nx, (nu : Int), ⟨(ge : Int), (gc : Int)⟩⟩ ⟨ep, cn⟩ 0 zTail (shelfAt SH p S * F)) → Calls Try.prog 26 #[.pointer (some ⟨p, 0, none⟩), .int .i64 d, .agg (tailA ⟨nx, (nu : Int), ⟨(ge : Int), (gc : Int)⟩⟩)] W fun e w' => e = .returned (.bool bv) ∧ Below W.heap.size W w' from fun W B h => by
    unfold apB at h
    rw [← hbv]
    exact wvalid_any p S F d ⟨nx, (nu : Int), ⟨(ge : Int), (gc : Int)⟩⟩ W h.right.right.right.right.right.right)
  have HVG := Lib.hid (show ∀ W, Calls Try.prog 28 #[.agg (genA ⟨ep, cn⟩)] W fun e w' => e = .returned (.bool bg) ∧ Below W.heap.size W w' from fun W => by rw [← hbg]; exact wvalidGen_any ⟨ep, cn⟩ W)
  have HNW := Lib.hid (show ∀ W, Calls Try.prog 29 #[.agg (genA ⟨ep, cn⟩), .agg (genA ⟨(ge : Int), (gc : Int)⟩)] W fun e w' => e = .returned (.bool bn) ∧ Below W.heap.size W w' from fun W => by rw [← hbn]; exact newer_any ⟨ep, cn⟩ ⟨(ge : Int), (gc : Int)⟩ W)
  have H1 := Lib.hid (show Same w ((((((w.alloc (.cells #[.pointer (some ⟨p, 0, none⟩)] TShP)).alloc (.cells #[.int .i64 d] TInt)).alloc (.cells (tailA ⟨nx, (nu : Int), ⟨(ge : Int), (gc : Int)⟩⟩) TTail)).alloc (.cells (genA ⟨ep, cn⟩) TGen)).alloc (.cells #[.int .i64 0, .int .i64 0, .int .i64 0, .int .i64 0] TTail)).alloc (.cells #[.int .i64 0] TErr)) ∧ Sat ((((((w.alloc (.cells #[.pointer (some ⟨p, 0, none⟩)] TShP)).alloc (.cells #[.int .i64 d] TInt)).alloc (.cells (tailA ⟨nx, (nu : Int), ⟨(ge : Int), (gc : Int)⟩⟩) TTail)).alloc (.cells (genA ⟨ep, cn⟩) TGen)).alloc (.cells #[.int .i64 0, .int .i64 0, .int .i64 0, .int .i64 0] TTail)).alloc (.cells #[.int .i64 0] TErr)) (apB w.heap.size p d ⟨nx, (nu : Int), ⟨(ge : Int), (gc : Int)⟩⟩ ⟨ep, cn⟩ 0 zTail (shelfAt SH p S * F)) from ⟨((((((Same.refl w).alloc _).alloc _).alloc _).alloc _).alloc _).alloc _, ap_new hS⟩)
  have hlen : (strB r).size = r.length := strB_size r
  clear hS hsz hbv hbg hbn HRL
  rw [hv] at HV
  rw [hg] at HVG
  clear hv hg
  rw [hn] at HNW
  have hld : decide ((4096 : Int) < (r.length : Int)) = false := decide_eq_false (by omega)
  clear hn
  refine callsIn_of_wp_marks Try.func15 rfl (hF.fn _) ?_ hF.round
  simp only [Try.ntmps15, List.size_toArray, List.length_cons, List.length_nil, Nat.reduceAdd, Nat.reduceSub, Array.replicate_succ, Array.replicate_zero, List.push_toArray, List.append_toArray, List.nil_append, List.cons_append]
  gi_wp2_with ((try refine ⟨hdd _, ?_⟩); gi_at_call 13; (with_reducible refine (hF.calls _ _ _ _ _ (HSZ.out _)).mono ?_); rintro e w' ⟨rfl, rfl⟩)
  (try refine ⟨hdd _, ?_⟩)
  refine (hF.calls _ _ _ _ _ (HV.out _ _ H1.out.2)).mono ?_
  rintro e w2 ⟨rfl, hb⟩
  replace H1 := Lib.hid (And.intro (H1.out.1.below hb) (ap_below H1.out.2 hb))
  clear hb
  generalize w.heap.size = B at H1 ⊢
  obtain ⟨a0, a1, ⟨t0, t1, t2, t3⟩, ⟨g0', g1'⟩, l0, l1, l2, l3, l4, l5⟩ := ap_cells H1.out.2
  obtain ⟨⟨r0, r1, r2, r3, r4⟩, s0, s1, s2, s3, s4⟩ := ap_res H1.out.2
  gi_wp2_with (first
    | ((try refine ⟨hdd _, ?_⟩); gi_at_call 13; (with_reducible refine (hF.calls _ _ _ _ _ (HSZ.out _)).mono ?_); rintro e w' ⟨rfl, rfl⟩)
    | ((try refine ⟨hdd _, ?_⟩); gi_at_call 26; (with_reducible refine (hF.calls _ _ _ _ _ (HV.out _ _ H1.out.2)).mono ?_); rintro e w2 ⟨rfl, hb⟩; replace H1 := Lib.hid (And.intro (H1.out.1.below hb) (ap_below H1.out.2 hb)); clear a0 a1 t0 t1 t2 t3 g0' g1' l0 l1 l2 l3 l4 l5 r0 r1 r2 r3 r4 s0 s1 s2 s3 s4; clear hb; obtain ⟨a0, a1, ⟨t0, t1, t2, t3⟩, ⟨g0', g1'⟩, l0, l1, l2, l3, l4, l5⟩ := ap_cells H1.out.2; obtain ⟨⟨r0, r1, r2, r3, r4⟩, s0, s1, s2, s3, s4⟩ := ap_res H1.out.2)
    | ((try refine ⟨hdd _, ?_⟩); gi_at_call 28; (with_reducible refine (hF.calls _ _ _ _ _ (HVG.out _)).mono ?_); rintro e w3 ⟨rfl, hb⟩; replace H1 := Lib.hid (And.intro (H1.out.1.below hb) (ap_below H1.out.2 hb)); clear a0 a1 t0 t1 t2 t3 g0' g1' l0 l1 l2 l3 l4 l5 r0 r1 r2 r3 r4 s0 s1 s2 s3 s4; clear hb; obtain ⟨a0, a1, ⟨t0, t1, t2, t3⟩, ⟨g0', g1'⟩, l0, l1, l2, l3, l4, l5⟩ := ap_cells H1.out.2; obtain ⟨⟨r0, r1, r2, r3, r4⟩, s0, s1, s2, s3, s4⟩ := ap_res H1.out.2)
    | ((try refine ⟨hdd _, ?_⟩); gi_at_call 29; (with_reducible refine (hF.calls _ _ _ _ _ (HNW.out _)).mono ?_); rintro e w4 ⟨rfl, hb⟩; replace H1 := Lib.hid (And.intro (H1.out.1.below hb) (ap_below H1.out.2 hb)); clear a0 a1 t0 t1 t2 t3 g0' g1' l0 l1 l2 l3 l4 l5 r0 r1 r2 r3 r4 s0 s1 s2 s3 s4; clear hb; obtain ⟨a0, a1, ⟨t0, t1, t2, t3⟩, ⟨g0', g1'⟩, l0, l1, l2, l3, l4, l5⟩ := ap_cells H1.out.2; obtain ⟨⟨r0, r1, r2, r3, r4⟩, s0, s1, s2, s3, s4⟩ := ap_res H1.out.2)
    | fail)
  clear a0 a1 t0 t1 t2 t3 g0' g1' l0 l1 l2 l3 l4 l5 r0 r1 r2 r3 r4 s0 s1 s2 s3 s4
  replace H1 := Lib.hid (And.intro H1.out.1.drew (show Sat _ (apB B p d ⟨nx, (nu : Int), ⟨(ge : Int), (gc : Int)⟩⟩ ⟨ep, cn⟩ 0 zTail (shelfAt SH p S * F)) from H1.out.2.drew))
  have hS0 := ap_cells2 H1.out.2
  refine regi_begin (fun w' => w'.cell? ⟨B, 0, none⟩ = some (.pointer (some ⟨p, 0, none⟩)) ∧ w'.cell? ⟨B + 1 + 1, 0, none⟩ = some (.int .i64 nx)) (by kernel_rfl) ?_
  (apply regi_take hF 0 rfl rfl (by decide +kernel) rfl); (rintro w' ⟨h1, h2⟩; go_simp; rfl); exact hS0; simp only [List.setIfInBounds_toArray, List.set_cons_succ, List.set_cons_zero]
  (apply regi_take hF 1 rfl rfl (by decide +kernel) rfl); (rintro w' ⟨h1, h2⟩; go_simp; rfl); exact hS0; simp only [List.setIfInBounds_toArray, List.set_cons_succ, List.set_cons_zero]
  (apply regi_take hF 2 rfl rfl (by decide +kernel) rfl); (rintro w' ⟨h1, h2⟩; go_simp; rfl); exact hS0; simp only [List.setIfInBounds_toArray, List.set_cons_succ, List.set_cons_zero]
  (apply regi_take hF 3 rfl rfl (by decide +kernel) rfl); (rintro w' ⟨h1, h2⟩; go_simp; rfl); exact hS0; simp only [List.setIfInBounds_toArray, List.set_cons_succ, List.set_cons_zero]
  (apply regi_take hF 4 rfl rfl (by decide +kernel) rfl); (rintro w' ⟨h1, h2⟩; go_simp; rfl); exact hS0; simp only [List.setIfInBounds_toArray, List.set_cons_succ, List.set_cons_zero]
  refine regi_call hF 5 rfl rfl (by decide +kernel) rfl (f := 31) (args := #[.pointer (some ⟨p, 0, none⟩)]) (R := fun v w' => v = .agg (cfgA S.cfg) ∧ Hid (Below w4.drew.heap.size w4.drew w')) (by kernel_rfl) ((HCF.out _ _ H1.out.2).mono fun e w' h => ⟨_, h.1, rfl, h.2⟩) ?_
  rintro _ w5 ⟨rfl, hb⟩
  replace H1 := Lib.hid (And.intro (H1.out.1.below hb.out) (ap_below H1.out.2 hb.out))
  replace hS0 := ap_cells2 H1.out.2
  refine ⟨hS0, ?_⟩
  simp only [List.setIfInBounds_toArray, List.set_cons_succ, List.set_cons_zero]
  refine regi_call hF 6 rfl rfl (by decide +kernel) rfl (f := 30) (args := #[.agg (cfgA S.cfg)]) (R := fun v w' => v = .int .i64 (logN S.cfg) ∧ Hid (Below w5.heap.size w5 w')) (by kernel_rfl) ((HWS.out w5).mono fun e w' h => ⟨_, h.1, rfl, h.2⟩) ?_
  rintro _ w6 ⟨rfl, hb2⟩
  replace H1 := Lib.hid (And.intro (H1.out.1.below hb2.out) (ap_below H1.out.2 hb2.out))
  replace hS0 := ap_cells2 H1.out.2
  refine ⟨hS0, ?_⟩
  simp only [List.setIfInBounds_toArray, List.set_cons_succ, List.set_cons_zero]
  refine regi_take hF 7 (v := .bool false) rfl rfl (by decide +kernel) rfl (fun w' _ => exec_binop rfl rfl rfl rfl (by simp [go_sem]; omega)) hS0 ?_; simp only [List.setIfInBounds_toArray, List.set_cons_succ, List.set_cons_zero]
  (apply regi_take hF 8 rfl rfl (by decide +kernel) rfl); (rintro w' ⟨h1, h2⟩; go_simp; rfl); exact hS0; simp only [List.setIfInBounds_toArray, List.set_cons_succ, List.set_cons_zero]
  refine regi_done (by decide +kernel) ?_
  clear hb hb2 hS0 hsum
  obtain ⟨a0, a1, ⟨t0, t1, t2, t3⟩, ⟨g0', g1'⟩, l0, l1, l2, l3, l4, l5⟩ := ap_cells H1.out.2
  obtain ⟨⟨r0, r1, r2, r3, r4⟩, s0, s1, s2, s3, s4⟩ := ap_res H1.out.2
  have HSO := Lib.hid (show ∀ k : Nat, k < recN r → sealOK ⟨d, 1, nx + (k : Int)⟩ ⟨ep, cn⟩ (payL ⟨nx, (nu : Int), ⟨(ge : Int), (gc : Int)⟩⟩ r k) = true from hseal)
  have HPY := Lib.hid (fun (W : World) (X : HProp) (h : Sat W X) => payloads_any ⟨nx, (nu : Int), ⟨(ge : Int), (gc : Int)⟩⟩ r X W h)
  gi_wp2_with ((try refine ⟨hdd _, ?_⟩); gi_at_call 32; (with_reducible refine (hF.calls _ _ _ _ _ (HPY.out _ _ H1.out.2)).mono ?_); rintro e w7 ⟨R, T, rfl, h7⟩)
  replace H1 := Lib.hid (And.intro (H1.out.1.trans h7.out.1) h7.out.2)
  clear a0 a1 t0 t1 t2 t3 g0' g1' l0 l1 l2 l3 l4 l5 r0 r1 r2 r3 r4 s0 s1 s2 s3 s4
  clear h7
  refine wpIn_rangeFunc_pair (w0 := w) (t1 := 58) (t2 := 59) (p1 := 13) (p2 := 14) (u := fun x : Nat × List UInt8 => .int .i64 (x.1 : Int)) (v := fun x => .string (strB x.2)) hro h1n (gf := 52) (lb := #[.pointer (some ⟨R, 0, none⟩), .pointer (some ⟨T, 0, none⟩)]) rfl (hfn _) (enters_of Try.func52 (by kernel_rfl) rfl)
    (xs := payXs ⟨nx, (nu : Int), ⟨(ge : Int), (gc : Int)⟩⟩ r) (Bx := payB R T ⟨nx, (nu : Int), ⟨(ge : Int), (gc : Int)⟩⟩ r) (payloads_seq F' hF (n - 1) R T nx nu ge gc r hnu hge hgc hl w) (apR S p B d ⟨nx, (nu : Int), ⟨(ge : Int), (gc : Int)⟩⟩ ⟨ep, cn⟩ r F) (apX S p B d ⟨nx, (nu : Int), ⟨(ge : Int), (gc : Int)⟩⟩ ⟨ep, cn⟩ r F) H1.out.1 ?h0 ?assign ?body ?done ?stop
  case h0 =>
    unfold apR
    rw [star_assoc]
    exact Sat.lift.2 ⟨rfl, H1.out.2.perm (star_comm _ _)⟩
  case assign =>
    intro l x W K hK
    unfold pairAct at hK
    simp only [List.setIfInBounds_toArray, List.set_cons_succ, List.set_cons_zero] at hK ⊢
    gi_wp2
    exact hK
  case body =>
    intro l i x G W hx hsm hs
    have hil : i < recN r := by
      have := (List.getElem?_eq_some_iff.1 hx).1
      rwa [payXs_len] at this
    rw [payXs_at hil] at hx
    cases hx
    unfold apR at hs
    rw [star_assoc] at hs
    obtain ⟨hw0, hs⟩ := Sat.lift.1 hs
    rw [apB_frame, star_assoc] at hs
    have hsucc := wrN_succ S d ⟨nx, (nu : Int), ⟨(ge : Int), (gc : Int)⟩⟩ ⟨ep, cn⟩ r i hw0
    have hi158 : (i : Int) ≤ 158 := by have := recN_eq r; omega
    have hRI : apR S p B d ⟨nx, (nu : Int), ⟨(ge : Int), (gc : Int)⟩⟩ ⟨ep, cn⟩ r F (i + 1) = lift ((wrN S d ⟨nx, (nu : Int), ⟨(ge : Int), (gc : Int)⟩⟩ ⟨ep, cn⟩ r (i + 1)).2 = 0) * apB B p d ⟨nx, (nu : Int), ⟨(ge : Int), (gc : Int)⟩⟩ ⟨ep, cn⟩ 0 zTail (shelfAt SH p (wrN S d ⟨nx, (nu : Int), ⟨(ge : Int), (gc : Int)⟩⟩ ⟨ep, cn⟩ r (i + 1)).1 * F) := rfl
    have hXI : (wrN S d ⟨nx, (nu : Int), ⟨(ge : Int), (gc : Int)⟩⟩ ⟨ep, cn⟩ r (i + 1)).2 ≠ 0 → apX S p B d ⟨nx, (nu : Int), ⟨(ge : Int), (gc : Int)⟩⟩ ⟨ep, cn⟩ r F .ret = lift ((wrN S d ⟨nx, (nu : Int), ⟨(ge : Int), (gc : Int)⟩⟩ ⟨ep, cn⟩ r (i + 1)).2 ≠ 0) * apB B p d ⟨nx, (nu : Int), ⟨(ge : Int), (gc : Int)⟩⟩ ⟨ep, cn⟩ (wrN S d ⟨nx, (nu : Int), ⟨(ge : Int), (gc : Int)⟩⟩ ⟨ep, cn⟩ r (i + 1)).2 zTail (shelfAt SH p (wrN S d ⟨nx, (nu : Int), ⟨(ge : Int), (gc : Int)⟩⟩ ⟨ep, cn⟩ r (i + 1)).1 * F) := fun h => by
      have e := wrN_stop h (recN r - (i + 1))
      rw [show i + 1 + (recN r - (i + 1)) = recN r by omega] at e
      unfold apX
      simp only [e]
    have hok := HSO.out i hil
    simp only at hsucc
    generalize payL ⟨nx, (nu : Int), ⟨(ge : Int), (gc : Int)⟩⟩ r i = pay at hsucc hok ⊢
    generalize (wrN S d ⟨nx, (nu : Int), ⟨(ge : Int), (gc : Int)⟩⟩ ⟨ep, cn⟩ r i).1 = SI at hs hsucc
    have HSE := Lib.hid (show ∀ W' X, Sat W' X → Calls Try.prog 33 #[.agg (plA ⟨d, 1, nx + (i : Int)⟩), .agg (genA ⟨ep, cn⟩), .string (strB pay)] W' fun e w' => e = .returned (.tuple #[.string (strB (sealL ⟨d, 1, nx + (i : Int)⟩ ⟨ep, cn⟩ pay)), .int .i64 0]) ∧ Hid (Same W' w' ∧ Sat w' X) from fun W' X h => seal_any _ _ pay hok X W' h)
    generalize sealL ⟨d, 1, nx + (i : Int)⟩ ⟨ep, cn⟩ pay = sec at hsucc HSE
    obtain ⟨⟨S2, k⟩, hsk⟩ : ∃ x, SI.write ⟨d, 1, nx + (i : Int)⟩ sec = x := ⟨_, rfl⟩
    have HWRI := Lib.hid (show ∀ W' X Y, Sat W' (X * apB B p d ⟨nx, (nu : Int), ⟨(ge : Int), (gc : Int)⟩⟩ ⟨ep, cn⟩ 0 zTail (shelfAt SH p SI * Y)) → Calls Try.prog 34 #[.pointer (some ⟨p, 0, none⟩), .agg (plA ⟨d, 1, nx + (i : Int)⟩), .string (strB sec)] W' fun e w' => e = .returned (.int .i64 k) ∧ Hid (Same W' w' ∧ Sat w' (X * apB B p d ⟨nx, (nu : Int), ⟨(ge : Int), (gc : Int)⟩⟩ ⟨ep, cn⟩ 0 zTail (shelfAt SH p S2 * Y))) from fun W' X Y h => by
      have h2 := swrite_any p SI (X * apB B p d ⟨nx, (nu : Int), ⟨(ge : Int), (gc : Int)⟩⟩ ⟨ep, cn⟩ 0 zTail Y) ⟨d, 1, nx + (i : Int)⟩ sec W' (h.perm (by unfold apB; ac_rfl))
      rw [hsk] at h2
      exact h2.mono fun e w' h' => ⟨h'.1, h'.2.out.1, h'.2.out.2.perm (by unfold apB; ac_rfl)⟩)
    rw [hsk] at hsucc
    rw [hsucc] at hXI hRI
    simp only at hXI hRI
    have HXI := Lib.hid (And.intro hXI hRI)
    clear hXI hRI hsucc hok hsk hw0
    replace H1 := Lib.hid (And.intro hsm hs)
    clear hsm hs
    obtain ⟨a0, a1, ⟨t0, t1, t2, t3⟩, ⟨g0', g1'⟩, l0, l1, l2, l3, l4, l5⟩ := ap_cells H1.out.2
    obtain ⟨⟨r0, r1, r2, r3, r4⟩, s0, s1, s2, s3, s4⟩ := ap_res H1.out.2
    unfold pairAct
    simp only [List.setIfInBounds_toArray, List.set_cons_succ, List.set_cons_zero]
    have H2 := Lib.hid (And.intro (H1.out.1.alloc (.cells (plA ⟨d, 1, nx + (i : Int)⟩) TPl)) (H1.out.2.alloc (.cells (plA ⟨d, 1, nx + (i : Int)⟩) TPl)))
    gi_wp2_with ((try refine ⟨hdd _, ?_⟩); gi_at_call 33; (with_reducible refine (hF.callsR l _ (HSE.out _ _ H2.out.2)).mono ?_); rintro e w8 ⟨rfl, h8⟩; replace H2 := Lib.hid (And.intro (H2.out.1.trans h8.out.1) h8.out.2); clear h8; clear a0 a1 t0 t1 t2 t3 g0' g1' l0 l1 l2 l3 l4 l5 r0 r1 r2 r3 r4 s0 s1 s2 s3 s4; obtain ⟨a0, a1, ⟨t0, t1, t2, t3⟩, ⟨g0', g1'⟩, l0, l1, l2, l3, l4, l5⟩ := ap_cells H2.out.2.right; obtain ⟨⟨r0, r1, r2, r3, r4⟩, s0, s1, s2, s3, s4⟩ := ap_res H2.out.2.right; obtain ⟨pc0, pc1, pc2, plt⟩ := pl_cells3 H2.out.2)
    (try refine ⟨hdd _, ?_⟩)
    refine (hF.callsR l _ (HWRI.out _ _ _ H2.out.2)).mono ?_
    rintro e w9 ⟨rfl, h9⟩
    replace H2 := Lib.hid (And.intro (H2.out.1.trans h9.out.1) h9.out.2)
    clear a0 a1 t0 t1 t2 t3 g0' g1' l0 l1 l2 l3 l4 l5 r0 r1 r2 r3 r4 s0 s1 s2 s3 s4
    clear h9 pc0 pc1 pc2 plt
    by_cases hk : k = 0
    · have hkb : (k != 0) = false := by simp [hk]
      have HK := Lib.hid hk
      clear hk
      dsimp only
      gi_wp2
      refine ⟨H2.out.1, ?_⟩
      rw [HXI.out.2, star_assoc, apB_frame, star_assoc]
      exact Sat.lift.2 ⟨HK.out, H2.out.2.right⟩
    · have hkb : (k != 0) = true := by simp [hk]
      have HK := Lib.hid hk
      clear hk
      obtain ⟨a0, a1, ⟨t0, t1, t2, t3⟩, ⟨g0', g1'⟩, l0, l1, l2, l3, l4, l5⟩ := ap_cells H2.out.2.right
      obtain ⟨⟨r0, r1, r2, r3, r4⟩, s0, s1, s2, s3, s4⟩ := ap_res H2.out.2.right
      dsimp only
      gi_wp2
      have hfin := ap_store H2.out.1 H2.out.2.right (.int .i64 0) (.int .i64 0) (.int .i64 0) (.int .i64 0) k
      refine ⟨hfin.1, ?_⟩
      rw [HXI.out.1 HK.out, star_assoc, apB_frame, star_assoc]
      exact Sat.lift.2 ⟨HK.out, hfin.2⟩
  case done =>
    intro D W hsm hs
    rw [payXs_len] at hs
    unfold apR at hs
    rw [star_assoc] at hs
    obtain ⟨hw0, hs⟩ := Sat.lift.1 hs
    rw [apB_frame, star_assoc] at hs
    replace H1 := Lib.hid (And.intro hsm hs)
    have HW0 := Lib.hid hw0
    clear hsm hs hw0
    obtain ⟨a0, a1, ⟨t0, t1, t2, t3⟩, ⟨g0', g1'⟩, l0, l1, l2, l3, l4, l5⟩ := ap_cells H1.out.2
    obtain ⟨⟨r0, r1, r2, r3, r4⟩, s0, s1, s2, s3, s4⟩ := ap_res H1.out.2
    have hsum2 : (0 : Int) ≤ nx := hnx.1
    have hr158 : (recN r : Int) ≤ 158 := by have := recN_eq r; omega
    have hnx2 : nx ≤ 2147483647 := hnx.2
    gi_wp2
    have hfin := ap_store H1.out.1 H1.out.2 (.int .i64 (nx + (recN r : Int))) (.int .i64 ((nu : Int) + 1)) (.int .i64 ep) (.int .i64 cn) 0
    have hp := hfin.2.perm (apB_D _ _ _ _ _ _ _ _ _ _ _)
    refine ⟨by simp, .inl ⟨_, _, rfl, run_takeDeferred hp.block, ?_⟩⟩
    have hq := (hp.putObj (o' := .deferred none)).right
    refine ⟨_, ap_end hq rfl rfl rfl, ?_⟩
    refine ⟨⟨nx + (recN r : Int), (nu : Int) + 1, ⟨ep, cn⟩⟩, fun _ => rfl, fun h => absurd HW0.out h, by rw [HW0.out], hfin.1.putObj _ _, ?_⟩
    have hz := ap_rest hq
    rw [← star_assoc] at hz
    exact hz.left
  case stop =>
    intro D c W hsm hs
    cases c <;> (unfold apX at hs) <;> (try exact ((Sat.lift.1 hs).1).elim)
    rw [star_assoc] at hs
    obtain ⟨hw0, hs⟩ := Sat.lift.1 hs
    rw [apB_frame, star_assoc] at hs
    gi_wp2
    have hp := hs.perm (apB_D _ _ _ _ _ _ _ _ _ _ _)
    refine ⟨by simp, .inl ⟨_, _, rfl, run_takeDeferred hp.block, ?_⟩⟩
    have hq := (hp.putObj (o' := .deferred none)).right
    refine ⟨_, ap_end hq rfl rfl rfl, ?_⟩
    refine ⟨noTail, fun h => absurd h hw0, fun _ => rfl, rfl, hsm.putObj _ _, ?_⟩
    have hz := ap_rest hq
    rw [← star_assoc] at hz
    exact hz.left
end Go.Proofs.Ytbegomjbakidmaa
