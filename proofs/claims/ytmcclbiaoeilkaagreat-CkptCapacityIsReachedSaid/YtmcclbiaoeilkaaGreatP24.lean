import Derived.RangeFuncKeeps
import Derived.RangeFuncBound
import Derived.RangeFuncLeaves
import Derived.RangeFuncBox
import Derived.Test.YtmcclbiaoeilkaaGreatP23
import Derived.Test.YtmcclbiaoeilkaaGreatP10
/- Part 24 of a proof; the last part says what is proved. -/
section
namespace Go.Proofs.YtmcclbiaoeilkaaGreat
open Go.RowKit Go.Sl Go.ChangeMaps Go.Shelf
attribute [local go_sem] Oper.semAt_some
abbrev TErrC : TypeId := 28
def pairActC (a : Act) (t1 t2 p1 p2 : Tmp) (u v : Value) : Act := { tmps := (((a.tmps.setIfInBounds t1 u).setIfInBounds t2 v).setIfInBounds p1 u).setIfInBounds p2 v, defers := [] }
theorem wpIn_rangeFunc_pairC {α : Type} {F : Fence} {n : Nat} {P : Program} {g : Operand} {t1 t2 p1 p2 : Tmp} {u v : α → Value} {assign body : Code} {Q : Exit → Act → World → Prop} {a : Act} {w : World}
    (hro : F.round = none) (h1 : 1 ≤ n) {gf : Nat} {lb : Array Value} (hg : a.eval g = .func (.func gf) #[] lb) (hFg : F.fn gf) (eg : ∀ args w, (callFunc gf args).run P w = .ok (.enter gf args) w)
    {xs : List α} {Bx : HProp} {w0 : World} (hseq : SeqSat F (n - 1) P gf lb (fun x => #[u x, v x]) xs Bx w0)
    (R : Nat → HProp) (Rx : Code → HProp) (hsm : Same w0 w) (h0 : Sat w (R 0 * Bx))
    (hassign : ∀ (l : Nat) (x : α) (W : World) (K : Act → World → Prop), K (pairActC a t1 t2 p1 p2 (u x) (v x)) W → assign.wpIn (F.inRound l) (n - 1 - 1) P (Exit.then K (fun _ _ _ => False)) { tmps := (a.tmps.setIfInBounds t1 (u x)).setIfInBounds t2 (v x), defers := [] } W)
    (hbody : ∀ (l i : Nat) (x : α) (G : HProp) (W : World), xs[i]? = some x → Same w0 W → Sat W (R i * G) → body.wpIn (F.inRound l) (n - 1 - 1) P (satPost w0 (R (i + 1)) Rx G) (pairActC a t1 t2 p1 p2 (u x) (v x)) W)
    (hdone : ∀ (D : Nat) (W : World), Same w0 W → Sat W (R xs.length * (pts D (.deferred (some [])) * Bx)) → Q .normal { a with defers := { target := .collected D, args := #[] } :: a.defers } W)
    (hstop : ∀ (D : Nat) (c : Code) (W : World), Same w0 W → Sat W (Rx c * (pts D (.deferred (some [])) * Bx)) → c.wpIn F n P Q { a with defers := { target := .collected D, args := #[] } :: a.defers } W) :
    (Code.rangeFunc g #[t1, t2] assign body).wpIn F n P Q a w :=
  wpIn_rangeFunc_sat hro h1 hg hFg eg hseq (fun _ => rfl) R Rx hsm h0 (fun x => pairActC a t1 t2 p1 p2 (u x) (v x)) (fun l x W K hK => by
    have h := hassign l x W K hK
    simpa using h) hbody hdone hstop
theorem results1C {P : Program} {tmps : Array Value} {w : World} {fn : Func} {r1 : ResultVar} {v1 : Value} (h : fn.results = #[r1]) (h1 : ResIs P tmps w r1 v1) : (results fn tmps).run P w = .ok v1 w := by
  cases h1 <;> simp_all [results, asAddr]
def wrA (d area : Int) (c : CkM) (S : ShelfM) : Nat → ShelfM × Int
  | 0 => (S, 0)
  | k + 1 => if (wrA d area c S k).2 ≠ 0 then wrA d area c S k else (wrA d area c S k).1.write ⟨d, area, k⟩ (sealL ⟨d, area, k⟩ c.gen (payM c k))
theorem wrA_succ {d area : Int} {c : CkM} {S : ShelfM} {k : Nat} (h : (wrA d area c S k).2 = 0) : wrA d area c S (k + 1) = (wrA d area c S k).1.write ⟨d, area, k⟩ (sealL ⟨d, area, k⟩ c.gen (payM c k)) := by
  show (if _ then _ else _) = _
  rw [if_neg (by rw [h]; simp)]
theorem wrA_stop {d area : Int} {c : CkM} {S : ShelfM} {k : Nat} (h : (wrA d area c S k).2 ≠ 0) : ∀ m, wrA d area c S (k + m) = wrA d area c S k
  | 0 => rfl
  | m + 1 => by
    have e := wrA_stop h m
    show (if (wrA d area c S (k + m)).2 ≠ 0 then wrA d area c S (k + m) else _) = _
    rw [e, if_pos h]
theorem wrFrom_A {d area : Int} {c : CkM} {S : ShelfM} : ∀ (k j : Nat), (wrA d area c S j).2 = 0 → wrFrom d area c (wrA d area c S j).1 j k = if (wrA d area c S (j + k)).2 ≠ 0 then wrA d area c S (j + k) else (wrA d area c S (j + k)).1.flush d
  | 0, j, h => by rw [Nat.add_zero, if_neg (by rw [h]; simp)]; rfl
  | k + 1, j, h => by
    have e := wrA_succ h
    show (if _ then _ else _) = _
    rw [← e]
    by_cases h2 : (wrA d area c S (j + 1)).2 = 0
    · rw [if_neg (by rw [h2]; simp), wrFrom_A k (j + 1) h2, show j + 1 + k = j + (k + 1) by omega]
    · rw [if_pos h2, show j + (k + 1) = j + 1 + k by omega, wrA_stop h2 k, if_pos h2]
theorem writeM_A (d area : Int) (c : CkM) (S : ShelfM) : writeM S d area c = if (wrA d area c S (partsN c + 1)).2 ≠ 0 then wrA d area c S (partsN c + 1) else (wrA d area c S (partsN c + 1)).1.flush d := by
  have h := wrFrom_A (d := d) (area := area) (c := c) (S := S) (partsN c + 1) 0 rfl
  rw [Nat.zero_add] at h
  exact h
def wrF (sB dB aB cB eB p : Nat) (d area : Int) (c : CkM) (e : Int) (X : HProp) : HProp := pts sB (.cells #[.pointer (some ⟨p, 0, none⟩)] TShq (0, 0)) * (pts dB (.cells #[.int .i64 d] TInt (0, 0)) * (pts aB (.cells #[.int .i64 area] TInt (0, 0)) * (pts cB (.cells (ckA c) TCk (0, 0)) * (pts eB (.cells #[.int .i64 e] TErrC (0, 0)) * X))))
theorem wr_cells {sB dB aB cB eB p : Nat} {d area e ge gc : Int} {sq : Int} {im : List UInt8} {X : HProp} {w : World} (h : Sat w (wrF sB dB aB cB eB p d area ⟨⟨ge, gc⟩, sq, im⟩ e X)) :
    (w.cell? ⟨sB, 0, none⟩ = some (.pointer (some ⟨p, 0, none⟩)) ∧ w.cell? ⟨dB, 0, none⟩ = some (.int .i64 d) ∧ w.cell? ⟨aB, 0, none⟩ = some (.int .i64 area)) ∧ (w.cell? ⟨cB, 0, none⟩ = some (.int .i64 ge) ∧ w.cell? ⟨cB, 1, none⟩ = some (.int .i64 gc) ∧ w.cell? ⟨cB, 2, none⟩ = some (.int .i64 sq) ∧ w.cell? ⟨cB, 3, none⟩ = some (.string (strB im))) ∧ (w.cell? ⟨eB, 0, none⟩ = some (.int .i64 e) ∧ w.frozen? ⟨eB, 0, none⟩ = false) ∧ sB < w.heap.size ∧ dB < w.heap.size ∧ aB < w.heap.size ∧ cB < w.heap.size ∧ eB < w.heap.size := by
  unfold wrF at h
  have h2 := h.right
  have h3 := h2.right
  have h4 := h3.right
  have h5 := h4.right
  exact ⟨⟨cells_at h.block 0, cells_at h2.block 0, cells_at h3.block 0⟩, ⟨cells_at h4.block 0, cells_at h4.block 1, cells_at h4.block 2, cells_at h4.block 3⟩, ⟨cells_at h5.block 0, thawed_at h5.block 0⟩, h.lt, h2.lt, h3.lt, h4.lt, h5.lt⟩
theorem wrF_frame (sB dB aB cB eB p : Nat) (d area : Int) (c : CkM) (e : Int) (X G : HProp) : wrF sB dB aB cB eB p d area c e X * G = wrF sB dB aB cB eB p d area c e (X * G) := by unfold wrF; ac_rfl
theorem wrF_D (sB dB aB cB eB p : Nat) (d area : Int) (c : CkM) (e : Int) (X Y D Z : HProp) : wrF sB dB aB cB eB p d area c e (X * (Y * (D * Z))) = D * wrF sB dB aB cB eB p d area c e (X * (Y * Z)) := by unfold wrF; ac_rfl
theorem wrF_rest {sB dB aB cB eB p : Nat} {d area e : Int} {c : CkM} {X : HProp} {w : World} (h : Sat w (wrF sB dB aB cB eB p d area c e X)) : Sat w X := by unfold wrF at h; exact h.right.right.right.right.right
theorem wr_store {w : World} {sB dB aB cB eB p : Nat} {d area e : Int} {c : CkM} {X : HProp} (h : Sat w (wrF sB dB aB cB eB p d area c e X)) (e2 : Int) : Sat (w.setCell ⟨eB, 0, none⟩ (.int .i64 e2)) (wrF sB dB aB cB eB p d area c e2 X) := by
  unfold wrF at h ⊢
  exact ((h.perm (show _ = pts eB (.cells #[.int .i64 e] TErrC (0, 0)) * (pts sB (.cells #[.pointer (some ⟨p, 0, none⟩)] TShq (0, 0)) * (pts dB (.cells #[.int .i64 d] TInt (0, 0)) * (pts aB (.cells #[.int .i64 area] TInt (0, 0)) * (pts cB (.cells (ckA c) TCk (0, 0)) * X)))) from by ac_rfl)).setCell (i := 0) (.int .i64 e2)).perm (by ac_rfl)
theorem wr_end {w : World} {sB dB aB cB eB p : Nat} {d area e : Int} {c : CkM} {X : HProp} (h : Sat w (wrF sB dB aB cB eB p d area c e X)) {tmps : Array Value} (h8 : tmps.getD 8 undef = .pointer (some ⟨eB, 0, none⟩)) :
    (results Tryz.f37 tmps).run Tryz.prog w = .ok (.int .i64 e) w := by
  unfold wrF at h
  have h6 := cells_at h.right.right.right.right.block
  refine results1C Tryz.results37 (.cell h8 ?_)
  have h60 := h6 0
  simp at h60
  simp [loadVar, go_sem, h60]
def wrR (S : ShelfM) (p sB dB aB cB eB : Nat) (d area : Int) (c : CkM) (F : HProp) (i : Nat) : HProp := lift ((wrA d area c S i).2 = 0) * wrF sB dB aB cB eB p d area c 0 (shelfAt SH p (wrA d area c S i).1 * F)
def wrX (S : ShelfM) (p sB dB aB cB eB : Nat) (d area : Int) (c : CkM) (F : HProp) (x : Code) : HProp := match x with
  | .ret => lift ((wrA d area c S (partsN c + 1)).2 ≠ 0) * wrF sB dB aB cB eB p d area c (wrA d area c S (partsN c + 1)).2 (shelfAt SH p (wrA d area c S (partsN c + 1)).1 * F)
  | _ => lift False
def WrOut (p : Nat) (S : ShelfM) (F : HProp) (d area : Int) (c : CkM) (w : World) (e : Ending) (w' : World) : Prop := e = .returned (.int .i64 (writeM S d area c).2) ∧ Hid (Same w w' ∧ Sat w' (shelfAt SH p (writeM S d area c).1 * F))
theorem pl_cells3C {w : World} {B : Nat} {x y z : Int} {X : HProp} (h : Sat w (pts B (.cells #[.int .i64 x, .int .i64 y, .int .i64 z] TPl (0, 0)) * X)) : w.cell? ⟨B, 0, none⟩ = some (.int .i64 x) ∧ w.cell? ⟨B, 1, none⟩ = some (.int .i64 y) ∧ w.cell? ⟨B, 2, none⟩ = some (.int .i64 z) ∧ B < w.heap.size :=
  ⟨cells_at h.block 0, cells_at h.block 1, cells_at h.block 2, h.lt⟩
set_option maxHeartbeats 4000000 in
set_option maxRecDepth 100000 in
theorem ckwrite_in (F' : Fence) (hF : Free F' Tryz.prog) (n : Nat) (hn3 : 3 ≤ n) (p : Nat) (S : ShelfM) (F : HProp) (d area ge gc : Int) (sq : Nat) (im : List UInt8) (hsq : sq < 9223372036854775808) (him : im.length ≤ 2621440) (hseal : ∀ k : Nat, k < partsN ⟨⟨ge, gc⟩, (sq : Int), im⟩ + 1 → sealOK ⟨d, area, (k : Int)⟩ ⟨ge, gc⟩ (payM ⟨⟨ge, gc⟩, (sq : Int), im⟩ k) = true) (w : World) (hS : Sat w (shelfAt SH p S * F)) :
    CallsIn F' n Tryz.prog 37 #[.pointer (some ⟨p, 0, none⟩), .int .i64 d, .int .i64 area, .agg #[.int .i64 ge, .int .i64 gc, .int .i64 (sq : Int), .string (strB im)]] w (WrOut p S F d area ⟨⟨ge, gc⟩, (sq : Int), im⟩ w) := by
  have hdd : ∀ k : Nat, (F'.depth.isSome = true → 1 ≤ k) := hF.ask
  have hro := hF.round
  have hfn := hF.fn
  have h1n : 1 ≤ n := by omega
  have hA := ((((hS.alloc (.cells #[.pointer (some ⟨p, 0, none⟩)] TShq)).alloc (.cells #[.int .i64 d] TInt)).alloc (.cells #[.int .i64 area] TInt)).alloc (.cells #[.int .i64 ge, .int .i64 gc, .int .i64 (sq : Int), .string (strB im)] TCk)).alloc (.cells #[.int .i64 0] TErrC)
  simp only [World.size_alloc] at hA
  have H1 := Lib.hid (show Same w (((((w.alloc (.cells #[.pointer (some ⟨p, 0, none⟩)] TShq)).alloc (.cells #[.int .i64 d] TInt)).alloc (.cells #[.int .i64 area] TInt)).alloc (.cells #[.int .i64 ge, .int .i64 gc, .int .i64 (sq : Int), .string (strB im)] TCk)).alloc (.cells #[.int .i64 0] TErrC)) ∧ Sat (((((w.alloc (.cells #[.pointer (some ⟨p, 0, none⟩)] TShq)).alloc (.cells #[.int .i64 d] TInt)).alloc (.cells #[.int .i64 area] TInt)).alloc (.cells #[.int .i64 ge, .int .i64 gc, .int .i64 (sq : Int), .string (strB im)] TCk)).alloc (.cells #[.int .i64 0] TErrC)) (wrF w.heap.size (w.heap.size + 1) (w.heap.size + 1 + 1) (w.heap.size + 1 + 1 + 1) (w.heap.size + 1 + 1 + 1 + 1) p d area ⟨⟨ge, gc⟩, (sq : Int), im⟩ 0 (shelfAt SH p S * F)) from ⟨(((((Same.refl w).alloc _).alloc _).alloc _).alloc _).alloc _, hA.perm (by unfold wrF; ac_rfl)⟩)
  have HPY := Lib.hid (show ∀ (W : World) (X : HProp), Sat W X → Calls Tryz.prog 86 #[.agg #[.int .i64 ge, .int .i64 gc, .int .i64 (sq : Int), .string (strB im)]] W _ from fun W X h => ckpay_any ⟨⟨ge, gc⟩, (sq : Int), im⟩ X W h)
  have HSEAL := Lib.hid hseal
  clear hA hS hseal
  obtain ⟨⟨s0, d0, a0⟩, ⟨k0, k1, k2, k3⟩, ⟨e0, e1⟩, l1, l2, l3, l4, l5⟩ := wr_cells H1.out.2
  refine callsIn_of_wp_marks Tryz.func37 rfl (hF.fn _) ?_ hF.round
  simp only [Tryz.ntmps37, List.size_toArray, List.length_cons, List.length_nil, Nat.reduceAdd, Nat.reduceSub, Array.replicate_succ, Array.replicate_zero, List.push_toArray, List.append_toArray, List.nil_append, List.cons_append]
  gi_wp2_with ((try refine ⟨hdd _, ?_⟩); gi_at_call 86; (with_reducible refine (hF.calls _ _ _ _ _ (HPY.out _ _ H1.out.2)).mono ?_); rintro e w7 ⟨B, rfl, h7⟩)
  replace H1 := Lib.hid (And.intro (H1.out.1.trans h7.out.1) h7.out.2)
  clear s0 d0 a0 k0 k1 k2 k3 e0 e1 l1 l2 l3 l4 l5 h7
  generalize w.heap.size + 1 + 1 + 1 + 1 = eB at H1 ⊢
  generalize w.heap.size + 1 + 1 + 1 = cB at H1 ⊢
  generalize w.heap.size + 1 + 1 = aB at H1 ⊢
  generalize w.heap.size + 1 = dB at H1 ⊢
  generalize w.heap.size = sB at H1 ⊢
  refine wpIn_rangeFunc_pairC (w0 := w) (t1 := 16) (t2 := 17) (p1 := 9) (p2 := 10) (u := fun x : Nat × List UInt8 => .int .i64 (x.1 : Int)) (v := fun x => .string (strB x.2)) hro h1n (gf := 132) (lb := #[.pointer (some ⟨B, 0, none⟩)]) rfl (hfn _) (enters_of Tryz.func132 (by kernel_rfl) rfl)
    (xs := pyXs ⟨⟨ge, gc⟩, (sq : Int), im⟩) (Bx := pyB B ⟨⟨ge, gc⟩, (sq : Int), im⟩) (ckpay_seq F' hF (n - 1) B ⟨ge, gc⟩ sq im hsq him w) (wrR S p sB dB aB cB eB d area ⟨⟨ge, gc⟩, (sq : Int), im⟩ F) (wrX S p sB dB aB cB eB d area ⟨⟨ge, gc⟩, (sq : Int), im⟩ F) H1.out.1 ?h0 ?assign ?body ?done ?stop
  case h0 =>
    unfold wrR
    rw [star_assoc]
    exact Sat.lift.2 ⟨rfl, H1.out.2.perm (star_comm _ _)⟩
  case assign =>
    intro l x W K hK
    unfold pairActC at hK
    simp only [List.setIfInBounds_toArray, List.set_cons_succ, List.set_cons_zero] at hK ⊢
    gi_wp2
    exact hK
  case body =>
    intro l i x G W hx hsm hs
    have hil : i < partsN ⟨⟨ge, gc⟩, (sq : Int), im⟩ + 1 := by
      have := (List.getElem?_eq_some_iff.1 hx).1
      rwa [pyXs_len] at this
    rw [pyXs_at hil] at hx
    cases hx
    unfold wrR at hs
    rw [star_assoc] at hs
    obtain ⟨hw0, hs⟩ := Sat.lift.1 hs
    rw [wrF_frame, star_assoc] at hs
    have hsucc := wrA_succ hw0
    have hRI : wrR S p sB dB aB cB eB d area ⟨⟨ge, gc⟩, (sq : Int), im⟩ F (i + 1) = lift ((wrA d area ⟨⟨ge, gc⟩, (sq : Int), im⟩ S (i + 1)).2 = 0) * wrF sB dB aB cB eB p d area ⟨⟨ge, gc⟩, (sq : Int), im⟩ 0 (shelfAt SH p (wrA d area ⟨⟨ge, gc⟩, (sq : Int), im⟩ S (i + 1)).1 * F) := rfl
    have hXI : (wrA d area ⟨⟨ge, gc⟩, (sq : Int), im⟩ S (i + 1)).2 ≠ 0 → wrX S p sB dB aB cB eB d area ⟨⟨ge, gc⟩, (sq : Int), im⟩ F .ret = lift ((wrA d area ⟨⟨ge, gc⟩, (sq : Int), im⟩ S (i + 1)).2 ≠ 0) * wrF sB dB aB cB eB p d area ⟨⟨ge, gc⟩, (sq : Int), im⟩ (wrA d area ⟨⟨ge, gc⟩, (sq : Int), im⟩ S (i + 1)).2 (shelfAt SH p (wrA d area ⟨⟨ge, gc⟩, (sq : Int), im⟩ S (i + 1)).1 * F) := fun h => by
      have e := wrA_stop h (partsN ⟨⟨ge, gc⟩, (sq : Int), im⟩ - i)
      rw [show i + 1 + (partsN ⟨⟨ge, gc⟩, (sq : Int), im⟩ - i) = partsN ⟨⟨ge, gc⟩, (sq : Int), im⟩ + 1 by omega] at e
      unfold wrX
      simp only [e]
    have hok := HSEAL.out i hil
    simp only at hsucc
    generalize payM ⟨⟨ge, gc⟩, (sq : Int), im⟩ i = pay at hsucc hok ⊢
    generalize (wrA d area ⟨⟨ge, gc⟩, (sq : Int), im⟩ S i).1 = SI at hs hsucc
    have HSE := Lib.hid (show ∀ W' X, Sat W' X → Calls Tryz.prog 87 #[.agg #[.int .i64 d, .int .i64 area, .int .i64 (i : Int)], .agg #[.int .i64 ge, .int .i64 gc], .string (strB pay)] W' fun e w' => e = .returned (.tuple #[.string (strB (sealL ⟨d, area, (i : Int)⟩ ⟨ge, gc⟩ pay)), .int .i64 0]) ∧ Hid (Same W' w' ∧ Sat w' X) from fun W' X h => seal_any ⟨d, area, (i : Int)⟩ ⟨ge, gc⟩ pay hok X W' h)
    generalize sealL ⟨d, area, (i : Int)⟩ ⟨ge, gc⟩ pay = sec at hsucc HSE
    obtain ⟨⟨S2, k⟩, hsk⟩ : ∃ x, SI.write ⟨d, area, (i : Int)⟩ sec = x := ⟨_, rfl⟩
    have HWRI := Lib.hid (show ∀ W' X Y, Sat W' (X * wrF sB dB aB cB eB p d area ⟨⟨ge, gc⟩, (sq : Int), im⟩ 0 (shelfAt SH p SI * Y)) → Calls Tryz.prog 43 #[.pointer (some ⟨p, 0, none⟩), .agg #[.int .i64 d, .int .i64 area, .int .i64 (i : Int)], .string (strB sec)] W' fun e w' => e = .returned (.int .i64 k) ∧ Hid (Same W' w' ∧ Sat w' (X * wrF sB dB aB cB eB p d area ⟨⟨ge, gc⟩, (sq : Int), im⟩ 0 (shelfAt SH p S2 * Y))) from fun W' X Y h => by
      have h2 := swrite_any p SI (X * wrF sB dB aB cB eB p d area ⟨⟨ge, gc⟩, (sq : Int), im⟩ 0 Y) ⟨d, area, (i : Int)⟩ sec W' (h.perm (by unfold wrF; ac_rfl))
      rw [hsk] at h2
      exact h2.mono fun e w' h' => ⟨h'.1, h'.2.out.1, h'.2.out.2.perm (by unfold wrF; ac_rfl)⟩)
    rw [hsk] at hsucc
    rw [hsucc] at hXI hRI
    simp only at hXI hRI
    have HXI := Lib.hid (And.intro hXI hRI)
    clear hXI hRI hsucc hok hsk hw0
    replace H1 := Lib.hid (And.intro hsm hs)
    clear hsm hs
    obtain ⟨⟨s0, d0, a0⟩, ⟨k0, k1, k2, k3⟩, ⟨e0, e1⟩, l1, l2, l3, l4, l5⟩ := wr_cells H1.out.2
    unfold pairActC
    simp only [List.setIfInBounds_toArray, List.set_cons_succ, List.set_cons_zero]
    have H2 := Lib.hid (And.intro (H1.out.1.alloc (.cells #[.int .i64 d, .int .i64 area, .int .i64 (i : Int)] TPl)) (H1.out.2.alloc (.cells #[.int .i64 d, .int .i64 area, .int .i64 (i : Int)] TPl)))
    gi_wp2_with ((try refine ⟨hdd _, ?_⟩); gi_at_call 87; (with_reducible refine (hF.callsR l _ (HSE.out _ _ H2.out.2)).mono ?_); rintro e w8 ⟨rfl, h8⟩; replace H2 := Lib.hid (And.intro (H2.out.1.trans h8.out.1) h8.out.2); clear h8; clear s0 d0 a0 k0 k1 k2 k3 e0 e1 l1 l2 l3 l4 l5; obtain ⟨⟨s0, d0, a0⟩, ⟨k0, k1, k2, k3⟩, ⟨e0, e1⟩, l1, l2, l3, l4, l5⟩ := wr_cells H2.out.2.right; obtain ⟨pc0, pc1, pc2, plt⟩ := pl_cells3C H2.out.2)
    (try refine ⟨hdd _, ?_⟩)
    refine (hF.callsR l _ (HWRI.out _ _ _ H2.out.2)).mono ?_
    rintro e w9 ⟨rfl, h9⟩
    replace H2 := Lib.hid (And.intro (H2.out.1.trans h9.out.1) h9.out.2)
    clear s0 d0 a0 k0 k1 k2 k3 e0 e1 l1 l2 l3 l4 l5
    clear h9 pc0 pc1 pc2 plt
    by_cases hk : k = 0
    · have hkb : (k != 0) = false := by simp [hk]
      have HK := Lib.hid hk
      clear hk
      dsimp only
      gi_wp2
      refine ⟨H2.out.1, ?_⟩
      rw [HXI.out.2, star_assoc, wrF_frame, star_assoc]
      exact Sat.lift.2 ⟨HK.out, H2.out.2.right⟩
    · have hkb : (k != 0) = true := by simp [hk]
      have HK := Lib.hid hk
      clear hk
      obtain ⟨⟨s0, d0, a0⟩, ⟨k0, k1, k2, k3⟩, ⟨e0, e1⟩, l1, l2, l3, l4, l5⟩ := wr_cells H2.out.2.right
      dsimp only
      gi_wp2
      refine ⟨H2.out.1.setCell _ _, ?_⟩
      rw [HXI.out.1 HK.out, star_assoc, wrF_frame, star_assoc]
      exact Sat.lift.2 ⟨HK.out, wr_store H2.out.2.right k⟩
  case done =>
    intro D W hsm hs
    rw [pyXs_len] at hs
    unfold wrR at hs
    rw [star_assoc] at hs
    obtain ⟨hw0, hs⟩ := Sat.lift.1 hs
    rw [wrF_frame, star_assoc] at hs
    have hwm := writeM_A d area ⟨⟨ge, gc⟩, (sq : Int), im⟩ S
    rw [if_neg (by rw [hw0]; simp)] at hwm
    generalize (wrA d area ⟨⟨ge, gc⟩, (sq : Int), im⟩ S (partsN ⟨⟨ge, gc⟩, (sq : Int), im⟩ + 1)).1 = SN at hs hwm
    obtain ⟨⟨S2, k⟩, hsk⟩ : ∃ x, SN.flush d = x := ⟨_, rfl⟩
    have HFL := Lib.hid (show ∀ W' Y, Sat W' (wrF sB dB aB cB eB p d area ⟨⟨ge, gc⟩, (sq : Int), im⟩ 0 (shelfAt SH p SN * Y)) → Calls Tryz.prog 45 #[.pointer (some ⟨p, 0, none⟩), .int .i64 d] W' fun e w' => e = .returned (.int .i64 k) ∧ Hid (Same W' w' ∧ Sat w' (wrF sB dB aB cB eB p d area ⟨⟨ge, gc⟩, (sq : Int), im⟩ 0 (shelfAt SH p S2 * Y))) from fun W' Y h => by
      have h2 := sflush_any p SN (wrF sB dB aB cB eB p d area ⟨⟨ge, gc⟩, (sq : Int), im⟩ 0 Y) d W' (h.perm (by unfold wrF; ac_rfl))
      rw [hsk] at h2
      exact h2.mono fun e w' h' => ⟨h'.1, h'.2.out.1, h'.2.out.2.perm (by unfold wrF; ac_rfl)⟩)
    rw [hsk] at hwm
    have HWM := Lib.hid hwm
    replace H1 := Lib.hid (And.intro hsm hs)
    clear hsm hs hw0 hwm hsk
    obtain ⟨⟨s0, d0, a0⟩, ⟨k0, k1, k2, k3⟩, ⟨e0, e1⟩, l1, l2, l3, l4, l5⟩ := wr_cells H1.out.2
    gi_wp2_with ((try refine ⟨hdd _, ?_⟩); gi_at_call 45; (with_reducible refine (hF.calls _ _ _ _ _ (HFL.out _ _ H1.out.2)).mono ?_); rintro e w8 ⟨rfl, h8⟩; replace H1 := Lib.hid (And.intro (H1.out.1.trans h8.out.1) h8.out.2); clear h8; clear s0 d0 a0 k0 k1 k2 k3 e0 e1 l1 l2 l3 l4 l5; obtain ⟨⟨s0, d0, a0⟩, ⟨k0, k1, k2, k3⟩, ⟨e0, e1⟩, l1, l2, l3, l4, l5⟩ := wr_cells H1.out.2)
    have hp := (wr_store H1.out.2 k).perm (wrF_D _ _ _ _ _ _ _ _ _ _ _ _ _ _)
    refine ⟨by simp, .inl ⟨_, _, rfl, run_takeDeferred hp.block, ?_⟩⟩
    have hq := (hp.putObj (o' := .deferred none)).right
    refine ⟨_, wr_end hq rfl, ?_⟩
    unfold WrOut
    rw [HWM.out]
    refine ⟨rfl, (H1.out.1.setCell _ _).putObj _ _, ?_⟩
    have hz := wrF_rest hq
    rw [← star_assoc] at hz
    exact hz.left
  case stop =>
    intro D c W hsm hs
    cases c <;> (unfold wrX at hs) <;> (try exact ((Sat.lift.1 hs).1).elim)
    rw [star_assoc] at hs
    obtain ⟨hw0, hs⟩ := Sat.lift.1 hs
    rw [wrF_frame, star_assoc] at hs
    gi_wp2
    have hp := hs.perm (wrF_D _ _ _ _ _ _ _ _ _ _ _ _ _ _)
    refine ⟨by simp, .inl ⟨_, _, rfl, run_takeDeferred hp.block, ?_⟩⟩
    have hq := (hp.putObj (o' := .deferred none)).right
    refine ⟨_, wr_end hq rfl, ?_⟩
    unfold WrOut
    rw [writeM_A, if_pos hw0]
    refine ⟨rfl, hsm.putObj _ _, ?_⟩
    have hz := wrF_rest hq
    rw [← star_assoc] at hz
    exact hz.left
end Go.Proofs.YtmcclbiaoeilkaaGreat
end
section
namespace Go.Proofs.YtmcclbiaoeilkaaGreat
open Go.RowKit Go.Sl Go.ChangeMaps
def wordM (n : Int) : Bool := decide (0 ≤ n) && decide (n ≤ 4294967295)
set_option maxHeartbeats 1000000 in
theorem word_any (n : Int) (w : World) : Calls Tryz.prog 34 #[.int .i64 n] w fun e w' => e = .returned (.bool (wordM n)) ∧ w = w' := by
  unfold wordM
  cases h1 : decide (0 ≤ n)
  · go_enter Tryz.func34, Tryz.ntmps34
    go_wp2
    go_ret
    exact ⟨rfl, rfl⟩
  · cases h2 : decide (n ≤ 4294967295)
    all_goals
      go_enter Tryz.func34, Tryz.ntmps34
      go_wp2
      go_ret
      exact ⟨rfl, rfl⟩
theorem ckwrite_any (p : Nat) (S : ShelfM) (F : HProp) (d area ge gc : Int) (sq : Nat) (im : List UInt8) (hsq : sq < 9223372036854775808) (him : im.length ≤ 2621440) (hseal : ∀ k : Nat, k < partsN ⟨⟨ge, gc⟩, (sq : Int), im⟩ + 1 → sealOK ⟨d, area, (k : Int)⟩ ⟨ge, gc⟩ (payM ⟨⟨ge, gc⟩, (sq : Int), im⟩ k) = true) (w : World) (hS : Sat w (shelfAt SH p S * F)) :
    Calls Tryz.prog 37 #[.pointer (some ⟨p, 0, none⟩), .int .i64 d, .int .i64 area, .agg #[.int .i64 ge, .int .i64 gc, .int .i64 (sq : Int), .string (strB im)]] w (WrOut p S F d area ⟨⟨ge, gc⟩, (sq : Int), im⟩ w) :=
  callsIn_wide.1 (ckwrite_in Fence.wide (free_wide _) 3 (by omega) p S F d area ge gc sq im hsq him hseal w hS)
theorem payM_len (c : CkM) (k : Nat) : (payM c k).length ≤ 40 := by
  unfold payM
  split
  · have h1 := wireI_length c.seq.toNat
    have h2 := wireI_length c.image.length
    rw [List.length_append]; omega
  · rw [List.length_take]; omega
theorem seal_all {c : CkM} {d area : Int} (hd : 0 ≤ d ∧ d < 64) (ha : area = 2 ∨ area = 3) (hg : genOK c.gen = true) (hp : partsN c ≤ 65535) : ∀ k : Nat, k < partsN c + 1 → sealOK ⟨d, area, (k : Int)⟩ c.gen (payM c k) = true := by
  intro k hk
  have hpl : placeOK ⟨d, area, (k : Int)⟩ = true := by
    unfold placeOK
    simp only [Bool.and_eq_true, decide_eq_true_eq]
    exact ⟨⟨⟨⟨⟨hd.1, hd.2⟩, by omega⟩, by omega⟩, by omega⟩, by omega⟩
  unfold sealOK
  rw [hpl, hg, decide_eq_true (payM_len c k)]
  rfl
theorem parts_cap {c : CkM} {g : CfgM} (hg : g.image ≤ 65536) (h1 : 1 ≤ g.image) (h : (c.image.length : Int) ≤ capM g) : partsN c ≤ 65535 ∧ c.image.length ≤ 2621440 := by
  unfold capM at h
  unfold partsN
  omega
end Go.Proofs.YtmcclbiaoeilkaaGreat
end
