import Derived.RangeFuncWrites
import Derived.Test.YtmcclbiaoeilkaaGreatP01
import Derived.Test.YtmcclbiaoeilkaaGreatP22
import Derived.WalkIn
import Derived.OwnWalkIn
import Derived.TacticsInMore
import Derived.LoopNIn
import Derived.LoopIn
/- Part 23 of a proof; the last part says what is proved. -/
section
namespace Go.Sl
open Go Go.RowKit
def SeqSat {α : Type} (F : Fence) (n : Nat) (P : Program) (gf : Nat) (lb : Array Value) (encs : α → Array Value) (xs : List α) (Bx : HProp) (w0 : World) : Prop :=
  ∀ (l : Nat) (J : Nat → HProp) (Jx : HProp) (W : World),
    (∀ i x W1 G, xs[i]? = some x → Same w0 W1 → Sat W1 (J i * (Bx * G)) → YieldAt F (n - 1) P l (encs x) W1 fun e W' =>
      (e = .returned (.bool true) ∧ Same w0 W' ∧ Sat W' (J (i + 1) * (Bx * G))) ∨ (e = .returned (.bool false) ∧ Same w0 W' ∧ Sat W' (Jx * (Bx * G)))) →
    Same w0 W → Sat W (J 0 * Bx) →
    CallsIn F n P gf (#[.func (.yield l) #[] #[]] ++ lb) W fun e W' => (∃ v, e = .returned v) ∧ ((Same w0 W' ∧ Sat W' (J xs.length * Bx)) ∨ (Same w0 W' ∧ Sat W' (Jx * Bx)))
def satPost (w0 : World) (R : HProp) (Rx : Code → HProp) (G : HProp) : Exit → Act → World → Prop
  | .normal, _, W' => Same w0 W' ∧ Sat W' (R * G)
  | .ret, _, W' => Same w0 W' ∧ Sat W' (Rx .ret * G)
  | .exit id, _, W' => Same w0 W' ∧ Sat W' (Rx (.exit id) * G)
  | .goto t, _, W' => Same w0 W' ∧ Sat W' (Rx (.goto t) * G)
  | .panic _, _, _ => False
  | .outgrown, _, _ => False
theorem wpIn_rangeFunc_sat {α : Type} {F : Fence} {n : Nat} {P : Program} {g : Operand} {ps : Array Tmp} {assign body : Code} {Q : Exit → Act → World → Prop} {a : Act} {w : World}
    (hro : F.round = none) (h1 : 1 ≤ n) {gf : Nat} {lb : Array Value} (hg : a.eval g = .func (.func gf) #[] lb) (hFg : F.fn gf) (eg : ∀ args w, (callFunc gf args).run P w = .ok (.enter gf args) w)
    {encs : α → Array Value} {xs : List α} {Bx : HProp} {w0 : World} (hseq : SeqSat F (n - 1) P gf lb encs xs Bx w0) (hps : ∀ x, (encs x).size = ps.size)
    (R : Nat → HProp) (Rx : Code → HProp) (hsm : Same w0 w) (h0 : Sat w (R 0 * Bx)) (a₁ : α → Act)
    (hassign : ∀ (l : Nat) (x : α) (W : World) (K : Act → World → Prop), K (a₁ x) W →
      assign.wpIn (F.inRound l) (n - 1 - 1) P (Exit.then K (fun _ _ _ => False)) { tmps := (ps.zip (encs x)).foldl (fun t (p, v) => t.setIfInBounds p v) a.tmps, defers := [] } W)
    (hbody : ∀ (l i : Nat) (x : α) (G : HProp) (W : World), xs[i]? = some x → Same w0 W → Sat W (R i * G) → body.wpIn (F.inRound l) (n - 1 - 1) P (satPost w0 (R (i + 1)) Rx G) (a₁ x) W)
    (hdone : ∀ (D : Nat) (W : World), Same w0 W → Sat W (R xs.length * (pts D (.deferred (some [])) * Bx)) → Q .normal { a with defers := { target := .collected D, args := #[] } :: a.defers } W)
    (hstop : ∀ (D : Nat) (c : Code) (W : World), Same w0 W → Sat W (Rx c * (pts D (.deferred (some [])) * Bx)) → c.wpIn F n P Q { a with defers := { target := .collected D, args := #[] } :: a.defers } W) :
    (Code.rangeFunc g ps assign body).wpIn F n P Q a w := by
  refine wpIn_rangeFunc ?_
  intro fn hfn
  rw [hro]
  obtain ⟨rec, hrec⟩ : ∃ rec : LoopState → Option Code → Loop, rec = fun st pe => { state := st, pending := pe, fn, tmps := a.tmps, params := ps, assign, body, defers := w.heap.size } := ⟨_, rfl⟩
  obtain ⟨W1, hW1⟩ : ∃ W1, (w.alloc (.deferred (some []))).alloc (.loop (rec .ready none)) = W1 := ⟨_, rfl⟩
  have hS1 : Sat W1 (pts (w.heap.size + 1) (.loop (rec .ready none)) * (pts w.heap.size (.deferred (some [])) * (R 0 * Bx))) := by
    have h := (h0.alloc (.deferred (some []))).alloc (.loop (rec .ready none))
    rw [World.size_alloc, hW1] at h
    exact h
  have hM1 : Same w0 W1 := by rw [← hW1]; exact (hsm.alloc _).alloc _
  refine ⟨w.heap.size + 1, [{ target := .collected w.heap.size, args := #[] }], W1, { target := .fn (.func gf) lb, args := #[.func (.yield (w.heap.size + 1)) #[] #[]] }, W1, gf,
    #[.func (.yield (w.heap.size + 1)) #[] #[]] ++ lb, W1, ?_, ?_, ?_, ?_, fun _ => h1, ?_⟩
  · rw [← hW1, hrec]; exact run_enterLoop_outer _ _ _ _ _
  · simp only [resolve, hg]
    simp [go_sem]
  · intro f' hf'; simp [Target.leads] at hf'; subst hf'; exact hFg
  · simp [invoke, go_sem, eg]
  · generalize w.heap.size = D at hS1 hrec ⊢
    refine (hseq (D + 1) (fun i => R i * (pts (D + 1) (.loop (rec .ready none)) * pts D (.deferred (some [])))) (ex fun c => Rx c * (pts (D + 1) (.loop (rec .done (some c))) * pts D (.deferred (some []))))
      W1 ?_ hM1 (hS1.perm (by ac_rfl))).mono ?_
    · rintro i x W G' hx hm hs
      have hsl : Sat W (pts (D + 1) (.loop (rec .ready none)) * (R i * (pts D (.deferred (some [])) * (Bx * G')))) := hs.perm (by ac_rfl)
      have hl := hsl.block
      have hy := run_yield (P := P) (args := encs x) hl (by rw [hrec]; exact hps x)
      rw [hrec] at hy
      refine ⟨fn, _, assign, body, hy, roundIn_of_wpIn hfn (hassign _ x W _ ⟨_, run_beginRound hl (by rw [hrec]), ?_⟩)⟩
      have hs2 : Sat (W.putObj (D + 1) (.loop { rec .ready none with state := .busy })) (pts (D + 1) (.loop { rec .ready none with state := .busy }) * (R i * (pts D (.deferred (some [])) * (Bx * G')))) := hsl.putObj
      have hm2 : Same w0 (W.putObj (D + 1) (.loop { rec .ready none with state := .busy })) := hm.putObj _ _
      refine wpIn_mono (hbody _ i x (pts (D + 1) (.loop { rec .ready none with state := .busy }) * (pts D (.deferred (some [])) * (Bx * G'))) _ hx hm2 (hs2.perm (by ac_rfl))) ?_
      have fin : ∀ (jump : Option Code) (W3 : World) (X : HProp), Same w0 W3 → Sat W3 (X * (pts (D + 1) (.loop { rec .ready none with state := .busy }) * (pts D (.deferred (some [])) * (Bx * G')))) →
          (Instr.endRound (D + 1) jump).run P W3 = .ok (.bool jump.isNone) (W3.putObj (D + 1) (.loop (rec (if jump.isNone then .ready else .done) jump))) ∧
          Same w0 (W3.putObj (D + 1) (.loop (rec (if jump.isNone then .ready else .done) jump))) ∧
          Sat (W3.putObj (D + 1) (.loop (rec (if jump.isNone then .ready else .done) jump))) (X * (pts (D + 1) (.loop (rec (if jump.isNone then .ready else .done) jump)) * pts D (.deferred (some []))) * (Bx * G')) := fun jump W3 X hm3 hs3 => by
        have hs4 : Sat W3 (pts (D + 1) (.loop { rec .ready none with state := .busy }) * (X * (pts D (.deferred (some [])) * (Bx * G')))) := hs3.perm (by ac_rfl)
        have hl3 := hs4.block
        have := run_endRound (P := P) jump hl3
        rw [hrec] at this ⊢
        refine ⟨this, hm3.putObj _ _, ?_⟩
        have h5 := hs4.putObj (o' := .loop (rec (if jump.isNone then .ready else .done) jump))
        rw [hrec] at h5
        exact Sat.perm h5 (by ac_rfl)
      rintro e a3 W3 hp
      cases e with
      | normal =>
        obtain ⟨hm3, hs3⟩ := hp
        obtain ⟨hr, hm4, hs4⟩ := fin none W3 _ hm3 hs3
        exact ⟨_, _, hr, .inl ⟨rfl, hm4, hs4⟩⟩
      | ret =>
        obtain ⟨hm3, hs3⟩ := hp
        obtain ⟨hr, hm4, hs4⟩ := fin (some .ret) W3 _ hm3 hs3
        exact ⟨_, _, hr, .inr ⟨rfl, hm4, Sat.ex.2 ⟨.ret, hs4⟩⟩⟩
      | exit id =>
        obtain ⟨hm3, hs3⟩ := hp
        obtain ⟨hr, hm4, hs4⟩ := fin (some (.exit id)) W3 _ hm3 hs3
        exact ⟨_, _, hr, .inr ⟨rfl, hm4, Sat.ex.2 ⟨.exit id, hs4⟩⟩⟩
      | goto t =>
        obtain ⟨hm3, hs3⟩ := hp
        obtain ⟨hr, hm4, hs4⟩ := fin (some (.goto t)) W3 _ hm3 hs3
        exact ⟨_, _, hr, .inr ⟨rfl, hm4, Sat.ex.2 ⟨.goto t, hs4⟩⟩⟩
      | panic ch => exact hp.elim
      | outgrown => exact hp.elim
    · rintro e W2 ⟨⟨v, rfl⟩, (⟨hm, hs⟩ | ⟨hm, hs⟩)⟩
      · have hsl : Sat W2 (pts (D + 1) (.loop (rec .ready none)) * (R xs.length * (pts D (.deferred (some [])) * Bx))) := hs.perm (by ac_rfl)
        exact ⟨none, _, by have := run_endLoop (P := P) hsl.block (by rw [hrec]; simp); rw [hrec] at this; exact this, hdone D _ (hm.putObj _ _) ((hsl.putObj (o' := _)).right)⟩
      · obtain ⟨c, hc⟩ := Sat.ex.1 hs
        have hsl : Sat W2 (pts (D + 1) (.loop (rec .done (some c))) * (Rx c * (pts D (.deferred (some [])) * Bx))) := hc.perm (by ac_rfl)
        exact ⟨some c, _, by have := run_endLoop (P := P) hsl.block (by rw [hrec]; simp); rw [hrec] at this; exact this, hstop D c _ (hm.putObj _ _) ((hsl.putObj (o' := _)).right)⟩
end Go.Sl
end
section
namespace Go.Proofs.YtmcclbiaoeilkaaGreat
open Go.RowKit Go.Sl Go.ChangeMaps
abbrev encC (x : Nat × List UInt8) : Array Value := #[.int .i64 (x.1 : Int), .string (strB x.2)]
def pyXs (c : CkM) : List (Nat × List UInt8) := (List.range (partsN c + 1)).map fun i => (i, payM c i)
theorem pyXs_len (c : CkM) : (pyXs c).length = partsN c + 1 := by simp [pyXs]
theorem pyXs_at {c : CkM} {i : Nat} (h : i < partsN c + 1) : (pyXs c)[i]? = some (i, payM c i) := by simp [pyXs, h]
def pyB (B : Nat) (c : CkM) : HProp := pts B (.cells (ckA c) TCk (0, 0))
theorem py_cells {w : World} {B : Nat} {c : CkM} {X : HProp} (h : Sat w (pyB B c * X)) : w.cell? ⟨B, 2, none⟩ = some (.int .i64 c.seq) ∧ w.cell? ⟨B, 3, none⟩ = some (.string (strB c.image)) := by
  unfold pyB at h
  exact ⟨cells_at h.block 2, cells_at h.block 3⟩
theorem app_ownB {w : World} {v1 v2 : Value} {a b : List UInt8} {X : HProp} (hb : 0 < b.length) (hl : a.length + b.length ≤ 1000000) (h : Sat w (ownB v2 b * (ownB v1 a * X))) :
    ∃ v' w', (Builtin.append_ #[69, 69] 69 #[v1, v2]).run Tryz.prog w = .ok v' w' ∧ Same w w' ∧ Sat w' (ownB v' (a ++ b) * X) := by
  obtain ⟨g, cap, rfl, hc⟩ := ownAt_cells h hb
  obtain ⟨ti, hti, hz0, hts, hz2⟩ := info_parts infoB3
  have h' : Sat w (ownB v1 a * X) := h.right
  obtain ⟨v5, w5, hr5, hsm5, hs5⟩ := run_append_ownAt (P := Tryz.prog) 69 69 TByte ti _ Tryz.underlying69 hti hz0 (by rw [hts]; rfl) v1 a.length (secL a) (by rw [hts]; exact h') ⟨g, 0, none⟩ b.length cap (secL b) (by rw [hts]; simp [secL])
    (by
      intro j u hu
      rw [Addr.add_mid, Nat.zero_add]
      exact hc j u hu) (by intro u hu; simp only [secL, List.mem_map] at hu; obtain ⟨x, _, rfl⟩ := hu; rfl) (by unfold maxLen; omega) (by rw [hz2]; omega)
  rw [hts] at hs5
  refine ⟨v5, w5, hr5, hsm5, ?_⟩
  unfold ownB
  rw [List.length_append, show secL (a ++ b) = secL a ++ secL b by simp [secL]]
  exact hs5
structure PyS (w0 : World) (J : Nat → HProp) (B : Nat) (c : CkM) (rv iv : Value) (wr : World) : Prop where
  st : ∃ k : Nat, k ≤ partsN c ∧ iv = .int .i64 ((k : Int) + 1) ∧ rv = .string (strB (c.image.drop (40 * k))) ∧ Hid (Same w0 wr ∧ Sat wr (J (k + 1) * pyB B c))
theorem strB_isE (q : List UInt8) : (strB q).toList.isEmpty = q.isEmpty := by
  rw [Lib.toList_data]
  simp [strB]
theorem parts_drop {c : CkM} {k : Nat} (h : k ≤ partsN c) : c.image.drop (40 * k) = [] ↔ k = partsN c := by
  rw [List.drop_eq_nil_iff]
  unfold partsN at h ⊢
  omega
set_option maxRecDepth 100000 in
set_option maxHeartbeats 2000000 in
theorem ckpay_seq (F : Fence) (hF : Free F Tryz.prog) (n B : Nat) (g : GenM) (sq : Nat) (im : List UInt8) (hsq : sq < 9223372036854775808) (him : im.length ≤ 2621440) (w0 : World) :
    SeqSat F n Tryz.prog 132 #[.pointer (some ⟨B, 0, none⟩)] encC (pyXs ⟨g, (sq : Int), im⟩) (pyB B ⟨g, (sq : Int), im⟩) w0 := by
  intro l J Jx W hY hsm hs
  have hdd : ∀ k : Nat, (F.depth.isSome = true → 1 ≤ k) := hF.ask
  have hro := hF.round
  have hfn := hF.fn
  have HY := Lib.hid hY
  rw [pyXs_len]
  have H1 := Lib.hid (And.intro hsm hs)
  have hrz : (strB im).size = im.length := strB_size im
  have HIM := Lib.hid him
  have HSQ := Lib.hid hsq
  have HP0 := Lib.hid (show payM ⟨g, (sq : Int), im⟩ 0 = wireI sq ++ wireI im.length from by unfold payM; rw [if_pos rfl]; simp)
  have HXA := Lib.hid (fun i (h : i < partsN ⟨g, (sq : Int), im⟩ + 1) => pyXs_at (c := ⟨g, (sq : Int), im⟩) h)
  have HCS := Lib.hid (show ∀ (w' : World) (X : HProp), Sat w' (X * pyB B ⟨g, (sq : Int), im⟩) → w'.cell? ⟨B, 2, none⟩ = some (.int .i64 (sq : Int)) ∧ w'.cell? ⟨B, 3, none⟩ = some (.string (strB im)) from fun w' X h => py_cells (h.perm (star_comm _ _)))
  clear hY hsm hs him hsq
  refine callsIn_of_wp Tryz.func132 rfl (hF.fn _) ?_ hF.round
  simp only [Tryz.ntmps132, List.size_toArray, List.length_cons, List.length_nil, Nat.reduceAdd, Nat.reduceSub, Array.replicate_succ, Array.replicate_zero, List.push_toArray, List.append_toArray, List.nil_append, List.cons_append]
  gi_wp2
  refine regi_begin (fun w' => w'.cell? ⟨B, 2, none⟩ = some (.int .i64 (sq : Int)) ∧ w'.cell? ⟨B, 3, none⟩ = some (.string (strB im))) (by kernel_rfl) ?_
  replace H1 := Lib.hid (And.intro H1.out.1.drew H1.out.2.drew)
  generalize W.drew = w1 at H1 ⊢
  have hS0 := HCS.out w1 _ H1.out.2
  (apply regi_take hF 0 rfl rfl (by decide +kernel) rfl); (rintro w' ⟨h1, h2⟩; go_simp; rfl); exact hS0; simp only [List.setIfInBounds_toArray, List.set_cons_succ, List.set_cons_zero]
  (apply regi_take hF 1 rfl rfl (by decide +kernel) rfl); (rintro w' ⟨h1, h2⟩; go_simp; rfl); exact hS0; simp only [List.setIfInBounds_toArray, List.set_cons_succ, List.set_cons_zero]
  (apply regi_take hF 2 rfl rfl (by decide +kernel) rfl); (rintro w' ⟨h1, h2⟩; go_simp; rfl); exact hS0; simp only [List.setIfInBounds_toArray, List.set_cons_succ, List.set_cons_zero]
  (apply regi_take hF 4 rfl rfl (by decide +kernel) rfl); (rintro w' ⟨h1, h2⟩; go_simp; rfl); exact hS0; simp only [List.setIfInBounds_toArray, List.set_cons_succ, List.set_cons_zero]
  (apply regi_take hF 5 rfl rfl (by decide +kernel) rfl); (rintro w' ⟨h1, h2⟩; go_simp; rfl); exact hS0; simp only [List.setIfInBounds_toArray, List.set_cons_succ, List.set_cons_zero]
  (apply regi_take hF 6 rfl rfl (by decide +kernel) rfl); (rintro w' ⟨h1, h2⟩; go_simp; rfl); exact hS0; simp only [List.setIfInBounds_toArray, List.set_cons_succ, List.set_cons_zero]
  refine regi_call hF 3 rfl rfl (by decide +kernel) rfl (f := 133) (args := #[.int .i64 (sq : Int)]) (R := fun v w' => Hid (Same w1 w' ∧ Sat w' (ownB v (wireI sq) * (J 0 * pyB B ⟨g, (sq : Int), im⟩)))) (by kernel_rfl) (winti_any sq HSQ.out _ w1 H1.out.2) ?_
  rintro v2 w2 h2
  replace H1 := Lib.hid (And.intro (H1.out.1.trans h2.out.1) h2.out.2)
  replace hS0 := HCS.out w2 _ (H1.out.2.perm (star_assoc _ _ _).symm)
  refine ⟨hS0, ?_⟩
  simp only [List.setIfInBounds_toArray, List.set_cons_succ, List.set_cons_zero]
  refine regi_call hF 7 rfl rfl (by decide +kernel) rfl (f := 133) (args := #[.int .i64 (im.length : Int)]) (R := fun v w' => Hid (Same w2 w' ∧ Sat w' (ownB v (wireI im.length) * (ownB v2 (wireI sq) * (J 0 * pyB B ⟨g, (sq : Int), im⟩))))) (by kernel_rfl) (winti_any im.length (by have := HIM.out; omega) _ w2 H1.out.2) ?_
  rintro v3 w3 h3
  replace H1 := Lib.hid (And.intro (H1.out.1.trans h3.out.1) h3.out.2)
  replace hS0 := HCS.out w3 _ (H1.out.2.perm (show _ = (ownB v3 (wireI im.length) * (ownB v2 (wireI sq) * J 0)) * pyB B ⟨g, (sq : Int), im⟩ from by ac_rfl))
  refine ⟨hS0, ?_⟩
  simp only [List.setIfInBounds_toArray, List.set_cons_succ, List.set_cons_zero]
  clear h2 h3
  obtain ⟨v4, w4, hr4, hm4, hs4⟩ := app_ownB (show 0 < (wireI im.length).length by simp [wireI]) (by have h1 := wireI_length sq; have h2 := wireI_length im.length; omega) H1.out.2
  replace H1 := Lib.hid (And.intro (H1.out.1.trans hm4) hs4)
  replace hS0 := HCS.out w4 _ (H1.out.2.perm (star_assoc _ _ _).symm)
  refine regi_run hF 8 v4 w4 rfl rfl (by decide +kernel) rfl (exec_append rfl rfl rfl hr4) hS0 ?_
  simp only [List.setIfInBounds_toArray, List.set_cons_succ, List.set_cons_zero]
  refine regi_run hF 9 (.string (strB (wireI sq ++ wireI im.length))) w4 rfl rfl (by decide +kernel) rfl (exec_convert rfl rfl (run_str_own (by simp [wireI]) H1.out.2)) hS0 ?_
  simp only [List.setIfInBounds_toArray, List.set_cons_succ, List.set_cons_zero]
  clear hr4 hm4 hs4
  have H2 := Lib.hid (And.intro H1.out.1 H1.out.2.right)
  obtain ⟨fn, tmps, assign, body, hy, hR⟩ := HY.out 0 (0, payM ⟨g, (sq : Int), im⟩ 0) w4 emp (HXA.out 0 (Nat.succ_pos _)) H2.out.1 (H2.out.2.perm (by rw [star_comm (pyB _ _) emp, emp_star]))
  replace hy : (Instr.yield l #[.int .i64 0, .string (strB (payM ⟨g, (sq : Int), im⟩ 0))]).run Tryz.prog w4 = .ok (.round l fn tmps assign body) w4 := hy
  rw [HP0.out] at hy
  have HYY := Lib.hid hy
  clear hy H1
  refine regi_round hF 10 rfl rfl (by decide +kernel) rfl (R := fun v w' => (v = .bool true ∧ Hid (Same w0 w' ∧ Sat w' (J 1 * pyB B ⟨g, (sq : Int), im⟩))) ∨ (v = .bool false ∧ Hid (Same w0 w' ∧ Sat w' (Jx * pyB B ⟨g, (sq : Int), im⟩)))) (show _ = _ from by
    unfold execOp
    simp [resolve, invoke, go_sem, HYY.out]) (hR.mono fun e w' h => by
      rcases h with ⟨rfl, h1, h2⟩ | ⟨rfl, h1, h2⟩
      · exact ⟨_, rfl, .inl ⟨rfl, h1, h2.perm (by rw [star_comm (pyB _ _) emp, emp_star])⟩⟩
      · exact ⟨_, rfl, .inr ⟨rfl, h1, h2.perm (by rw [star_comm (pyB _ _) emp, emp_star])⟩⟩) ?_
  clear hR HYY H2 hS0
  rintro _ w5 (⟨rfl, h5⟩ | ⟨rfl, h5⟩)
  · have hS1 := HCS.out w5 _ h5.out.2
    refine ⟨hS1, ?_⟩
    simp only [List.setIfInBounds_toArray, List.set_cons_succ, List.set_cons_zero]
    (apply regi_take hF 11 rfl rfl (by decide +kernel) rfl); (rintro w' ⟨h1, h2⟩; go_simp; rfl); exact hS1; simp only [List.setIfInBounds_toArray, List.set_cons_succ, List.set_cons_zero]
    refine regi_done (by decide +kernel) ?_
    obtain ⟨-, c3⟩ := hS1
    gi_wp2
    have HST := Lib.hid (show PyS w0 J B ⟨g, (sq : Int), im⟩ (.string (strB im)) (.int .i64 1) w5 from ⟨⟨0, Nat.zero_le _, rfl, rfl, h5⟩⟩)
    clear h5 c3
    gi_loopw [3, 4] (fun rv iv wr => PyS w0 J B ⟨g, (sq : Int), im⟩ rv iv wr) (fun _ iv _ => partsN ⟨g, (sq : Int), im⟩ + 2 - (intOf iv).toNat)
    case atStart => exact HST.out
    case round =>
      clear HST HP0
      obtain ⟨k, hk, rfl, rfl, H1⟩ := hrel.st
      clear hrel
      have hd := parts_drop hk
      simp only at hd
      obtain ⟨q, hq⟩ : ∃ q, im.drop (40 * k) = q := ⟨_, rfl⟩
      have hqs : (strB q).size = q.length := strB_size q
      have hpq : payM ⟨g, (sq : Int), im⟩ (k + 1) = q.take 40 := by unfold payM; rw [if_neg (by omega)]; simp only [Nat.add_sub_cancel]; rw [hq]
      have hdq : im.drop (40 * (k + 1)) = q.drop (min 40 q.length) := by
        rw [← hq, List.drop_drop]
        rcases Nat.le_total 40 (im.drop (40 * k)).length with h | h
        · rw [Nat.min_eq_left h, Nat.mul_succ]
        · rw [Nat.min_eq_right h, List.length_drop]
          rw [List.length_drop] at h
          rw [List.drop_eq_nil_iff.2 (by omega), List.drop_eq_nil_iff.2 (by omega)]
      have hql : q.length ≤ 2621440 := by rw [← hq, List.length_drop]; have := HIM.out; omega
      rw [hq] at hd
      have HPQ := Lib.hid (And.intro hpq hdq)
      have HK := Lib.hid hk
      have HD := Lib.hid hd
      simp only
      rw [hq]
      have HQ := Lib.hid hq
      clear hq hpq hdq hd hk
      by_cases hqn : q = []
      · have HKP := Lib.hid (HD.out.1 hqn)
        subst hqn
        have hqe : (strB []).toList.isEmpty = true := strB_isE []
        gi_wp2
        obtain rfl : k = partsN ⟨g, (sq : Int), im⟩ := HKP.out
        go_end0
        exact ⟨⟨_, rfl⟩, .inl H1.out⟩
      · have hqe : (strB q).toList.isEmpty = false := by rw [strB_isE]; cases q with | nil => exact absurd rfl hqn | cons => rfl
        have hql0 : 0 < q.length := List.length_pos_iff.2 hqn
        have HQN := Lib.hid (show k < partsN ⟨g, (sq : Int), im⟩ from by have h1 := HD.out; have h2 := HK.out; rcases Nat.lt_or_ge k (partsN ⟨g, (sq : Int), im⟩) with h | h; exact h; exact absurd (h1.2 (by omega)) hqn)
        obtain ⟨m, hm⟩ : ∃ m, min 40 q.length = m := ⟨_, rfl⟩
        have hmi : min (40 : Int) (q.length : Int) = (m : Int) := by omega
        have hm1 : m ≤ q.length := by omega
        have hmI : (m : Int) ≤ (q.length : Int) := by omega
        have hmt : q.take 40 = q.take m := by
          rcases Nat.le_total 40 q.length with h | h
          · rw [show m = 40 by omega]
          · rw [show m = q.length by omega, List.take_of_length_le h, List.take_of_length_le (Nat.le_refl _)]
        have hx1 : (strB q).extract 0 m = strB (q.take m) := by rw [strB_sub]; simp [subL]
        have hx2 : (strB q).extract m q.length = strB (q.drop m) := by rw [strB_sub]; unfold subL; rw [List.take_of_length_le (by rw [List.length_drop]; omega)]
        replace HPQ := Lib.hid (show payM ⟨g, (sq : Int), im⟩ (k + 1) = q.take m ∧ im.drop (40 * (k + 1)) = q.drop m from ⟨HPQ.out.1.trans hmt, by rw [← hm]; exact HPQ.out.2⟩)
        have hw1 : IntKind.i64.wrap ((k : Int) + 1 + 1) = (k : Int) + 1 + 1 := IntWalk.i64_in _ (by have := HK.out; unfold partsN at this; simp only at this; have := HIM.out; omega)
        obtain ⟨fn, tmps, assign, body, hy, hR⟩ := HY.out (k + 1) (k + 1, payM ⟨g, (sq : Int), im⟩ (k + 1)) wr emp (HXA.out (k + 1) (by have := HQN.out; omega)) H1.out.1 (H1.out.2.perm (by rw [star_comm (pyB _ _) emp, emp_star]))
        replace hy : (Instr.yield l #[.int .i64 ((k : Int) + 1), .string (strB (payM ⟨g, (sq : Int), im⟩ (k + 1)))]).run Tryz.prog wr = .ok (.round l fn tmps assign body) wr := hy
        rw [HPQ.out.1] at hy
        clear hqn hm hmt
        gi_wp2_with ((try refine ⟨hdd _, ?_⟩); refine hR.mono ?_; clear hR; rintro e w6 (⟨rfl, h6, h7⟩ | ⟨rfl, h6, h7⟩); clear hy)
        · refine ⟨⟨⟨k + 1, HQN.out, congrArg (Value.int .i64) (by omega), ?_, h6, h7.perm (by rw [star_comm (pyB _ _) emp, emp_star])⟩⟩, ?_⟩
          · rw [HPQ.out.2]
          · have := HQN.out
            simp only [intOf]; omega
        · exact bodyPost_ret (results_none Tryz.results132 _ _ _) rfl ⟨⟨_, rfl⟩, .inr ⟨h6, h7.perm (by rw [star_comm (pyB _ _) emp, emp_star])⟩⟩
  · have hS1 := HCS.out w5 _ h5.out.2
    refine ⟨hS1, ?_⟩
    simp only [List.setIfInBounds_toArray, List.set_cons_succ, List.set_cons_zero]
    (apply regi_take hF 11 rfl rfl (by decide +kernel) rfl); (rintro w' ⟨h1, h2⟩; go_simp; rfl); exact hS1; simp only [List.setIfInBounds_toArray, List.set_cons_succ, List.set_cons_zero]
    refine regi_done (by decide +kernel) ?_
    clear hS1
    gi_wp2
    exact bodyPost_ret (results_none Tryz.results132 _ _ _) rfl ⟨⟨_, rfl⟩, .inr ⟨h5.out.1, h5.out.2⟩⟩
theorem ckpay_any (c : CkM) (F : HProp) (w : World) (hF : Sat w F) :
    Calls Tryz.prog 86 #[.agg (ckA c)] w fun e w' => ∃ B, e = .returned (.func (.func 132) #[] #[.pointer (some ⟨B, 0, none⟩)]) ∧ Hid (Same w w' ∧ Sat w' (pyB B c * F)) := by
  have H1 := Lib.hid (And.intro ((Same.refl w).alloc (.cells (ckA c) TCk)) (hF.alloc (.cells (ckA c) TCk)))
  clear hF
  go_enter Tryz.func86, Tryz.ntmps86
  go_wp2
  go_ret
  refine ⟨_, rfl, H1.out.1, ?_⟩
  unfold pyB
  exact H1.out.2
end Go.Proofs.YtmcclbiaoeilkaaGreat
end
