import Derived.Test.YtmcclbiaoeilkaaGreatP25
import Derived.Test.YtmcclbiaoeilkaaGreatP02
/- Part 26 of a proof; the last part says what is proved. -/
namespace Go.Proofs.YtmcclbiaoeilkaaGreat
open Go.RowKit Go.Sl Go.ChangeMaps
def svL (l : List (Nat × Int)) : KV := l.map fun x => ((x.1 : Int), .int .i64 x.2)
theorem svL_app (l : List (Nat × Int)) (k : Nat) (a : Int) : svL (l ++ [(k, a)]) = svL l ++ [((k : Int), .int .i64 a)] := by simp [svL]
theorem upd_fresh {l : List (Nat × Int)} {k : Nat} (h : ∀ x ∈ l, x.1 < k) (a : Int) : upd (svL l) (k : Int) (.int .i64 a) = svL (l ++ [(k, a)]) := by
  rw [svL_app]
  induction l with
  | nil => rfl
  | cons x r ih =>
    have h1 := h x (by simp)
    have e := ih (fun y hy => h y (by simp [hy]))
    show upd (((x.1 : Int), .int .i64 x.2) :: svL r) _ _ = ((x.1 : Int), .int .i64 x.2) :: (svL r ++ _)
    simp only [upd]
    rw [if_neg (by omega), e]
theorem upd_last {l : List (Nat × Int)} {k : Nat} (h : ∀ x ∈ l, x.1 < k) (a b : Int) : upd (svL (l ++ [(k, a)])) (k : Int) (.int .i64 b) = svL (l ++ [(k, b)]) := by
  rw [svL_app, svL_app]
  induction l with
  | nil => simp [svL, upd]
  | cons x r ih =>
    have h1 := h x (by simp)
    have e := ih (fun y hy => h y (by simp [hy]))
    show upd (((x.1 : Int), .int .i64 x.2) :: (svL r ++ _)) _ _ = ((x.1 : Int), .int .i64 x.2) :: (svL r ++ _)
    simp only [upd]
    rw [if_neg (by omega), e]
theorem lk_last {l : List (Nat × Int)} {k : Nat} (h : ∀ x ∈ l, x.1 < k) (a : Int) : lk (svL (l ++ [(k, a)])) (k : Int) = some (.int .i64 a) := by
  rw [← upd_fresh h, lk_upd, if_pos rfl]
theorem svFrom_skip {c : CkM} {S : ShelfM} {l : List (Nat × Int)} {k m : Nat} (h : S.state k ≠ 1) : svFrom c S l k (m + 1) = svFrom c S l (k + 1) m := by
  show (if _ then _ else _) = _
  rw [if_pos h]
theorem svFrom_err {c : CkM} {S : ShelfM} {l : List (Nat × Int)} {k m : Nat} (h : S.state k = 1) (h2 : (writeM S k (nextM S k) c).2 ≠ 0) : svFrom c S l k (m + 1) = ((writeM S k (nextM S k) c).1, l, (writeM S k (nextM S k) c).2) := by
  show (if _ then _ else _) = _
  rw [if_neg (fun e => e h), if_pos h2]
theorem svFrom_ok {c : CkM} {S : ShelfM} {l : List (Nat × Int)} {k m : Nat} (h : S.state k = 1) (h2 : (writeM S k (nextM S k) c).2 = 0) : svFrom c S l k (m + 1) = svFrom c (writeM S k (nextM S k) c).1 (l ++ [(k, nextM S k)]) (k + 1) m := by
  show (if _ then _ else _) = _
  rw [if_neg (fun e => e h), if_neg (by rw [h2]; simp)]
structure SvS (w : World) (p : Nat) (c : CkM) (S : ShelfM) (mB cB : Nat) (A : Array Value) (F : HProp) (m : Nat) (iv : Value) (wr : World) : Prop where
  st : ∃ (k : Nat) (Sk : ShelfM) (l : List (Nat × Int)) (es : Array MapEntry) (ck : Nat) (X : HProp), k ≤ m ∧ l.length ≤ k ∧ iv = .int .i64 (k : Int) ∧ Hid (svFrom c S [] 0 m = svFrom c Sk l k (m - k) ∧ (∀ x ∈ l, x.1 < k)) ∧ Hid (MapL es ck (svL l)) ∧ Hid (Same w wr ∧ Sat wr (shelfAt SH p Sk * (pts mB (.map es ck) * (pts cB (.cells A TCk (0, 0)) * (X * F)))))
theorem sv_cells2 {w : World} {cB p mB : Nat} {o : Obj} {S : ShelfM} {a b c d : Value} {F : HProp} (h : Sat w (shelfAt SH p S * (pts mB o * (pts cB (.cells #[a, b, c, d] TCk (0, 0)) * F)))) : w.cell? ⟨cB, 0, none⟩ = some a ∧ w.cell? ⟨cB, 1, none⟩ = some b ∧ w.cell? ⟨cB, 2, none⟩ = some c ∧ w.cell? ⟨cB, 3, none⟩ = some d ∧ cB < w.heap.size ∧ mB < w.heap.size ∧ w.heap[mB]? = some o :=
  ⟨cells_at h.right.right.block 0, cells_at h.right.right.block 1, cells_at h.right.right.block 2, cells_at h.right.right.block 3, h.right.right.lt, h.right.lt, h.right.block⟩
theorem sv_end2 {w W : World} {mB cB p : Nat} {o : Obj} {S : ShelfM} {A : Array Value} {X F : HProp} (h1 : Same w W) (h2 : Sat W (shelfAt SH p S * (pts mB o * (pts cB (.cells A TCk (0, 0)) * (X * F))))) : Hid (Same w W ∧ Sat W (shelfAt SH p S * F)) :=
  ⟨h1, (h2.perm (show _ = (pts mB o * (pts cB (.cells A TCk (0, 0)) * X)) * (shelfAt SH p S * F) from by ac_rfl)).right⟩
theorem len_kv13 {P : Program} {w : World} {T K E : TypeId} {r : Nat} {es : Array MapEntry} {clock : Nat} {l : KV} (hT : P.underlying T = some (.map K E)) (hb : w.heap[r]? = some (.map es clock)) (hl : MapL es clock l) (ty : TypeId) :
    (Builtin.len_ #[T] ty #[.map (some r)]).run P w = .ok (.int .i64 (l.length : Int)) w := by
  simp [Builtin.len_, run_underlying hT, MapKept.run_getObj_map hb, goInt, Result.andThen, hl.size]
theorem cnt_step (g : MapEntry → Bool) (sn : List Nat) (e : MapEntry) (he : e.born ∉ sn) : ∀ L : List MapEntry, (L.map (·.born)).Nodup → e ∈ L → (L.filter fun x => (sn ++ [e.born]).contains x.born && g x).length = (L.filter fun x => sn.contains x.born && g x).length + if g e = true then 1 else 0
  | a :: t, hn, hm => by
    simp only [List.map_cons, List.nodup_cons] at hn
    by_cases hab : a.born = e.born
    · have hae : a = e := by
        rcases List.mem_cons.1 hm with h | h
        · exact h.symm
        · exact absurd (hab ▸ List.mem_map_of_mem h) hn.1
      subst hae
      have ht : t.filter (fun x => (sn ++ [a.born]).contains x.born && g x) = t.filter fun x => sn.contains x.born && g x := by
        refine List.filter_congr fun x hx => ?_
        have hne : x.born ≠ a.born := fun h => hn.1 (h ▸ List.mem_map_of_mem hx)
        congr 1
        rw [Bool.eq_iff_iff]
        simp [hne]
      rw [List.filter_cons, List.filter_cons, ht]
      have h1 : (sn ++ [a.born]).contains a.born = true := by simp
      have h2 : sn.contains a.born = false := by simpa using he
      rw [h1, h2]
      cases g a <;> simp
    · have hm' : e ∈ t := by
        rcases List.mem_cons.1 hm with h | h
        · exact absurd (by rw [h]) hab
        · exact h
      have ih := cnt_step g sn e he t hn.2 hm'
      have h1 : (sn ++ [e.born]).contains a.born = sn.contains a.born := by
        rw [Bool.eq_iff_iff]; simp [hab]
      rw [List.filter_cons, List.filter_cons, h1]
      split
      · rw [List.length_cons, List.length_cons, ih]; omega
      · exact ih
def un13 (mb r : Nat) (w : World) : Nat := match w.heap[mb]?, w.heap[r]? with
  | some (.map es _), some (.mapIter _ _ seen _) => es.size - (es.toList.filter fun x => seen.toList.contains x.born && true).length
  | _, _ => 0
theorem un13_step {es : Array MapEntry} {sn : List Nat} {e : MapEntry} (hb : (es.toList.map (·.born)).Nodup) (hm : e ∈ es.toList) (he : e.born ∉ sn) : es.size - (es.toList.filter fun x => (sn ++ [e.born]).contains x.born && true).length < es.size - (es.toList.filter fun x => sn.contains x.born && true).length := by
  have h1 := cnt_step (fun _ => true) sn e he es.toList hb hm
  have h2 := List.length_filter_le (fun x : MapEntry => (sn ++ [e.born]).contains x.born && true) es.toList
  simp only [Array.length_toList] at h2
  simp only [if_true] at h1
  omega
def ckGood (S : ShelfM) (c : CkM) (e : MapEntry) : Bool := decide (ckRead S (intOf e.key) (intOf e.val) = (c, 0))
theorem cnt_all {S : ShelfM} {c : CkM} {es : Array MapEntry} {ck : Nat} {l : List (Nat × Int)} (hM : MapL es ck (svL l)) : (es.toList.filter (ckGood S c)).length = countM S c l := by
  have h := hM.ent
  unfold countM
  have e1 : es.toList.filter (ckGood S c) = es.toList.filter ((fun q : Value × Value => decide (ckRead S (intOf q.1) (intOf q.2) = (c, 0))) ∘ fun e => (e.key, e.val)) := rfl
  have h2 : ((es.toList.map fun e => (e.key, e.val)).filter fun q : Value × Value => decide (ckRead S (intOf q.1) (intOf q.2) = (c, 0))).length = (es.toList.filter (ckGood S c)).length := by rw [List.filter_map, List.length_map]; rfl
  rw [← h2, h, List.filter_map, List.length_map]
  unfold svL
  rw [List.filter_map, List.length_map]
  rfl
theorem ent_in {es : Array MapEntry} {ck : Nat} {l : List (Nat × Int)} (hM : MapL es ck (svL l)) {e : MapEntry} (he : e ∈ es.toList) : ∃ x ∈ l, e.key = .int .i64 (x.1 : Int) ∧ e.val = .int .i64 x.2 := by
  have h : (e.key, e.val) ∈ es.toList.map fun e => (e.key, e.val) := List.mem_map_of_mem (f := fun e : MapEntry => (e.key, e.val)) he
  rw [hM.ent] at h
  unfold svL at h
  simp only [List.map_map, List.mem_map, Function.comp_apply, Prod.mk.injEq] at h
  obtain ⟨x, hx, h1, h2⟩ := h
  exact ⟨x, hx, h1.symm, h2.symm⟩
theorem ck_eq (a b c a' b' c' : Int) (s s' : List UInt8) (w : World) : (binOp .eql TCk (.agg #[.int .i64 a, .int .i64 b, .int .i64 c, .string (strB s)]) (.agg #[.int .i64 a', .int .i64 b', .int .i64 c', .string (strB s')])).run Tryz.prog w = .ok (.bool (decide ((⟨⟨a, b⟩, c, s⟩ : CkM) = ⟨⟨a', b'⟩, c', s'⟩))) w := by
  have e : ((strB s).toList == (strB s').toList) = decide (s = s') := by
    rw [Lib.toList_data, Lib.toList_data]
    show (s.toArray.toList == s'.toArray.toList) = _
    rw [Bool.eq_iff_iff]; simp
  have h : decide ((⟨⟨a, b⟩, c, s⟩ : CkM) = ⟨⟨a', b'⟩, c', s'⟩) = (a == a' && (b == b' && (c == c' && ((strB s).toList == (strB s').toList)))) := by
    rw [e, Bool.eq_iff_iff]; simp [and_assoc]
  rw [h]
  go_simp
  by_cases h1 : a = a' <;> by_cases h2 : b = b' <;> by_cases h3 : c = c' <;> by_cases h4 : s = s' <;> simp [h1, h2, h3, h4]
theorem guardCk : Tryz.prog.eqGuardType Tryz.prog.depth TCk = false := by kernel_rfl
theorem exec_eqCk {a : Act} {o : Oper} {w : World} {x y : Operand} {t2 t : TypeId} {xs ys : Array Value} {r : Bool} (hm : Tryz.prog.eqGuardType Tryz.prog.depth t = false) (ho : o.op = .binOp .eql t x y t2) (hx : a.eval x = .agg xs) (hy : a.eval y = .agg ys)
    (h : (binOp .eql t (.agg xs) (.agg ys)).run Tryz.prog w = .ok (.bool r) w) : (execOp a.eval o).run Tryz.prog w = .ok (.value (.bool r)) w := by
  have hg := run_eqGuard_agg (P := Tryz.prog) (w := w) .eql t x y xs ys hm
  unfold execOp
  simp only [ho, Sem.run_bind, Sem.run_pure, hx, hy, hg, h, Result.andThen_ok]
structure LpS (w : World) (p : Nat) (c : CkM) (Sk : ShelfM) (mB cB it : Nat) (A : Array Value) (F : HProp) (es : Array MapEntry) (ck : Nat) (nv : Value) (wq : World) : Prop where
  st : ∃ (seen : Array Nat) (X : HProp), nv = .int .i64 ((es.toList.filter fun x => seen.toList.contains x.born && ckGood Sk c x).length : Int) ∧ Hid (Same w wq ∧ Sat wq (pts it (.mapIter (some mB) ck seen ck) * (pts mB (.map es ck) * (shelfAt SH p Sk * (pts cB (.cells A TCk (0, 0)) * (X * F))))))
theorem lp_cells {w : World} {cB p it mB : Nat} {o o2 : Obj} {S : ShelfM} {a b c d : Value} {F : HProp} (h : Sat w (pts it o2 * (pts mB o * (shelfAt SH p S * (pts cB (.cells #[a, b, c, d] TCk (0, 0)) * F))))) : w.cell? ⟨cB, 0, none⟩ = some a ∧ w.cell? ⟨cB, 1, none⟩ = some b ∧ w.cell? ⟨cB, 2, none⟩ = some c ∧ w.cell? ⟨cB, 3, none⟩ = some d ∧ cB < w.heap.size :=
  ⟨cells_at h.right.right.right.block 0, cells_at h.right.right.right.block 1, cells_at h.right.right.right.block 2, cells_at h.right.right.right.block 3, h.right.right.right.lt⟩
theorem zeroI13 (w : World) : (zeroValue 3).run Tryz.prog w = .ok (.int .i64 0) w := by kernel_rfl
set_option maxRecDepth 20000 in
set_option maxHeartbeats 4000000 in
theorem save_main (p : Nat) (S : ShelfM) (F : HProp) (ge gc : Int) (sq : Nat) (im : List UInt8) (hsq : sq < 9223372036854775808) (hs : decide ((sq : Int) < 0) = false) (he : wordM ge = true) (hc : wordM gc = true) (hz : (ge == 0) = false ∨ ((ge == 0) = true ∧ (gc == 0) = false)) (hl : decide (capM S.cfg < (im.length : Int)) = false) (hoff : S.off = false) (w : World) (hS : Sat w (shelfAt SH p S * F)) :
    Calls Tryz.prog 10 #[.pointer (some ⟨p, 0, none⟩), .agg #[.int .i64 ge, .int .i64 gc, .int .i64 (sq : Int), .string (strB im)]] w (SvOut p F (saveM S ⟨⟨ge, gc⟩, (sq : Int), im⟩) w) := by
  have HWE := Lib.hid (show ∀ (W : World), Calls Tryz.prog 34 #[.int .i64 ge] W fun e w' => e = .returned (.bool true) ∧ W = w' from fun W => by rw [← he]; exact word_any ge W)
  have HWC := Lib.hid (show ∀ (W : World), Calls Tryz.prog 34 #[.int .i64 gc] W fun e w' => e = .returned (.bool true) ∧ W = w' from fun W => by rw [← hc]; exact word_any gc W)
  obtain ⟨m, hm⟩ : ∃ m : Nat, S.cfg.disks = (m : Int) := ⟨S.cfg.disks.toNat, by have := (shelfAt_wf hS).cfg.disks; omega⟩
  have HM64 := Lib.hid (show m ≤ 64 from by have := (shelfAt_wf hS).cfg.disks; omega)
  have HGO := Lib.hid (show genOK ⟨ge, gc⟩ = true from by
    cases h : genOK ⟨ge, gc⟩ with
    | true => rfl
    | false =>
      have h2 := (save_bits ge gc (sq : Int) im).1 (.inr h)
      have e1 := of_decide_eq_false hs
      rw [he, hc] at h2
      simp at h2 hz
      omega)
  have HPC := Lib.hid (parts_cap (c := ⟨⟨ge, gc⟩, (sq : Int), im⟩) (shelfAt_wf hS).cfg.image.2 (shelfAt_wf hS).cfg.image.1 (by have := of_decide_eq_false hl; simp only; omega))
  have hmm := @run_makeMap Tryz.prog
  obtain ⟨R, hR⟩ : ∃ R, saveM S ⟨⟨ge, gc⟩, (sq : Int), im⟩ = R := ⟨_, rfl⟩
  have HR := Lib.hid (show R = if (svFrom ⟨⟨ge, gc⟩, (sq : Int), im⟩ S [] 0 m).2.2 ≠ 0 then ((svFrom ⟨⟨ge, gc⟩, (sq : Int), im⟩ S [] 0 m).1, 0, (svFrom ⟨⟨ge, gc⟩, (sq : Int), im⟩ S [] 0 m).2.2) else if (svFrom ⟨⟨ge, gc⟩, (sq : Int), im⟩ S [] 0 m).2.1 = [] then ((svFrom ⟨⟨ge, gc⟩, (sq : Int), im⟩ S [] 0 m).1, 0, 15) else ((svFrom ⟨⟨ge, gc⟩, (sq : Int), im⟩ S [] 0 m).1, (countM (svFrom ⟨⟨ge, gc⟩, (sq : Int), im⟩ S [] 0 m).1 ⟨⟨ge, gc⟩, (sq : Int), im⟩ (svFrom ⟨⟨ge, gc⟩, (sq : Int), im⟩ S [] 0 m).2.1 : Int), 0) from by
    rw [← hR]
    unfold saveM
    rw [if_neg, if_neg (of_decide_eq_false hl), if_neg (by rw [hoff]; simp), show S.cfg.disks.toNat = m by omega]
    rintro (h | h)
    · exact of_decide_eq_false hs h
    · rw [HGO.out] at h; cases h)
  rw [hR]
  clear hR
  have hwf := shelfAt_wf hS
  obtain ⟨mx, hmx⟩ : ∃ mx, capM S.cfg = mx := ⟨_, rfl⟩
  rw [hmx] at hl
  have hci := hwf.cfg.image
  have HCFG := Lib.hid (show ∀ (W : World) (X : HProp), Sat W (shelfAt SH p S * X) → Calls Tryz.prog 26 #[.pointer (some ⟨p, 0, none⟩)] W fun e w' => e = .returned (.agg (cfgA S.cfg)) ∧ Below W.heap.size W w' from fun W X h => config_any p S X W h)
  have HCAP := Lib.hid (show ∀ (W : World), Calls Tryz.prog 22 #[.agg (cfgA S.cfg)] W fun e w' => e = .returned (.int .i64 mx) ∧ Below W.heap.size W w' from fun W => by rw [← hmx]; exact ckcap_any S.cfg hci.1 hci.2 W)
  clear hci hmx hwf
  have hsz : (strB im).size = im.length := strB_size im
  have HUP := Lib.hid (show ∀ (W : World) (X : HProp), Sat W (shelfAt SH p S * X) → Calls Tryz.prog 35 #[.pointer (some ⟨p, 0, none⟩)] W fun e w' => e = .returned (.bool (!S.off)) ∧ W = w' from fun W X h => up_any p S X W h)
  rw [hoff] at HUP
  have H1 := Lib.hid (And.intro ((Same.refl w).alloc (.cells #[.int .i64 ge, .int .i64 gc, .int .i64 (sq : Int), .string (strB im)] TCk)) ((hS.alloc (.cells #[.int .i64 ge, .int .i64 gc, .int .i64 (sq : Int), .string (strB im)] TCk)).perm (show _ = shelfAt SH p S * (pts w.heap.size (.cells #[.int .i64 ge, .int .i64 gc, .int .i64 (sq : Int), .string (strB im)] TCk (0, 0)) * F) from by ac_rfl)))
  clear hS
  go_enter Tryz.func10, Tryz.ntmps10
  go_upto_region 1 with (fail)
  generalize w.alloc (.cells #[.int .i64 ge, .int .i64 gc, .int .i64 (sq : Int), .string (strB im)] TCk) = w1 at H1 ⊢
  generalize w.heap.size = cB at H1 ⊢
  obtain ⟨c0, c1, c2, c3, lc⟩ := sv_cells H1.out.2
  rcases hz with hz | ⟨hz, hz2⟩
  all_goals
    go_upto_region 3 with (first
      | (go_at_call 34; (with_reducible refine (HWE.out _).mono ?_); rintro e w2 ⟨rfl, rfl⟩)
      | (go_at_call 34; (with_reducible refine (HWC.out _).mono ?_); rintro e w2 ⟨rfl, rfl⟩))
    refine reg_begin (fun w' => w'.cell? ⟨cB, 3, none⟩ = some (.string (strB im))) (by kernel_rfl) ?_
    replace H1 := Lib.hid (And.intro H1.out.1.drew H1.out.2.drew)
    generalize w1.drew = w2 at H1 ⊢
    clear c0 c1 c2 c3 lc HWE HWC
    have hS0 := (sv_cells H1.out.2).2.2.2.1
    (apply reg_take 0 rfl rfl (by decide +kernel) rfl); (intro w' h3'; go_simp; rfl); exact hS0; simp only [List.setIfInBounds_toArray, List.set_cons_succ, List.set_cons_zero]
    (apply reg_take 1 rfl rfl (by decide +kernel) rfl); (intro w' h3'; go_simp; rfl); exact hS0; simp only [List.setIfInBounds_toArray, List.set_cons_succ, List.set_cons_zero]
    (apply reg_take 2 rfl rfl (by decide +kernel) rfl); (intro w' h3'; go_simp; rfl); exact hS0; simp only [List.setIfInBounds_toArray, List.set_cons_succ, List.set_cons_zero]
    (apply reg_take 3 rfl rfl (by decide +kernel) rfl); (intro w' h3'; go_simp; rfl); exact hS0; simp only [List.setIfInBounds_toArray, List.set_cons_succ, List.set_cons_zero]
    refine reg_call 4 rfl rfl (by decide +kernel) rfl (f := 26) (args := #[.pointer (some ⟨p, 0, none⟩)]) (R := fun v w' => v = .agg (cfgA S.cfg) ∧ Hid (Below w2.heap.size w2 w')) (by kernel_rfl) ((HCFG.out w2 _ H1.out.2).mono fun e w' h => ⟨_, h.1, rfl, h.2⟩) ?_
    rintro _ w3 ⟨rfl, hb⟩
    replace H1 := Lib.hid (And.intro (H1.out.1.below hb.out) (H1.out.2.below hb.out))
    replace hS0 := (sv_cells H1.out.2).2.2.2.1
    refine ⟨hS0, ?_⟩
    simp only [List.setIfInBounds_toArray, List.set_cons_succ, List.set_cons_zero]
    refine reg_call 5 rfl rfl (by decide +kernel) rfl (f := 22) (args := #[.agg (cfgA S.cfg)]) (R := fun v w' => v = .int .i64 mx ∧ Hid (Below w3.heap.size w3 w')) (by kernel_rfl) ((HCAP.out w3).mono fun e w' h => ⟨_, h.1, rfl, h.2⟩) ?_
    rintro _ w4 ⟨rfl, hb2⟩
    replace H1 := Lib.hid (And.intro (H1.out.1.below hb2.out) (H1.out.2.below hb2.out))
    replace hS0 := (sv_cells H1.out.2).2.2.2.1
    refine ⟨hS0, ?_⟩
    simp only [List.setIfInBounds_toArray, List.set_cons_succ, List.set_cons_zero]
    (apply reg_take 6 rfl rfl (by decide +kernel) rfl); (intro w' _; go_simp; rfl); exact hS0; simp only [List.setIfInBounds_toArray, List.set_cons_succ, List.set_cons_zero]
    (apply reg_take 7 rfl rfl (by decide +kernel) rfl); (intro w' _; go_simp; rfl); exact hS0; simp only [List.setIfInBounds_toArray, List.set_cons_succ, List.set_cons_zero]
    refine reg_done (by decide +kernel) ?_
    clear hS0 hb hb2 HCAP
    go_upto_region 9 with (first
      | (go_at_call 35; refine (HUP.out w4 _ H1.out.2).mono ?_; rintro e w5 ⟨rfl, rfl⟩)
      | (go_at_call 26; refine (HCFG.out _ _ (H1.out.2.allocKeep (.map #[] 0))).mono ?_; rintro e w5 ⟨rfl, hb⟩; have hfd : (Instr.field 23 (.agg (cfgA S.cfg)) 0).run Tryz.prog w5 = .ok (.int .i64 (m : Int)) w5 := by rw [← hm]; exact run_disks S.cfg w5))
    have H2 := Lib.hid (And.intro ((H1.out.1.alloc (.map #[] 0)).below hb) ((H1.out.2.alloc (.map #[] 0)).below hb))
    generalize w4.heap.size = mB at H2 ⊢
    clear hb hfd H1 hs he hc hz hl hoff HCFG HUP hmm hm hsz
    go_loopw [57] (fun iv wr => SvS w p ⟨⟨ge, gc⟩, (sq : Int), im⟩ S mB cB #[.int .i64 ge, .int .i64 gc, .int .i64 (sq : Int), .string (strB im)] F m iv wr) (fun iv _ => m - (intOf iv).toNat)
    case atStart => exact ⟨⟨0, S, [], #[], 0, emp, Nat.zero_le _, Nat.le_refl _, rfl, Lib.hid ⟨by rw [Nat.sub_zero], by simp⟩, Lib.hid (MapL.empty 0), Lib.hid ⟨H2.out.1, H2.out.2.perm (by rw [emp_star]; ac_rfl)⟩⟩⟩
    case round =>
      clear H2
      obtain ⟨k, Sk, l, es, ck, X, hk, hll, rfl, HK, HM, H1⟩ := hrel.st
      have HLL := Lib.hid hll
      clear hll
      clear hrel
      by_cases hlt : k < m
      · have hltd : decide ((k : Int) < (m : Int)) = true := decide_eq_true (by omega)
        have hki : (k : Int) < (m : Int) := by omega
        have hw1 : IntKind.i64.wrap ((k : Int) + 1) = (k : Int) + 1 := IntWalk.i64_in _ (by have := HM64.out; omega)
        have HSTA := Lib.hid (state_any p Sk _ (k : Int) wr H1.out.2)
        have HLT := Lib.hid hlt
        by_cases hst : Sk.state (k : Int) = 1
        · have HST := Lib.hid hst
          rw [hst] at HSTA
          obtain ⟨es4, ck4, hup, hM4⟩ := run_mapUpdate_kv (P := Tryz.prog) (w := wr) Tryz.underlying90 Tryz.underlying3 (sv_cells2 H1.out.2).2.2.2.2.2.2 HM.out (k : Int) (.int .i64 2)
          rw [upd_fresh HK.out.2] at hM4
          have H4 := Lib.hid (And.intro (H1.out.1.setBlock (r := mB) (.map es4 ck4)) ((H1.out.2.perm (star_left_comm _ _ _)).setBlock (o' := .map es4 ck4)))
          have HM4 := Lib.hid hM4
          clear hst hM4 hlt hk
          go_upto_region 13 with (go_at_call 36; refine HSTA.out.mono ?_; rintro e w2 ⟨rfl, rfl⟩)
          generalize setBlock wr mB (.map es4 ck4) = w2 at H4 ⊢
          obtain ⟨⟨ar, ⟨⟨ne, nc⟩, nsq, ni⟩, en⟩, hnk⟩ : ∃ r, newestM Sk (k : Int) = r := ⟨_, rfl⟩
          have hnw := newest_any p Sk _ (k : Int) w2 (H4.out.2.perm (star_left_comm _ _ _))
          rw [hnk] at hnw
          have HN1 := Lib.hid hnw
          have HNX := Lib.hid (show nextM Sk (k : Int) = if en = 0 ∧ ar = 2 then 3 else 2 from by unfold nextM; rw [hnk])
          clear hnk hnw hup HSTA
          go_upto_region 14 with (go_at_call 18; refine HN1.out.mono ?_; rintro e w3 ⟨rfl, h2, h3⟩; replace H4 := Lib.hid (And.intro (H4.out.1.trans h2) h3); clear h2 h3; unfold ckA)
          clear HN1
          replace H4 := Lib.hid (And.intro (H4.out.1.alloc (.cells #[.int .i64 ne, .int .i64 nc, .int .i64 nsq, .string (strB ni)] TCk)) ((H4.out.2.alloc (.cells #[.int .i64 ne, .int .i64 nc, .int .i64 nsq, .string (strB ni)] TCk)).perm (show _ = shelfAt SH p Sk * (pts mB (.map es4 ck4) * (pts cB (.cells #[.int .i64 ge, .int .i64 gc, .int .i64 (sq : Int), .string (strB im)] TCk (0, 0)) * ((pts w3.heap.size (.cells #[.int .i64 ne, .int .i64 nc, .int .i64 nsq, .string (strB ni)] TCk (0, 0)) * X) * F))) from by ac_rfl)))
          generalize w3.alloc (.cells #[.int .i64 ne, .int .i64 nc, .int .i64 nsq, .string (strB ni)] TCk) = w5 at H4 ⊢
          generalize w3.heap.size = nB at H4 ⊢
          by_cases hen : en = 0
          case pos =>
            subst hen
            by_cases har : ar = 2
            case pos =>
              subst har
              obtain ⟨es6, ck6, hup, hM6⟩ := run_mapUpdate_kv (P := Tryz.prog) (w := w5) Tryz.underlying90 Tryz.underlying3 (sv_cells2 H4.out.2).2.2.2.2.2.2 HM4.out (k : Int) (.int .i64 3)
              rw [upd_last HK.out.2] at hM6
              have HM6 := Lib.hid hM6
              have H6 := Lib.hid (And.intro (H4.out.1.setBlock (r := mB) (.map es6 ck6)) (((H4.out.2.perm (star_left_comm _ _ _)).setBlock (o' := .map es6 ck6)).perm (star_left_comm _ _ _)))
              have HA := Lib.hid (show nextM Sk (k : Int) = 3 ∧ ((3 : Int) = 2 ∨ (3 : Int) = 3) from ⟨by rw [HNX.out]; rfl, .inr rfl⟩)
              clear hM6 HNX
              go_upto_region 16 with (fail)
              generalize setBlock w5 mB (.map es6 ck6) = w6 at H6 ⊢
              clear hup
              have hlk := run_lookup_at (P := Tryz.prog) (w := w6) Tryz.underlying90 Tryz.underlying3 (zeroI13 w6) (sv_cells2 H6.out.2).2.2.2.2.2.2 HM6.out (k : Int)
              rw [lk_last HK.out.2] at hlk
              simp only [Option.getD_some] at hlk
              obtain ⟨q0, q1, q2, q3, -, -, -⟩ := sv_cells2 H6.out.2
              obtain ⟨⟨S7, e7⟩, hwk⟩ : ∃ r, writeM Sk (k : Int) 3 ⟨⟨ge, gc⟩, (sq : Int), im⟩ = r := ⟨_, rfl⟩
              have hwr := ckwrite_any p Sk _ (k : Int) 3 ge gc sq im hsq HPC.out.2 (seal_all (c := ⟨⟨ge, gc⟩, (sq : Int), im⟩) ⟨by omega, by have := HM64.out; have := HLT.out; omega⟩ HA.out.2 HGO.out HPC.out.1) w6 H6.out.2
              unfold WrOut at hwr
              rw [hwk] at hwr
              have HW := Lib.hid hwr
              have HWK := Lib.hid hwk
              clear hwr hwk
              go_upto_region 17 with (go_at_call 37; refine HW.out.mono ?_; rintro e w7 ⟨rfl, h7⟩; replace H6 := Lib.hid (And.intro (H6.out.1.trans h7.out.1) h7.out.2); clear h7)
              clear q0 q1 q2 q3 hlk HW
              by_cases he7 : e7 = 0
              case pos =>
                subst he7
                go_wp2
                go_roundw
                case rel => exact ⟨⟨k + 1, S7, l ++ [(k, 3)], es6, ck6, pts nB (.cells #[.int .i64 ne, .int .i64 nc, .int .i64 nsq, .string (strB ni)] TCk (0, 0)) * X, HLT.out, by rw [List.length_append]; exact Nat.succ_le_succ HLL.out, congrArg (Value.int .i64) (by omega), Lib.hid ⟨by rw [HK.out.1, show m - k = (m - (k + 1)) + 1 by have := HLT.out; omega, svFrom_ok HST.out (by rw [HA.out.1, HWK.out]), HA.out.1, HWK.out], fun x hx => by
                  rcases List.mem_append.1 hx with h | h
                  · exact Nat.lt_succ_of_lt (HK.out.2 x h)
                  · rw [List.mem_singleton.1 h]; exact Nat.lt_succ_self k⟩, HM6, H6⟩⟩
                case measure => have := HLT.out; simp [intOf]; omega
              case neg =>
                have hed : (e7 != 0) = true := bne_iff_ne.2 he7
                have HE := Lib.hid (show R = (S7, 0, e7) from by
                  rw [HR.out, HK.out.1, show m - k = (m - (k + 1)) + 1 by have := HLT.out; omega, svFrom_err HST.out (by rw [HA.out.1, HWK.out]; exact he7), HA.out.1, HWK.out, if_pos he7])
                clear he7
                go_wp2
                go_ret2
                unfold SvOut
                rw [HE.out]
                exact ⟨rfl, sv_end2 H6.out.1 H6.out.2⟩
            case neg =>
              have hab : (ar == 2) = false := by simp [har]
              have HA := Lib.hid (show nextM Sk (k : Int) = 2 ∧ ((2 : Int) = 2 ∨ (2 : Int) = 3) from ⟨by rw [HNX.out, if_neg (fun h => har h.2)], .inl rfl⟩)
              clear har HNX
              go_upto_region 16 with (fail)
              clear hab
              obtain ⟨es6, ck6, HM6, H6⟩ : ∃ es6 ck6, Hid (MapL es6 ck6 (svL (l ++ [(k, 2)]))) ∧ Hid (Same w w5 ∧ Sat w5 (shelfAt SH p Sk * (pts mB (.map es6 ck6) * (pts cB (.cells #[.int .i64 ge, .int .i64 gc, .int .i64 (sq : Int), .string (strB im)] TCk (0, 0)) * ((pts nB (.cells #[.int .i64 ne, .int .i64 nc, .int .i64 nsq, .string (strB ni)] TCk (0, 0)) * X) * F))))) := ⟨es4, ck4, HM4, H4⟩
              clear H4 HM4
              generalize w5 = w6 at H6 ⊢
              have hlk := run_lookup_at (P := Tryz.prog) (w := w6) Tryz.underlying90 Tryz.underlying3 (zeroI13 w6) (sv_cells2 H6.out.2).2.2.2.2.2.2 HM6.out (k : Int)
              rw [lk_last HK.out.2] at hlk
              simp only [Option.getD_some] at hlk
              obtain ⟨q0, q1, q2, q3, -, -, -⟩ := sv_cells2 H6.out.2
              obtain ⟨⟨S7, e7⟩, hwk⟩ : ∃ r, writeM Sk (k : Int) 2 ⟨⟨ge, gc⟩, (sq : Int), im⟩ = r := ⟨_, rfl⟩
              have hwr := ckwrite_any p Sk _ (k : Int) 2 ge gc sq im hsq HPC.out.2 (seal_all (c := ⟨⟨ge, gc⟩, (sq : Int), im⟩) ⟨by omega, by have := HM64.out; have := HLT.out; omega⟩ HA.out.2 HGO.out HPC.out.1) w6 H6.out.2
              unfold WrOut at hwr
              rw [hwk] at hwr
              have HW := Lib.hid hwr
              have HWK := Lib.hid hwk
              clear hwr hwk
              go_upto_region 17 with (go_at_call 37; refine HW.out.mono ?_; rintro e w7 ⟨rfl, h7⟩; replace H6 := Lib.hid (And.intro (H6.out.1.trans h7.out.1) h7.out.2); clear h7)
              clear q0 q1 q2 q3 hlk HW
              by_cases he7 : e7 = 0
              case pos =>
                subst he7
                go_wp2
                go_roundw
                case rel => exact ⟨⟨k + 1, S7, l ++ [(k, 2)], es6, ck6, pts nB (.cells #[.int .i64 ne, .int .i64 nc, .int .i64 nsq, .string (strB ni)] TCk (0, 0)) * X, HLT.out, by rw [List.length_append]; exact Nat.succ_le_succ HLL.out, congrArg (Value.int .i64) (by omega), Lib.hid ⟨by rw [HK.out.1, show m - k = (m - (k + 1)) + 1 by have := HLT.out; omega, svFrom_ok HST.out (by rw [HA.out.1, HWK.out]), HA.out.1, HWK.out], fun x hx => by
                  rcases List.mem_append.1 hx with h | h
                  · exact Nat.lt_succ_of_lt (HK.out.2 x h)
                  · rw [List.mem_singleton.1 h]; exact Nat.lt_succ_self k⟩, HM6, H6⟩⟩
                case measure => have := HLT.out; simp [intOf]; omega
              case neg =>
                have hed : (e7 != 0) = true := bne_iff_ne.2 he7
                have HE := Lib.hid (show R = (S7, 0, e7) from by
                  rw [HR.out, HK.out.1, show m - k = (m - (k + 1)) + 1 by have := HLT.out; omega, svFrom_err HST.out (by rw [HA.out.1, HWK.out]; exact he7), HA.out.1, HWK.out, if_pos he7])
                clear he7
                go_wp2
                go_ret2
                unfold SvOut
                rw [HE.out]
                exact ⟨rfl, sv_end2 H6.out.1 H6.out.2⟩
          case neg =>
            have heb : (en == 0) = false := by simp [hen]
            have HA := Lib.hid (show nextM Sk (k : Int) = 2 ∧ ((2 : Int) = 2 ∨ (2 : Int) = 3) from ⟨by rw [HNX.out, if_neg (fun h => hen h.1)], .inl rfl⟩)
            clear hen HNX
            go_upto_region 16 with (fail)
            clear heb
            obtain ⟨es6, ck6, HM6, H6⟩ : ∃ es6 ck6, Hid (MapL es6 ck6 (svL (l ++ [(k, 2)]))) ∧ Hid (Same w w5 ∧ Sat w5 (shelfAt SH p Sk * (pts mB (.map es6 ck6) * (pts cB (.cells #[.int .i64 ge, .int .i64 gc, .int .i64 (sq : Int), .string (strB im)] TCk (0, 0)) * ((pts nB (.cells #[.int .i64 ne, .int .i64 nc, .int .i64 nsq, .string (strB ni)] TCk (0, 0)) * X) * F))))) := ⟨es4, ck4, HM4, H4⟩
            clear H4 HM4
            generalize w5 = w6 at H6 ⊢
            have hlk := run_lookup_at (P := Tryz.prog) (w := w6) Tryz.underlying90 Tryz.underlying3 (zeroI13 w6) (sv_cells2 H6.out.2).2.2.2.2.2.2 HM6.out (k : Int)
            rw [lk_last HK.out.2] at hlk
            simp only [Option.getD_some] at hlk
            obtain ⟨q0, q1, q2, q3, -, -, -⟩ := sv_cells2 H6.out.2
            obtain ⟨⟨S7, e7⟩, hwk⟩ : ∃ r, writeM Sk (k : Int) 2 ⟨⟨ge, gc⟩, (sq : Int), im⟩ = r := ⟨_, rfl⟩
            have hwr := ckwrite_any p Sk _ (k : Int) 2 ge gc sq im hsq HPC.out.2 (seal_all (c := ⟨⟨ge, gc⟩, (sq : Int), im⟩) ⟨by omega, by have := HM64.out; have := HLT.out; omega⟩ HA.out.2 HGO.out HPC.out.1) w6 H6.out.2
            unfold WrOut at hwr
            rw [hwk] at hwr
            have HW := Lib.hid hwr
            have HWK := Lib.hid hwk
            clear hwr hwk
            go_upto_region 17 with (go_at_call 37; refine HW.out.mono ?_; rintro e w7 ⟨rfl, h7⟩; replace H6 := Lib.hid (And.intro (H6.out.1.trans h7.out.1) h7.out.2); clear h7)
            clear q0 q1 q2 q3 hlk HW
            by_cases he7 : e7 = 0
            case pos =>
              subst he7
              go_wp2
              go_roundw
              case rel => exact ⟨⟨k + 1, S7, l ++ [(k, 2)], es6, ck6, pts nB (.cells #[.int .i64 ne, .int .i64 nc, .int .i64 nsq, .string (strB ni)] TCk (0, 0)) * X, HLT.out, by rw [List.length_append]; exact Nat.succ_le_succ HLL.out, congrArg (Value.int .i64) (by omega), Lib.hid ⟨by rw [HK.out.1, show m - k = (m - (k + 1)) + 1 by have := HLT.out; omega, svFrom_ok HST.out (by rw [HA.out.1, HWK.out]), HA.out.1, HWK.out], fun x hx => by
                rcases List.mem_append.1 hx with h | h
                · exact Nat.lt_succ_of_lt (HK.out.2 x h)
                · rw [List.mem_singleton.1 h]; exact Nat.lt_succ_self k⟩, HM6, H6⟩⟩
              case measure => have := HLT.out; simp [intOf]; omega
            case neg =>
              have hed : (e7 != 0) = true := bne_iff_ne.2 he7
              have HE := Lib.hid (show R = (S7, 0, e7) from by
                rw [HR.out, HK.out.1, show m - k = (m - (k + 1)) + 1 by have := HLT.out; omega, svFrom_err HST.out (by rw [HA.out.1, HWK.out]; exact he7), HA.out.1, HWK.out, if_pos he7])
              clear he7
              go_wp2
              go_ret2
              unfold SvOut
              rw [HE.out]
              exact ⟨rfl, sv_end2 H6.out.1 H6.out.2⟩
        · have hsb : (Sk.state (k : Int) != 1) = true := bne_iff_ne.2 hst
          have HST := Lib.hid hst
          generalize Sk.state (k : Int) = st at HSTA hsb
          clear hst hlt hk
          go_wp2_with (go_at_call 36; refine HSTA.out.mono ?_; rintro e w2 ⟨rfl, rfl⟩)
          go_roundw
          case rel => exact ⟨⟨k + 1, Sk, l, es, ck, X, HLT.out, Nat.le_succ_of_le HLL.out, congrArg (Value.int .i64) (by omega), Lib.hid ⟨by rw [HK.out.1, show m - k = (m - (k + 1)) + 1 by have := HLT.out; omega, svFrom_skip HST.out], fun x hx => Nat.lt_succ_of_lt (HK.out.2 x hx)⟩, HM, H1⟩⟩
          case measure => have := HLT.out; simp [intOf]; omega
      · have hltd : decide ((k : Int) < (m : Int)) = false := decide_eq_false (by omega)
        have hki : ¬ (k : Int) < (m : Int) := by omega
        obtain rfl : k = m := by omega
        have hsf : svFrom ⟨⟨ge, gc⟩, (sq : Int), im⟩ S [] 0 k = (Sk, l, 0) := HK.out.1.trans (by rw [Nat.sub_self]; rfl)
        have HR2 := Lib.hid (show R = if l = [] then (Sk, 0, 15) else (Sk, (countM Sk ⟨⟨ge, gc⟩, (sq : Int), im⟩ l : Int), 0) from by rw [HR.out, hsf]; rfl)
        have hlen := len_kv13 (P := Tryz.prog) Tryz.underlying90 (sv_cells2 H1.out.2).2.2.2.2.2.2 HM.out
        rw [show (svL l).length = l.length by simp [svL]] at hlen
        clear hlt hsf
        by_cases hln : l = []
        · subst hln
          have HE := Lib.hid (show R = (Sk, 0, 15) from HR2.out)
          simp only [List.length_nil] at hlen
          go_wp2
          go_ret2
          unfold SvOut
          rw [HE.out]
          exact ⟨rfl, sv_end2 H1.out.1 H1.out.2⟩
        · have hpos : 0 < l.length := List.length_pos_iff.2 hln
          have hne : ((l.length : Int) == 0) = false := beq_eq_false_iff_ne.2 (by omega)
          have HE := Lib.hid (show R = (Sk, (countM Sk ⟨⟨ge, gc⟩, (sq : Int), im⟩ l : Int), 0) from by rw [HR2.out, if_neg hln])
          have hrg := run_range_kv (P := Tryz.prog) Tryz.underlying90 (sv_cells2 H1.out.2).2.2.2.2.2.2
          clear hln
          go_upto_region 24 with (fail)
          have H7 := Lib.hid (show Same w (wr.alloc (.mapIter (some mB) ck #[] ck)) ∧ Sat (wr.alloc (.mapIter (some mB) ck #[] ck)) (pts wr.heap.size (.mapIter (some mB) ck #[] ck) * (pts mB (.map es ck) * (shelfAt SH p Sk * (pts cB (.cells #[.int .i64 ge, .int .i64 gc, .int .i64 (sq : Int), .string (strB im)] TCk (0, 0)) * (X * F))))) from ⟨H1.out.1.alloc _, (H1.out.2.alloc _).perm (by ac_rfl)⟩)
          clear hrg hlen H1 hne hpos
          generalize wr.alloc (.mapIter (some mB) ck #[] ck) = w8 at H7 ⊢
          generalize wr.heap.size = it at H7 ⊢
          have HES := Lib.hid (show es.size ≤ 64 from by rw [HM.out.size]; simp only [svL, List.length_map]; have := HLL.out; have := HM64.out; omega)
          go_loopw [12] (fun nv wq => LpS w p ⟨⟨ge, gc⟩, (sq : Int), im⟩ Sk mB cB it #[.int .i64 ge, .int .i64 gc, .int .i64 (sq : Int), .string (strB im)] F es ck nv wq) (fun _ wq => un13 mB it wq)
          case atStart => exact ⟨⟨#[], X, by rw [List.filter_eq_nil_iff.2 (by simp)]; rfl, H7.out⟩⟩
          case round =>
            clear H7
            obtain ⟨seen, Y, hnv, H7⟩ := hrel.st
            clear hrel
            obtain ⟨n, hn⟩ : ∃ n, (es.toList.filter fun x => seen.toList.contains x.born && ckGood Sk ⟨⟨ge, gc⟩, (sq : Int), im⟩ x).length = n := ⟨_, rfl⟩
            rw [hn] at hnv
            subst hnv
            have hn64 : n ≤ 64 := by rw [← hn]; have h1 := List.length_filter_le (fun x : MapEntry => seen.toList.contains x.born && ckGood Sk ⟨⟨ge, gc⟩, (sq : Int), im⟩ x) es.toList; simp only [Array.length_toList] at h1; have := HES.out; omega
            have hM := HM.out
            rcases run_next_kv (P := Tryz.prog) H7.out.2.block H7.out.2.right.block hM with ⟨hall, W, hnx, hW⟩ | ⟨e, he, hes, w0, hw0, hnx⟩
            · have hsW : Same w W ∧ Sat W (shelfAt SH p Sk * (pts mB (.map es ck) * (pts cB (.cells #[.int .i64 ge, .int .i64 gc, .int .i64 (sq : Int), .string (strB im)] TCk (0, 0)) * (Y * F)))) := by
                rcases hW with rfl | rfl
                · exact ⟨H7.out.1, H7.out.2.right.perm (star_left_comm _ _ _)⟩
                · exact ⟨H7.out.1.drew, H7.out.2.right.drew.perm (star_left_comm _ _ _)⟩
              have hcnt : n = countM Sk ⟨⟨ge, gc⟩, (sq : Int), im⟩ l := by
                rw [← hn, ← cnt_all hM]
                congr 1
                refine List.filter_congr fun x hx => ?_
                have := hall x hx
                simp [this]
              have H8 := Lib.hid hsW
              have HC := Lib.hid hcnt
              clear hM hn hcnt hsW hW hall H7 hn64
              go_wp2_with ((with_reducible (apply wpList_next_run (h := hnx))); rfl; rfl; rfl)
              go_ret2
              unfold SvOut
              rw [HE.out, ← HC.out]
              exact ⟨rfl, sv_end2 H8.out.1 H8.out.2⟩
            · obtain ⟨x, hx, hkey, hval⟩ := ent_in hM he
              have hs0 : Same w w0 ∧ Sat w0 (pts it (.mapIter (some mB) ck seen ck) * (pts mB (.map es ck) * (shelfAt SH p Sk * (pts cB (.cells #[.int .i64 ge, .int .i64 gc, .int .i64 (sq : Int), .string (strB im)] TCk (0, 0)) * (Y * F))))) := by
                rcases hw0 with rfl | rfl
                · exact H7.out
                · exact ⟨H7.out.1.drew, H7.out.2.drew⟩
              have H8 := Lib.hid (And.intro (hs0.1.setBlock (r := it) (.mapIter (some mB) ck (seen.push e.born) ck)) (hs0.2.setBlock (o' := .mapIter (some mB) ck (seen.push e.born) ck)))
              have hen := run_entry_kv (P := Tryz.prog) H8.out.2.block H8.out.2.right.block hM he (by simp)
              have hes' : e.born ∉ seen.toList := hes
              have hst := cnt_step (ckGood Sk ⟨⟨ge, gc⟩, (sq : Int), im⟩) seen.toList e hes' es.toList hM.born he
              rw [hn] at hst
              have HUN := Lib.hid (un13_step hM.born he hes')
              have HU0 := Lib.hid (show un13 mB it wr = es.size - (es.toList.filter fun x => seen.toList.contains x.born && true).length from by unfold un13; rw [H7.out.2.right.block, H7.out.2.block])
              have hgd : ckGood Sk ⟨⟨ge, gc⟩, (sq : Int), im⟩ e = decide (ckRead Sk (x.1 : Int) x.2 = (⟨⟨ge, gc⟩, (sq : Int), im⟩, 0)) := by unfold ckGood; rw [hkey, hval]; rfl
              rw [hkey, hval] at hnx hen
              obtain ⟨⟨⟨⟨ne, nc⟩, nsq, ni⟩, en⟩, hrd⟩ : ∃ r, ckRead Sk (x.1 : Int) x.2 = r := ⟨_, rfl⟩
              have hRD := ckread_any p Sk _ (x.1 : Int) x.2 _ (H8.out.2.perm (show _ = shelfAt SH p Sk * (pts it (.mapIter (some mB) ck (seen.push e.born) ck) * (pts mB (.map es ck) * (pts cB (.cells #[.int .i64 ge, .int .i64 gc, .int .i64 (sq : Int), .string (strB im)] TCk (0, 0)) * (Y * F)))) from by ac_rfl))
              rw [hrd] at hRD hgd
              rw [hgd] at hst
              have HRD := Lib.hid hRD
              have HST := Lib.hid (show (es.toList.filter fun x => (seen.push e.born).toList.contains x.born && ckGood Sk ⟨⟨ge, gc⟩, (sq : Int), im⟩ x).length = n + (if decide (((⟨⟨ne, nc⟩, nsq, ni⟩ : CkM), en) = (⟨⟨ge, gc⟩, (sq : Int), im⟩, (0 : Int))) = true then 1 else 0) from by rw [Array.toList_push]; exact hst)
              clear hM hn hs0 hw0 hes hes' hst hgd hrd hRD hkey hval he H7
              generalize setBlock w0 it (.mapIter (some mB) ck (seen.push e.born) ck) = W1 at hnx hen H8 HRD
              go_upto_region 26 with (first
                | ((with_reducible (apply wpList_next_run (h := hnx))); rfl; rfl; rfl)
                | ((with_reducible (apply wpList_entry_run (h := hen))); rfl; rfl; rfl))
              clear hnx hen
              go_upto_region 27 with (go_at_call 20; refine HRD.out.mono ?_; rintro e w9 ⟨rfl, h2, h3⟩; replace H8 := Lib.hid (And.intro (H8.out.1.trans h2) h3); clear h2 h3; unfold ckA)
              clear HRD
              replace H8 := Lib.hid (And.intro (H8.out.1.alloc (.cells #[.int .i64 ne, .int .i64 nc, .int .i64 nsq, .string (strB ni)] TCk)) ((H8.out.2.alloc (.cells #[.int .i64 ne, .int .i64 nc, .int .i64 nsq, .string (strB ni)] TCk)).perm (show _ = pts it (.mapIter (some mB) ck (seen.push e.born) ck) * (pts mB (.map es ck) * (shelfAt SH p Sk * (pts cB (.cells #[.int .i64 ge, .int .i64 gc, .int .i64 (sq : Int), .string (strB im)] TCk (0, 0)) * ((pts w9.heap.size (.cells #[.int .i64 ne, .int .i64 nc, .int .i64 nsq, .string (strB ni)] TCk (0, 0)) * Y) * F)))) from by ac_rfl)))
              generalize w9.alloc (.cells #[.int .i64 ne, .int .i64 nc, .int .i64 nsq, .string (strB ni)] TCk) = wz at H8 ⊢
              generalize w9.heap.size = nB at H8 ⊢
              have hwn : IntKind.i64.wrap ((n : Int) + 1) = (n : Int) + 1 := IntWalk.i64_in _ (by omega)
              by_cases hen0 : en = 0
              case neg =>
                have heb : (en == 0) = false := by simp [hen0]
                have HCN := Lib.hid (show (es.toList.filter fun x => (seen.push e.born).toList.contains x.born && ckGood Sk ⟨⟨ge, gc⟩, (sq : Int), im⟩ x).length = n from by rw [HST.out, if_neg (by simp [hen0])]; rfl)
                clear hen0
                go_wp2
                go_roundw
                case rel => exact ⟨⟨seen.push e.born, pts nB (.cells #[.int .i64 ne, .int .i64 nc, .int .i64 nsq, .string (strB ni)] TCk (0, 0)) * Y, by rw [HCN.out]; try exact congrArg (Value.int .i64) (by omega), Lib.hid ⟨H8.out.1, H8.out.2⟩⟩⟩
                case measure => rw [HU0.out]; unfold un13; rw [H8.out.2.right.block, H8.out.2.block]; simpa using HUN.out
              case pos =>
                subst hen0
                obtain ⟨b, hb⟩ : ∃ b, decide ((⟨⟨ne, nc⟩, nsq, ni⟩ : CkM) = ⟨⟨ge, gc⟩, (sq : Int), im⟩) = b := ⟨_, rfl⟩
                have HCN0 := Lib.hid (show (es.toList.filter fun x => (seen.push e.born).toList.contains x.born && ckGood Sk ⟨⟨ge, gc⟩, (sq : Int), im⟩ x).length = n + (if b = true then 1 else 0) from by rw [HST.out, ← hb]; simp)
                obtain ⟨q0, q1, q2, q3, -⟩ := lp_cells H8.out.2
                have hnb := (H8.out.2.perm (show _ = pts nB (.cells #[.int .i64 ne, .int .i64 nc, .int .i64 nsq, .string (strB ni)] TCk (0, 0)) * (pts it (.mapIter (some mB) ck (seen.push e.born) ck) * (pts mB (.map es ck) * (shelfAt SH p Sk * (pts cB (.cells #[.int .i64 ge, .int .i64 gc, .int .i64 (sq : Int), .string (strB im)] TCk (0, 0)) * (Y * F))))) from by ac_rfl)).block
                have r0 := cells_at hnb 0
                have r1 := cells_at hnb 1
                have r2 := cells_at hnb 2
                have r3 := cells_at hnb 3
                simp only [List.getElem?_toArray, List.getElem?_cons_zero, List.getElem?_cons_succ] at r0 r1 r2 r3
                clear hnb
                refine wp_region_lit ?_
                (apply wpList_runG rfl); (go_simp; first | rfl | exact ⟨rfl, rfl⟩); simp only [Act.put, List.setIfInBounds_toArray, List.set_cons_succ, List.set_cons_zero]
                (apply wpList_runG rfl); (go_simp; first | rfl | exact ⟨rfl, rfl⟩); simp only [Act.put, List.setIfInBounds_toArray, List.set_cons_succ, List.set_cons_zero]
                (apply wpList_runG rfl); (go_simp; first | rfl | exact ⟨rfl, rfl⟩); simp only [Act.put, List.setIfInBounds_toArray, List.set_cons_succ, List.set_cons_zero]
                (apply wpList_runG rfl); (go_simp; first | rfl | exact ⟨rfl, rfl⟩); simp only [Act.put, List.setIfInBounds_toArray, List.set_cons_succ, List.set_cons_zero]
                (apply wpList_runG rfl); (go_simp; first | rfl | exact ⟨rfl, rfl⟩); simp only [Act.put, List.setIfInBounds_toArray, List.set_cons_succ, List.set_cons_zero]
                refine wpList_runG (v := .bool b) rfl (exec_eqCk guardCk rfl rfl rfl (by rw [ck_eq, hb])) ?_; simp only [Act.put, List.setIfInBounds_toArray, List.set_cons_succ, List.set_cons_zero]
                clear hb q0 q1 q2 q3 r0 r1 r2 r3
                cases b
                case false =>
                  have HCN := Lib.hid (show (es.toList.filter fun x => (seen.push e.born).toList.contains x.born && ckGood Sk ⟨⟨ge, gc⟩, (sq : Int), im⟩ x).length = n from HCN0.out)
                  go_wp2
                  go_roundw
                  case rel => exact ⟨⟨seen.push e.born, pts nB (.cells #[.int .i64 ne, .int .i64 nc, .int .i64 nsq, .string (strB ni)] TCk (0, 0)) * Y, by rw [HCN.out]; try exact congrArg (Value.int .i64) (by omega), Lib.hid ⟨H8.out.1, H8.out.2⟩⟩⟩
                  case measure => rw [HU0.out]; unfold un13; rw [H8.out.2.right.block, H8.out.2.block]; simpa using HUN.out
                case true =>
                  have HCN := Lib.hid (show (es.toList.filter fun x => (seen.push e.born).toList.contains x.born && ckGood Sk ⟨⟨ge, gc⟩, (sq : Int), im⟩ x).length = n + 1 from HCN0.out)
                  go_wp2
                  go_roundw
                  case rel => exact ⟨⟨seen.push e.born, pts nB (.cells #[.int .i64 ne, .int .i64 nc, .int .i64 nsq, .string (strB ni)] TCk (0, 0)) * Y, by rw [HCN.out]; try exact congrArg (Value.int .i64) (by omega), Lib.hid ⟨H8.out.1, H8.out.2⟩⟩⟩
                  case measure => rw [HU0.out]; unfold un13; rw [H8.out.2.right.block, H8.out.2.block]; simpa using HUN.out
end Go.Proofs.YtmcclbiaoeilkaaGreat
