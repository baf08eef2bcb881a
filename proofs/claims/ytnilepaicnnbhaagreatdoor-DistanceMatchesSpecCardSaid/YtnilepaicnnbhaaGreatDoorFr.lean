import Derived.Test.YtnilepaicnnbhaaGreatDoorFm
import Derived.Test.YtnilepaicnnbhaaGreatDoorFn
import Derived.Test.YtnilepaicnnbhaaGreatDoorKn
import Derived.Test.YtnilepaicnnbhaaGreatDoorIi
/- solventref09: valid, present, without, all, has. -/
namespace Go.Sl
open Go Go.RowKit Go.GF
section
variable {P : Program} {w : World} {F : HProp}
theorem run_append_r0 (t ty e : TypeId) (i : TypeInfo) (ht : P.underlying t = some (.slice e)) (hi : P.info? e = some i) (bo ao : Option Addr) (n cap c : Nat) (hn : n ≤ cap) :
    (Builtin.append_ #[t, t] ty #[.slice bo n cap, .slice ao 0 c]).run P w = .ok (.slice bo n cap) w := by
  cases bo <;> cases ao <;> simp [Builtin.append_, run_underlying ht, sizeOf, typeInfo, hi, Builtin.lenOf, Builtin.firstCells, loadCells, loadCellsFrom, storeCells, hn]
/-- append of a row that can be read. -/
theorem wpList_append_ri {ops : Array Oper} {rest : List Oper} {o : Oper} {a : Act} {Q : Exit → Act → World → Prop} (hg : o.guard = none) (s x : Operand) (t e : TypeId)
    (ho : o.op = .call { callee := .builtin .append, args := #[s, x], argTypes := #[t, t] }) (i : TypeInfo) (z : Value) (ht : P.underlying t = some (.slice e)) (hi : P.info? e = some i) (hz : i.zero = some z) {by_ : Nat} (hsz : i.size = 1) (hby : i.bytes = by_) (hzs : z.cells.size = 1)
    {v : Value} {n : Nat} {xs : List Value} (h : Sat w (ownAt e 1 v n xs * F)) {y : Value} (news : List Value) (hs : a.eval s = v) (hx : a.eval x = y) (hr : RowI w y news)
    (h1 : ∀ u ∈ news, u.oneCell' = true) (h63 : n + news.length ≤ maxLen) (hbytes : (n + news.length) * by_ ≤ 140737488355328)
    (k : ∀ v' w', Same w w' → Sat w' (ownAt e 1 v' (n + news.length) (xs ++ news) * F) → wpList P ops Q rest (a.put o.dst v') w') : wpList P ops Q (o :: rest) a w := by
  obtain ⟨ao, cap, rfl, hcap, hmax, h4⟩ := hr
  by_cases hm : news.length = 0
  · have hnil : news = [] := List.eq_nil_of_length_eq_zero hm
    subst hnil
    have hle : ∃ bo cp, v = .slice bo n cp ∧ n ≤ cp := by
      rcases ownAt_iff.1 h with ⟨rfl, rfl, _, _⟩ | ⟨g, cap, cur, ⟨rfl, h1, _⟩, _⟩
      · exact ⟨_, _, rfl, Nat.le_refl _⟩
      · exact ⟨_, _, rfl, h1⟩
    obtain ⟨bo, cp, rfl, hnc⟩ := hle
    have hrun := run_append_r0 (P := P) (w := w) t o.type e i ht hi bo ao n cp cap hnc
    refine wpList_run hg (v := .slice bo n cp) (w' := w) ?_ (k _ w (Same.refl w) (by simpa using h))
    unfold execOp
    simp only [ho, resolve, invoke, builtin, Sem.run_bind, Sem.run_pure, Result.andThen_ok, List.map_toArray, List.map_cons, List.map_nil, hs, hx, List.length_nil, hrun]
  · obtain ⟨b, off, rfl, hb, hc⟩ := h4 (by omega)
    exact wpList_append_ownAt hg s x t e ho i z ht hi hz hsz hby hzs h news hs hx (by simp) (fun j u hu => by rw [Addr.add_mid]; exact hc j u hu) h1 h63 hbytes fun v' w' h6 => k v' w' h6.out.1 h6.out.2
end
/-- A store into a row that a call has made. -/
theorem ownAt_set {w : World} {F : HProp} {T : TypeId} {g n cp : Nat} {xs : List Value} (h : Sat w (ownAt T 1 (.slice (some ⟨g, 0, none⟩) n cp) n xs * F)) {j : Nat} (hj : j < n) (u : Value) :
    (∃ x, w.cell? ⟨g, j, none⟩ = some x) ∧ w.frozen? ⟨g, j, none⟩ = false ∧ Sat (w.setCell ⟨g, j, none⟩ u) (ownAt T 1 (.slice (some ⟨g, 0, none⟩) n cp) n (xs.set j u) * F) := by
  rcases ownAt_iff.1 h with ⟨h0, _⟩ | ⟨g', cap', cur, ⟨he, h2, h3, h4, h5, h6⟩, hs⟩
  · simp at h0
  · cases he
    have hjc : j < cur.size := by omega
    refine ⟨⟨cur[j], by rw [cells_at hs.block]; exact Array.getElem?_eq_getElem hjc⟩, thawed_at hs.block j, ownAt_iff.2 (.inr ⟨g, cp, cur.setIfInBounds j u, ⟨rfl, h2, h3, by simpa using h4, ?_, by simpa using h6⟩, hs.setCell u⟩)⟩
    rw [← h5, Array.toList_setIfInBounds, List.take_set]
end Go.Sl
namespace Go.GF
open Go Go.RowKit
theorem boolsV_set (h : List Bool) (j : Nat) (b : Bool) : boolsV (h.set j b) = (boolsV h).set j (.bool b) := by unfold boolsV; rw [List.map_set]
theorem boolsV_snoc (h : List Bool) (x : Bool) : boolsV (h ++ [x]) = boolsV h ++ [.bool x] := by unfold boolsV; simp
theorem minusL_snoc (h : List Bool) (s : List Nat) (u : Nat) : minusL h (s ++ [u]) = (minusL h s).set u false := by unfold minusL; rw [List.foldl_append]; rfl
end Go.GF
namespace Go.Proofs.YtnilepaicnnbhaaGreatDoor
open Go.RowKit Go.GF Go.Sl
set_option maxRecDepth 20000 in
theorem r9valid_any (cv : Array Value) (nm : ByteArray) (f k : Int) (L : List (List Int)) (dom : Int) (n : Int) (w : World) (hc : CvAt w cv nm f k L dom) :
    Calls Tryz.prog 22 #[.agg cv, .int .i64 n] w fun e w' => e = .returned (.bool (checkB nm f k L dom && n == k + (L.length : Int))) ∧ Below w.heap.size w w' := by
  obtain ⟨⟨pv, rfl, hp⟩, h1, h2, h3⟩ := hc
  have HC := Lib.hid (fun W (hb : Below w.heap.size w W) => r7check_any nm h1 f k pv dom L (by omega) (by omega) W (hp.below hb))
  have HCB := Lib.hid (fun t w1 h => code_box w w1 (codeV nm f k pv dom) t h)
  obtain ⟨ap, cp, rfl⟩ := RowsI.shape hp
  have hw : IntKind.i64.wrap (k + (L.length : Int)) = k + (L.length : Int) := IntWalk.i64_in _ (by omega)
  clear hp h1 h2 h3
  unfold codeV at *
  cases hck : checkB nm f k L dom with
  | false =>
    go_enter Tryz.func22, Tryz.ntmps22
    go_wp2_with (go_at_call 42; refine (HC.out _ (al_below w _)).mono ?_; rintro e w1 ⟨⟨z, rfl, hz⟩, h1⟩; rw [hck] at hz; obtain ⟨hg, hb⟩ := HCB.out _ w1 h1; obtain ⟨c0, c1, c2, c3, c4⟩ := Box.code (nm := nm) (dom := dom) hg)
    go_ret
    exact ⟨rfl, (HCB.out _ w1 h1).2⟩
  | true =>
    go_enter Tryz.func22, Tryz.ntmps22
    go_wp2_with (go_at_call 42; refine (HC.out _ (al_below w _)).mono ?_; rintro e w1 ⟨⟨z, rfl, hz⟩, h1⟩; rw [hck] at hz; obtain ⟨hg, hb⟩ := HCB.out _ w1 h1; obtain ⟨c0, c1, c2, c3, c4⟩ := Box.code (nm := nm) (dom := dom) hg)
    go_ret
    exact ⟨rfl, (HCB.out _ w1 h1).2⟩
structure P9 (w : World) (h : List Bool) (nv iv : Value) (wr : World) : Prop where
  st : ∃ i : Nat, i ≤ h.length ∧ iv = .int .i64 (i : Int) ∧ nv = .int .i64 ((unitsK h i).length : Int) ∧ w = wr
set_option maxRecDepth 20000 in
theorem r9present_any (hv : Value) (h : List Bool) (h100 : h.length ≤ 1000) (w : World) (hr : RowI w hv (boolsV h)) :
    Calls Tryz.prog 24 #[hv] w fun e w' => e = .returned (.int .i64 ((units h).length : Int)) ∧ w' = w := by
  obtain ⟨ao, cp, rfl, -, -, hrow⟩ := hr
  rw [boolsV_len] at *
  have HC := Lib.hid (fun (i : Nat) (x : Bool) (hx : h[i]? = some x) => show ∃ b off, ao = some ⟨b, off, none⟩ ∧ w.cell? ⟨b, off + i, none⟩ = some (.bool x) from by
    obtain ⟨b, off, e, -, hc⟩ := hrow (by have := (List.getElem?_eq_some_iff.1 hx).1; omega)
    exact ⟨b, off, e, hc i _ (boolsV_at hx)⟩)
  have HUL := Lib.hid (fun i => unitsK_len h i)
  have HUS := Lib.hid (fun i x hx => unitsK_succ h i (x := x) hx)
  have HUA := Lib.hid (unitsK_all h)
  clear hrow
  go_enter Tryz.func24, Tryz.ntmps24
  go_wp2
  go_loopw [3, 4] (fun nv iv wr => P9 w h nv iv wr) (fun _ iv _ => h.length - (intOf iv).toNat)
  case atStart => exact ⟨⟨0, Nat.zero_le _, rfl, rfl, rfl⟩⟩
  case round =>
    obtain ⟨i, hi, rfl, rfl, rfl⟩ := hrel.st
    clear hrel
    by_cases hin : i < h.length
    · have hid : decide ((i : Int) < (h.length : Int)) = true := decide_eq_true (by omega)
      have hwi : IntKind.i64.wrap ((i : Int) + 1) = (i : Int) + 1 := IntWalk.i64_in _ (by omega)
      obtain ⟨x, hx⟩ : ∃ x, h[i]? = some x := ⟨_, List.getElem?_eq_getElem (by omega)⟩
      obtain ⟨b, off, rfl, c1⟩ := HC.out i x hx
      have HS := Lib.hid (HUS.out i x hx)
      have hwn : IntKind.i64.wrap (((unitsK h i).length : Int) + 1) = ((unitsK h i).length : Int) + 1 := IntWalk.i64_in _ (by have := HUL.out i; omega)
      clear hx
      cases x with
      | true =>
        go_wp2
        go_roundw
        case rel => exact ⟨⟨i + 1, by omega, rfl, by rw [HS.out, if_pos rfl, List.length_append]; rfl, rfl⟩⟩
        case measure => simp only [intOf]; omega
      | false =>
        go_wp2
        go_roundw
        case rel => exact ⟨⟨i + 1, by omega, rfl, by rw [HS.out, if_neg (by decide)], rfl⟩⟩
        case measure => simp only [intOf]; omega
    · have hie : i = h.length := by omega
      have hid : decide ((i : Int) < (h.length : Int)) = false := decide_eq_false (by omega)
      obtain rfl : h.length = i := hie.symm
      go_wp2
      go_ret
      rw [← HUA.out]
      exact ⟨rfl, rfl⟩
structure W9 (w : World) (h : List Bool) (s : List Nat) (g cp : Nat) (iv : Value) (wr : World) : Prop where
  st : ∃ i : Nat, i ≤ s.length ∧ iv = .int .i64 (i : Int) ∧ Same w wr ∧ Sat wr (ownAt TB 1 (.slice (some ⟨g, 0, none⟩) h.length cp) h.length (boolsV (minusL h (s.take i))) * old w)
set_option maxRecDepth 20000 in
set_option maxHeartbeats 1000000 in
theorem r9without_any (hv sv : Value) (h : List Bool) (s : List Nat) (h0 : 0 < h.length) (h100 : h.length ≤ 1000) (hs100 : s.length ≤ 1000) (hlt : ∀ u ∈ s, u < h.length) (w : World) (hr : RowI w hv (boolsV h)) (hs : RowI w sv (intsV (natsI s))) :
    Calls Tryz.prog 45 #[hv, sv] w fun e w' => ∃ v, e = .returned v ∧ Below w.heap.size w w' ∧ RowI w' v (boolsV (minusL h s)) := by
  have HR := Lib.hid hr
  obtain ⟨ao, cp, rfl, -⟩ := id hr
  obtain ⟨sa, cs, rfl, -, -, hrow⟩ := id hs
  rw [intsV_len, natsI_len] at *
  rw [boolsV_len] at *
  have HC := Lib.hid (fun (i x : Nat) (hx : s[i]? = some x) => show ∃ b off, sa = some ⟨b, off, none⟩ ∧ ∀ W, Below w.heap.size w W → W.cell? ⟨b, off + i, none⟩ = some (.int .i64 (x : Int)) from by
    obtain ⟨b, off, e, hl, hc⟩ := hrow (by have := (List.getElem?_eq_some_iff.1 hx).1; omega)
    exact ⟨b, off, e, fun W hb => (hb.cell (p := ⟨b, off + i, none⟩) hl).trans (hc i _ (intsV_at (by unfold natsI; rw [List.getElem?_map, hx]; rfl)))⟩)
  have HOW := Lib.hid (show Sat w (ownAt TB 1 (.slice none 0 0) 0 [] * old w) from ownAt_nil.2 (Sat.old w))
  have HLT := Lib.hid (fun (i x : Nat) (hx : s[i]? = some x) => hlt x (List.mem_of_getElem? hx))
  have HML := Lib.hid (fun l => minusL_len h l)
  clear hrow hr hs hlt
  go_enter Tryz.func45, Tryz.ntmps45
  obtain ⟨i0, hi0, hz0, hz1, hz2⟩ := info_parts info_bool1
  have HI := Lib.hid (And.intro hi0 (And.intro hz0 (And.intro hz1 hz2)))
  clear hi0 hz0 hz1 hz2
  go_wp2_with (at_builtin; refine wpList_append_ri rfl _ _ 25 TB rfl i0 _ Tryz.underlying25 HI.out.1 HI.out.2.1 HI.out.2.2.1 HI.out.2.2.2 rfl HOW.out (boolsV h) rfl rfl HR.out boolsV_one (by rw [boolsV_len]; unfold maxLen; omega) (by rw [boolsV_len]; omega) ?_; intro v1 w1 hs1 hp1
               rw [boolsV_len, Nat.zero_add, List.nil_append] at hp1
               obtain ⟨g, cp1, rfl, -⟩ := ownAt_cells hp1 h0)
  have H1 := Lib.hid (And.intro hs1 hp1)
  clear hs1 hp1
  go_loopw [6] (fun iv wr => W9 w h s g cp1 iv wr) (fun iv _ => s.length - (intOf iv).toNat)
  case atStart => exact ⟨⟨0, Nat.zero_le _, rfl, H1.out⟩⟩
  case round =>
    obtain ⟨i, hi, rfl, hsm, hst⟩ := hrel.st
    clear hrel
    have HS := Lib.hid (And.intro hsm hst)
    have hb := hsm.below_of hst
    by_cases hin : i < s.length
    · have hid : decide ((i : Int) < (s.length : Int)) = true := decide_eq_true (by omega)
      have hwi : IntKind.i64.wrap ((i : Int) + 1) = (i : Int) + 1 := IntWalk.i64_in _ (by omega)
      obtain ⟨x, hx⟩ : ∃ x, s[i]? = some x := ⟨_, List.getElem?_eq_getElem (by omega)⟩
      obtain ⟨b, off, rfl, hcc⟩ := HC.out i x hx
      have c1 := hcc wr hb
      have hxl := HLT.out i x hx
      obtain ⟨⟨y, c2⟩, c3, hst2⟩ := ownAt_set hst hxl (.bool false)
      have HN := Lib.hid (show Same w (wr.setCell ⟨g, x, none⟩ (.bool false)) ∧ Sat (wr.setCell ⟨g, x, none⟩ (.bool false)) (ownAt TB 1 (.slice (some ⟨g, 0, none⟩) h.length cp1) h.length (boolsV (minusL h (s.take (i + 1)))) * old w) from by
        refine ⟨hsm.setCell _ _, ?_⟩
        rw [List.take_add_one, hx, Option.toList_some, minusL_snoc, boolsV_set]
        exact hst2)
      clear hx hsm hst hb hcc hst2
      go_wp2
      go_roundw
      case rel => exact ⟨⟨i + 1, by omega, rfl, HN.out⟩⟩
      case measure => simp only [intOf]; omega
    · have hie : i = s.length := by omega
      have hid : decide ((i : Int) < (s.length : Int)) = false := decide_eq_false (by omega)
      have hte : s.take i = s := List.take_of_length_le (by omega)
      rw [hte] at hst
      have HF := Lib.hid (rowV_own (by rw [boolsV_len, HML.out]) hst)
      have HB := Lib.hid hb
      clear hsm hst hb hte hie
      go_wp2
      go_ret
      exact ⟨_, rfl, HB.out, HF.out⟩
/-- append of one truth value that lies in a new block, in a frame. -/
theorem wpList_apFB {ops : Array Oper} {rest : List Oper} {o : Oper} {a : Act} {Q : Exit → Act → World → Prop} {F : HProp} {W : World} {t : TypeId} (hgd : o.guard = none) (s x : Operand)
    (ho : o.op = .call { callee := .builtin .append, args := #[s, x], argTypes := #[25, 25] }) {v : Value} {L : List Bool} {z : Bool} (hs : a.eval s = v) (hx : a.eval x = .slice (some ⟨W.heap.size, 0, none⟩) 1 1)
    (h : Sat W (ownAt TB 1 v L.length (boolsV L) * F)) (hn : L.length ≤ 100000)
    (k : ∀ v' w', Same W w' → Sat w' (ownAt TB 1 v' (L ++ [z]).length (boolsV (L ++ [z])) * F) → wpList Tryz.prog ops Q rest (a.put o.dst v') w') : wpList Tryz.prog ops Q (o :: rest) a (W.alloc (.cells #[.bool z] t)) := by
  obtain ⟨i0, hi, hz0, hz1, hz2⟩ := info_parts info_bool1
  refine wpList_append_ownAt (F := F) hgd s x 25 TB ho i0 _ Tryz.underlying25 hi hz0 hz1 hz2 rfl (h.allocKeep _) [.bool z] hs hx rfl ?_ (by simp [Value.oneCell']) (by unfold maxLen; omega) (by omega) ?_
  · intro j u hu
    match j, hu with
    | 0, hu =>
      simp at hu
      subst hu
      rw [Addr.add_mid]
      unfold World.cell?
      rw [show (W.alloc (.cells #[.bool z] t)).heap[W.heap.size]? = _ from World.alloc_heap_new W _]; rfl
  · intro v' w' h6
    refine k v' w' (((Same.refl W).alloc _).trans h6.out.1) ?_
    have := h6.out.2
    rw [← boolsV_snoc, show L.length + 1 = (L ++ [z]).length by simp] at this
    exact this
structure A9 (w : World) (n : Nat) (v iv : Value) (wr : World) : Prop where
  st : ∃ i : Nat, i ≤ n ∧ iv = .int .i64 (i : Int) ∧ Same w wr ∧ Sat wr (ownAt TB 1 v (List.replicate i true).length (boolsV (List.replicate i true)) * old w)
set_option maxRecDepth 20000 in
theorem r9all_any (n : Nat) (hn : n ≤ 100000) (w : World) : Calls Tryz.prog 19 #[.int .i64 (n : Int)] w fun e w' => ∃ v, e = .returned v ∧ Below w.heap.size w w' ∧ RowI w' v (boolsV (List.replicate n true)) := by
  have HRS := Lib.hid (fun i => show List.replicate (i + 1) true = List.replicate i true ++ [true] from List.replicate_succ')
  go_enter Tryz.func19, Tryz.ntmps19
  go_wp2
  go_loopw [3, 4] (fun v iv wr => A9 w n v iv wr) (fun _ iv _ => n - (intOf iv).toNat)
  case atStart => exact ⟨⟨0, Nat.zero_le _, rfl, Same.refl _, ownAt_nil.2 (Sat.old w)⟩⟩
  case round =>
    obtain ⟨i, hi, rfl, hsm, hst⟩ := hrel.st
    clear hrel
    have HS := Lib.hid (And.intro hsm hst)
    clear hsm hst
    by_cases hin : i < n
    · have hid : decide ((i : Int) < (n : Int)) = true := decide_eq_true (by omega)
      have hwi : IntKind.i64.wrap ((i : Int) + 1) = (i : Int) + 1 := IntWalk.i64_in _ (by omega)
      go_wp2_with (at_builtin; refine wpList_apFB rfl _ _ rfl rfl rfl HS.out.2 (by rw [List.length_replicate]; omega) ?_; intro v9 w9 h9 h10)
      go_roundw
      case rel => exact ⟨⟨i + 1, by omega, rfl, HS.out.1.trans h9, by rw [HRS.out]; exact h10⟩⟩
      case measure => simp only [intOf]; omega
    · have hie : i = n := by omega
      have hid : decide ((i : Int) < (n : Int)) = false := decide_eq_false (by omega)
      obtain rfl : n = i := hie.symm
      have HF := Lib.hid (And.intro (HS.out.1.below_of HS.out.2) (rowV_own (by rw [boolsV_len]) HS.out.2))
      go_wp2
      go_ret
      exact ⟨_, rfl, HF.out⟩
structure H9 (w : World) (l : List Int) (x : Int) (iv : Value) (wr : World) : Prop where
  st : ∃ i : Nat, i ≤ l.length ∧ iv = .int .i64 (i : Int) ∧ (∀ y ∈ l.take i, y ≠ x) ∧ w = wr
set_option maxRecDepth 20000 in
theorem r9has_any (lv : Value) (l : List Int) (x : Int) (h100 : l.length ≤ 1000) (w : World) (hr : RowI w lv (intsV l)) :
    Calls Tryz.prog 32 #[lv, .int .i64 x] w fun e w' => e = .returned (.bool (decide (x ∈ l))) ∧ w' = w := by
  have HR := Lib.hid hr
  obtain ⟨ao, cp, rfl, -⟩ := id hr
  rw [intsV_len] at *
  clear hr
  go_enter Tryz.func32, Tryz.ntmps32
  go_wp2
  go_loopw [5] (fun iv wr => H9 w l x iv wr) (fun iv _ => l.length - (intOf iv).toNat)
  case atStart => exact ⟨⟨0, Nat.zero_le _, rfl, by simp, rfl⟩⟩
  case round =>
    obtain ⟨i, hi, rfl, hne, rfl⟩ := hrel.st
    clear hrel
    have HNE := Lib.hid hne
    clear hne
    by_cases hin : i < l.length
    · have hid : decide ((i : Int) < (l.length : Int)) = true := decide_eq_true (by omega)
      have hwi : IntKind.i64.wrap ((i : Int) + 1) = (i : Int) + 1 := IntWalk.i64_in _ (by omega)
      obtain ⟨y, hy⟩ : ∃ y, l[i]? = some y := ⟨_, List.getElem?_eq_getElem (by omega)⟩
      obtain ⟨-, b, off, rfl, c1⟩ := rowI_at HR.out hy
      have HY := Lib.hid hy
      clear hy
      by_cases e : y = x
      · have hed : (y == x) = true := by simpa using e
        have HN := Lib.hid (show decide (x ∈ l) = true from decide_eq_true (by rw [← e]; exact List.mem_of_getElem? HY.out))
        clear e
        go_wp2
        go_ret
        rw [HN.out]
        exact ⟨rfl, rfl⟩
      · have hed : (y == x) = false := by simpa using e
        have HN := Lib.hid (show ∀ z ∈ l.take (i + 1), z ≠ x from fun z hz => by
          rw [List.take_add_one, HY.out, List.mem_append] at hz
          rcases hz with hz | hz
          · exact HNE.out z hz
          · simp at hz; rw [hz]; exact e)
        clear e
        go_wp2
        go_roundw
        case rel => exact ⟨⟨i + 1, by omega, rfl, HN.out, rfl⟩⟩
        case measure => simp only [intOf]; omega
    · have hid : decide ((i : Int) < (l.length : Int)) = false := decide_eq_false (by omega)
      have HN := Lib.hid (show decide (x ∈ l) = false from decide_eq_false fun h => by
        have := HNE.out
        rw [List.take_of_length_le (by omega)] at this
        exact this x h rfl)
      go_wp2
      go_ret
      rw [HN.out]
      exact ⟨rfl, rfl⟩
end Go.Proofs.YtnilepaicnnbhaaGreatDoor

/- solventref09: fatal. -/
namespace Go.GF
open Go Go.RowKit
/-- The units that are there, from one on. -/
def uF (h : List Bool) (i : Nat) : List Nat := (List.range' i (h.length - i)).filter fun u => (h[u]?).getD false
theorem uF_zero (h : List Bool) : uF h 0 = units h := by unfold uF units; rw [Nat.sub_zero, List.range_eq_range']
theorem uF_end (h : List Bool) {i : Nat} (hi : h.length ≤ i) : uF h i = [] := by unfold uF; rw [show h.length - i = 0 by omega]; rfl
theorem uF_at {h : List Bool} {i : Nat} {x : Bool} (hx : h[i]? = some x) : uF h i = if x = true then i :: uF h (i + 1) else uF h (i + 1) := by
  have hi := (List.getElem?_eq_some_iff.1 hx).1
  unfold uF
  rw [show h.length - i = (h.length - (i + 1)) + 1 by omega, List.range'_succ, List.filter_cons, hx, Option.getD_some]
theorem fatalR_nil0 {α : Type} (dec : List α → Bool) (l s : List α) : fatalR dec l 0 s = if dec s then none else some s := by cases l <;> rfl
theorem fatalR_none {α : Type} (dec : List α → Bool) (n : Nat) (s : List α) : fatalR dec [] (n + 1) s = none := rfl
theorem fatalR_cons {α : Type} (dec : List α → Bool) (x : α) (r : List α) (n : Nat) (s : List α) : fatalR dec (x :: r) (n + 1) s = (fatalR dec r n (s ++ [x])).or (fatalR dec r (n + 1) s) := rfl
end Go.GF
namespace Go.Proofs.YtnilepaicnnbhaaGreatDoor
open Go.RowKit Go.GF Go.Sl
def FatP (cv : Array Value) (c : CodeM) (hv : Value) (h : List Bool) (n : Nat) : Prop :=
  ∀ (s : List Nat) (i : Nat) (sv : Value) (w : World), CodeAt w cv c → RowI w hv (boolsV h) → RowI w sv (intsV (natsI s)) → (∀ u ∈ s, u < h.length) → s.length + n ≤ 100 → i ≤ h.length →
    Calls Tryz.prog 25 #[.agg cv, hv, sv, .int .i64 (i : Int), .int .i64 (n : Int)] w fun e w' => Below w.heap.size w w' ∧
      ∃ v, e = .returned (.tuple #[v, .bool (fatalR (fun s => decL c (minusL h s)) (uF h i) n s).isSome]) ∧ ∀ t, fatalR (fun s => decL c (minusL h s)) (uF h i) n s = some t → RowI w' v (intsV (natsI t))
set_option maxRecDepth 20000 in
set_option maxHeartbeats 2000000 in
theorem fatal_zero (cv : Array Value) (c : CodeM) (hv : Value) (h : List Bool) (hl : h.length = c.n) : FatP cv c hv h 0 := by
  intro s i sv w hc hh hs hlt h100 hi
  have hn32 := hc.n32
  have h0 : 0 < h.length := by have := hc.ok.pos; unfold CodeM.n at hl; omega
  have HWO := Lib.hid (fun W (hb : Below w.heap.size w W) => r9without_any hv sv h s h0 (by omega) (by omega) hlt W (hh.below hb) (hs.below hb))
  have HDE := Lib.hid (fun v W (hb : Below w.heap.size w W) hr => rdecodable_any cv c v (minusL h s) W (hc.below hb) hr (by rw [minusL_len]; exact hl))
  have HCB := Lib.hid (fun W (hb : Below w.heap.size w W) => hc.below hb)
  have HFR := Lib.hid (fatalR_nil0 (fun s => decL c (minusL h s)) (uF h i) s)
  have HS := Lib.hid hs
  obtain ⟨⟨nm, pv, dom, rfl, -⟩, -, -, -⟩ := hc
  have HBX := Lib.hid (fun t w1 h => code_box w w1 (codeV nm c.m c.k pv dom) t h)
  obtain ⟨sa, cs, rfl, -⟩ := id hs
  obtain ⟨ah, ch, rfl, -⟩ := id hh
  rw [intsV_len, natsI_len] at *
  rw [boolsV_len] at *
  have HB0 := Lib.hid (fun t => And.intro (al_below w (.cells (codeV nm c.m c.k pv dom) t)) (box_start w (codeV nm c.m c.k pv dom) t))
  clear hh hs hl hlt h100 hi hn32 h0
  unfold codeV at *
  go_enter Tryz.func25, Tryz.ntmps25
  go_upto_region 2 with (fail)
  have hB := (HB0.out 24).1.drew
  have hS0 : Box (w.alloc (.cells #[.string nm, .int .i64 (c.m : Int), .int .i64 (c.k : Int), pv, .int .i64 dom] 24)).drew w.heap.size (codeV nm c.m c.k pv dom) := (HB0.out 24).2
  have HB1 := Lib.hid hB
  clear hB
  refine reg_begin (fun w' => Box w' w.heap.size (codeV nm c.m c.k pv dom)) (by kernel_rfl) ?_
  generalize hw2 : (w.alloc (.cells #[.string nm, .int .i64 (c.m : Int), .int .i64 (c.k : Int), pv, .int .i64 dom] 24)).drew = w2 at *
  refine reg_take 0 (v := .agg (codeV nm c.m c.k pv dom)) rfl rfl (by decide +kernel) rfl (fun w' h => exec_ldC rfl rfl h) hS0 ?_; simp only [List.setIfInBounds_toArray, List.set_cons_succ, List.set_cons_zero]
  (apply reg_take 1 rfl rfl (by decide +kernel) rfl); (intro w' hw'; go_simp; rfl); exact hS0; simp only [List.setIfInBounds_toArray, List.set_cons_succ, List.set_cons_zero]
  (apply reg_take 2 rfl rfl (by decide +kernel) rfl); (intro w' hw'; go_simp; rfl); exact hS0; simp only [List.setIfInBounds_toArray, List.set_cons_succ, List.set_cons_zero]
  refine reg_call 3 rfl rfl (by decide +kernel) rfl (f := 45) (args := #[.slice ah h.length ch, .slice sa s.length cs]) (R := fun v w' => Below w2.heap.size w2 w' ∧ RowI w' v (boolsV (minusL h s))) (by kernel_rfl) ((HWO.out w2 HB1.out).mono fun e w' h => h) ?_
  rintro v3 w3 ⟨h3, h4⟩
  have hS3 := hS0.below h3
  have HB3 := Lib.hid (HB1.out.trans (h3.mono HB1.out.size))
  have HR3 := Lib.hid h4
  refine ⟨hS3, ?_⟩
  clear h3 h4
  simp only [List.setIfInBounds_toArray, List.set_cons_succ, List.set_cons_zero]
  refine reg_call 4 rfl rfl (by decide +kernel) rfl (f := 23) (args := #[.agg (codeV nm c.m c.k pv dom), v3]) (R := fun v w' => v = .bool (decL c (minusL h s)) ∧ Below w3.heap.size w3 w') (by kernel_rfl) ((HDE.out v3 w3 HB3.out HR3.out).mono fun e w' h => ⟨_, h.1, rfl, h.2⟩) ?_
  rintro _ w4 ⟨rfl, h5⟩
  have hS4 := hS3.below h5
  have HB4 := Lib.hid (HB3.out.trans (h5.mono HB3.out.size))
  refine ⟨hS4, ?_⟩
  clear h5
  simp only [List.setIfInBounds_toArray, List.set_cons_succ, List.set_cons_zero]
  (apply reg_take 5 rfl rfl (by decide +kernel) rfl); (intro w' hw'; go_simp; rfl); exact hS4; simp only [List.setIfInBounds_toArray, List.set_cons_succ, List.set_cons_zero]
  refine reg_done (by decide +kernel) ?_
  clear hS0 hS3 hS4 hw2
  go_wp2
  go_ret2
  rw [HFR.out]
  refine ⟨HB4.out, ?_⟩
  cases hd : decL c (minusL h s) with
  | true => exact ⟨_, rfl, by simp⟩
  | false =>
    refine ⟨_, rfl, fun t ht => ?_⟩
    simp at ht
    subst ht
    exact HS.out.below HB4.out
structure F9 (w : World) (g : Nat) (cv : Array Value) (h : List Bool) (dec : List Nat → Bool) (l : List Nat) (n : Nat) (s : List Nat) (iv : Value) (wr : World) : Prop where
  st : ∃ i : Nat, i ≤ h.length ∧ iv = .int .i64 (i : Int) ∧ fatalR dec l (n + 1) s = fatalR dec (uF h i) (n + 1) s ∧ Box wr g cv ∧ Below w.heap.size w wr
set_option maxRecDepth 20000 in
set_option maxHeartbeats 4000000 in
theorem fatal_succ (cv : Array Value) (c : CodeM) (hv : Value) (h : List Bool) (hl : h.length = c.n) (n : Nat) (IH : FatP cv c hv h n) : FatP cv c hv h (n + 1) := by
  intro s i0 sv w hc hh hs hlt h100 hi0
  have hn32 := hc.n32
  have HIH := Lib.hid (fun s2 i sv2 W (hb : Below w.heap.size w W) h1 h2 h3 h4 => IH s2 i sv2 W (hc.below hb) (hh.below hb) h1 h2 h3 h4)
  have HS := Lib.hid (fun W (hb : Below w.heap.size w W) => hs.below hb)
  have HLT := Lib.hid hlt
  have HSL := Lib.hid h100
  obtain ⟨⟨nm, pv, dom, rfl, -⟩, -, -, -⟩ := hc
  obtain ⟨sa, cs, rfl, -⟩ := id hs
  obtain ⟨ah, ch, rfl, -, -, hrow⟩ := id hh
  rw [intsV_len, natsI_len] at *
  rw [boolsV_len] at *
  have HC := Lib.hid (fun (i : Nat) (x : Bool) (hx : h[i]? = some x) => show ∃ b off, ah = some ⟨b, off, none⟩ ∧ ∀ W, Below w.heap.size w W → W.cell? ⟨b, off + i, none⟩ = some (.bool x) from by
    obtain ⟨b, off, e, hl, hc⟩ := hrow (by have := (List.getElem?_eq_some_iff.1 hx).1; omega)
    exact ⟨b, off, e, fun W hb => (hb.cell (p := ⟨b, off + i, none⟩) hl).trans (hc i _ (boolsV_at hx))⟩)
  have HB0 := Lib.hid (fun t => And.intro (box_start w (codeV nm c.m c.k pv dom) t) (al_below w (.cells (codeV nm c.m c.k pv dom) t)))
  have hlen : h.length ≤ 32 := by omega
  have hn1 : ((((n + 1 : Nat) : Int)) == 0) = false := by simp; omega
  have hwn : IntKind.i64.wrap (((n + 1 : Nat) : Int) - 1) = (n : Int) := by rw [IntWalk.i64_in _ (by omega)]; omega
  generalize hN : ((n + 1 : Nat) : Int) = N1 at *
  clear hh hs hl hlt h100 hrow hn32 hN IH
  generalize (fun s => decL c (minusL h s)) = dec at *
  unfold codeV at *
  go_enter Tryz.func25, Tryz.ntmps25
  go_wp2
  generalize hgs : w.heap.size = gs at *
  have HI0 := Lib.hid hi0
  clear hi0
  go_loopw [13] (fun iv wr => F9 w gs (codeV nm c.m c.k pv dom) h dec (uF h i0) n s iv wr) (fun iv _ => h.length - (intOf iv).toNat)
  case atStart => exact ⟨⟨i0, HI0.out, rfl, rfl, HB0.out _ |>.1, by rw [hgs]; exact (HB0.out _).2⟩⟩
  case round =>
    clear HB0
    obtain ⟨i, hi, rfl, hf, hbx, hb⟩ := hrel.st
    clear hrel
    have HF := Lib.hid (And.intro hf (And.intro hbx hb))
    rw [hgs] at hb
    have HBW := Lib.hid hb
    clear hf hbx
    by_cases hin : i < h.length
    · have hid : decide ((i : Int) < (h.length : Int)) = true := decide_eq_true (by omega)
      have hwi : IntKind.i64.wrap ((i : Int) + 1) = (i : Int) + 1 := IntWalk.i64_in _ (by omega)
      obtain ⟨x, hx⟩ : ∃ x, h[i]? = some x := ⟨_, List.getElem?_eq_getElem hin⟩
      obtain ⟨b, off, rfl, hcc⟩ := HC.out i x hx
      have c1 := hcc wr hb
      have HU := Lib.hid (uF_at hx)
      clear hx hcc hb
      cases x with
      | false =>
        have HN := Lib.hid (show fatalR dec (uF h i0) (n + 1) s = fatalR dec (uF h (i + 1)) (n + 1) s by rw [HF.out.1, HU.out, if_neg (by decide)])
        go_wp2
        go_roundw
        case rel => exact ⟨⟨i + 1, by omega, rfl, HN.out, HF.out.2⟩⟩
        case measure => simp only [intOf]; omega
      | true =>
        have HN := Lib.hid (show fatalR dec (uF h i0) (n + 1) s = (fatalR dec (uF h (i + 1)) n (s ++ [i])).or (fatalR dec (uF h (i + 1)) (n + 1) s) by rw [HF.out.1, HU.out, if_pos rfl, fatalR_cons])
        have HOW := Lib.hid (show Sat wr (ownAt TI 1 (.slice none 0 0) 0 [] * old wr) from ownAt_nil.2 (Sat.old wr))
        obtain ⟨ti, hti, hz0, hz1, hz2⟩ := info_parts info_int3
        have HI := Lib.hid (And.intro hti (And.intro hz0 (And.intro hz1 hz2)))
        clear hti hz0 hz1 hz2
        go_wp2_with first
          | (at_builtin; refine wpList_append_ri rfl _ _ 26 TI rfl ti _ Tryz.underlying26 HI.out.1 HI.out.2.1 HI.out.2.2.1 HI.out.2.2.2 rfl HOW.out (intsV (natsI s)) rfl rfl (HS.out wr HBW.out) (by intro u hu; unfold intsV at hu; obtain ⟨z, -, rfl⟩ := List.mem_map.1 hu; rfl) (by rw [intsV_len, natsI_len]; have := HSL.out; unfold maxLen; omega) (by rw [intsV_len, natsI_len]; have := HSL.out; omega) ?_; intro v2 w2 hs2 hp2
             rw [Nat.zero_add, List.nil_append, intsV_len] at hp2
             have H2 := Lib.hid (And.intro hs2 hp2)
             clear hs2 hp2)
          | (at_builtin; refine wpList_apF rfl _ _ rfl rfl rfl H2.out.2 (by rw [natsI_len]; have := HSL.out; omega) ?_; intro v3 w3 hs3 hp3
             rw [← natsI_app] at hp3
             have hb3 := (H2.out.1.trans hs3).below_of hp3
             have H3 := Lib.hid (And.intro hb3 (rowI_own hp3))
             obtain ⟨d0, d1, d2, d3, d4⟩ := Box.code (nm := nm) (dom := dom) (HF.out.2.1.below hb3)
             have HB3 := Lib.hid (show Below gs w w3 from HBW.out.trans (hb3.mono (by rw [← hgs]; exact HF.out.2.2.size)))
             clear hs3 hp3 hb3)
          | (go_at_call 25; refine (HIH.out (s ++ [i]) (i + 1) v3 w3 HB3.out H3.out.2 (by intro u hu; rcases List.mem_append.1 hu with h | h; exact HLT.out u h; simp at h; omega) (by rw [List.length_append, List.length_singleton]; have := HSL.out; omega) (by omega)).mono ?_; rintro e w4 ⟨h4, v4, rfl, h5⟩
             have HB4 := Lib.hid (show Below gs w w4 from HB3.out.trans (h4.mono (by have := HB3.out.size; omega)))
             have HX4 := Lib.hid (HF.out.2.1.below (H3.out.1.trans (h4.mono H3.out.1.size)))
             have H5 := Lib.hid h5
             clear h4 h5 d0 d1 d2 d3 d4)
        case roundEnd hno =>
          have HNN := Lib.hid (show fatalR dec (uF h i0) (n + 1) s = fatalR dec (uF h (i + 1)) (n + 1) s by
            rw [HN.out]
            cases hx : fatalR dec (uF h (i + 1)) n (s ++ [i]) with
            | none => rfl
            | some t => rw [hx] at hno; cases hno)
          clear hno
          go_roundw
          case rel => exact ⟨⟨i + 1, by omega, rfl, HNN.out, HX4.out, by rw [hgs]; exact HB4.out⟩⟩
          case measure => simp only [intOf]; omega
        · rename_i hyes
          have HE := Lib.hid (show ∃ t, fatalR dec (uF h (i + 1)) n (s ++ [i]) = some t ∧ fatalR dec (uF h i0) (n + 1) s = some t by
            obtain ⟨t, ht⟩ := Option.isSome_iff_exists.1 hyes
            exact ⟨t, ht, by rw [HN.out, ht]; rfl⟩)
          clear hyes
          go_ret2
          obtain ⟨t, h1, h2⟩ := HE.out
          rw [h2]
          exact ⟨by first | exact HB4.out | (rw [hgs]; exact HB4.out), _, rfl, fun t' ht' => by cases ht'; exact H5.out t h1⟩
    · have hie : i = h.length := by omega
      have hid : decide ((i : Int) < (h.length : Int)) = false := decide_eq_false (by omega)
      have HN := Lib.hid (show fatalR dec (uF h i0) (n + 1) s = none by rw [HF.out.1, hie, uF_end h (Nat.le_refl _), fatalR_none])
      clear hb hie
      go_wp2
      go_ret2
      rw [HN.out]
      exact ⟨by first | exact HBW.out | (rw [hgs]; exact HBW.out), _, rfl, fun t ht => by cases ht⟩
theorem rfatal_any (cv : Array Value) (c : CodeM) (hv : Value) (h : List Bool) (hl : h.length = c.n) : ∀ n, FatP cv c hv h n
  | 0 => fatal_zero cv c hv h hl
  | n + 1 => fatal_succ cv c hv h hl n (rfatal_any cv c hv h hl n)
end Go.Proofs.YtnilepaicnnbhaaGreatDoor

/- solventref09: Left, Losses, Fatal. -/
namespace Go.GF
open Go Go.RowKit
theorem firstL_find {α : Type} {dec : List α → Bool} {l : List α} : ∀ {n f : Nat}, (firstL dec l n f).1 < f + n → ((subsL l ((firstL dec l n f).1 + 1)).find? fun s => !dec s) = some (firstL dec l n f).2
  | 0, f, h => by have := (firstL_ge dec l 0 f).1; omega
  | n + 1, f, h => by
    unfold firstL at h ⊢
    cases hx : (subsL l (f + 1)).find? fun s => !dec s with
    | some s => simp only; exact hx
    | none =>
      rw [hx] at h
      simp only at h ⊢
      exact firstL_find (by omega)
theorem firstL_hit {α : Type} {dec : List α → Bool} {l s : List α} {n f : Nat} (h : (subsL l (f + 1)).find? (fun s => !dec s) = some s) : (firstL dec l (n + 1) f).1 = f := by unfold firstL; rw [h]
theorem firstL_miss {α : Type} {dec : List α → Bool} {l : List α} {n f : Nat} (h : (subsL l (f + 1)).find? (fun s => !dec s) = none) : firstL dec l (n + 1) f = firstL dec l n (f + 1) := by conv => lhs; unfold firstL; rw [h]
theorem minus_all (h : List Bool) : units (minusL h (units h)) = [] := by
  rw [List.eq_nil_iff_forall_not_mem]
  intro u hu
  have := (minusL_at.1 (mem_units.1 hu))
  exact this.2 (mem_units.2 this.1)
theorem search_cut {c : CodeM} (hc : c.Ok) {h : List Bool} (hd : decL c h = true) :
    (searchM c h).1 = ((firstL (fun s => decL c (minusL h s)) (units h) (min 4 (units h).length) 0).1 : Int) := by
  have h0 : 0 < (units h).length := by
    rcases Nat.eq_zero_or_pos (units h).length with e | e
    · rw [decL_few hc (a := h) (by have := hc.pos; omega)] at hd
      cases hd
    · exact e
  have hl : decL c (minusL h (units h)) = false := decL_few hc (by rw [minus_all]; have := hc.pos; simp; omega)
  unfold searchM
  rw [hd, if_neg (by decide)]
  simp only
  rcases Nat.le_total (units h).length 4 with h4 | h4
  · rw [Nat.min_eq_right h4, firstL_cut (dec := fun s => decL c (minusL h s)) hl h0 (n := (units h).length) (m := 4) (f := 0) h0 (by omega) h4]
  · rw [Nat.min_eq_left h4]
end Go.GF
namespace Go.Proofs.YtnilepaicnnbhaaGreatDoor
open Go.RowKit Go.GF Go.Sl
structure L9 (w : World) (g : Nat) (cv : Array Value) (dec : List Nat → Bool) (l : List Nat) (N F : Nat) (fv : Value) (wr : World) : Prop where
  st : ∃ f : Nat, f ≤ N ∧ fv = .int .i64 (f : Int) ∧ F = (firstL dec l (N - f) f).1 ∧ Box wr g cv ∧ Below g w wr
set_option maxRecDepth 20000 in
set_option maxHeartbeats 4000000 in
theorem r9left_any (cv : Array Value) (nm : ByteArray) (f k : Int) (L : List (List Int)) (dom : Int) (hv : Value) (h : List Bool) (w : World) (hc : CvAt w cv nm f k L dom) (hr : RowI w hv (boolsV h)) :
    Calls Tryz.prog 9 #[.agg cv, hv] w fun e w' => e = .returned (.int .i64 (leftM nm f k L dom h)) ∧ Below w.heap.size w w' := by
  have HV := Lib.hid (fun W (hb : Below w.heap.size w W) => r9valid_any cv nm f k L dom (h.length : Int) W (hc.below hb))
  have HCD := Lib.hid (fun (hck : checkB nm f k L dom = true) W (hb : Below w.heap.size w W) => (hc.below hb).code hck)
  have HRB := Lib.hid (fun W (hb : Below w.heap.size w W) => hr.below hb)
  have HCB := Lib.hid (fun t w1 h => code_box w w1 cv t h)
  obtain ⟨pv, rfl, -⟩ := hc.at_
  obtain ⟨ah, ch, rfl, -, hmx, -⟩ := id hr
  rw [boolsV_len] at *
  have HMX := Lib.hid hmx
  clear hr hmx
  cases hck : (checkB nm f k L dom && (h.length : Int) == k + (L.length : Int)) with
  | false =>
    have HN := Lib.hid (show leftM nm f k L dom h = -1 from if_neg fun hx => by rw [hx.1, hx.2] at hck; simp at hck)
    rw [hck] at HV
    clear hc hck
    unfold codeV at *
    go_enter Tryz.func9, Tryz.ntmps9
    go_wp2_with (go_at_call 22; refine (HV.out _ (al_below w _)).mono ?_; rintro e w1 ⟨rfl, h1⟩)
    go_ret
    rw [HN.out]
    exact ⟨rfl, (HCB.out _ w1 h1).2⟩
  | true =>
    obtain ⟨hb1, hb2⟩ := Bool.and_eq_true_iff.1 hck
    have hb2 : (h.length : Int) = k + (L.length : Int) := by simpa using hb2
    obtain ⟨hcode, hn⟩ := hc.code hb1
    have HLM := Lib.hid (show leftM nm f k L dom h = (searchM (codeM f k L) h).1 from if_pos ⟨hb1, hb2⟩)
    have hl : h.length = (codeM f k L).n := by omega
    have hn32 := hcode.n32
    rw [hck] at HV
    have HCA := Lib.hid (fun W (hb : Below w.heap.size w W) => (HCD.out hb1 W hb).1)
    have HCUT := Lib.hid (fun hd => search_cut (c := codeM f k L) hcode.ok (h := h) hd)
    have HDN := Lib.hid (show decL (codeM f k L) h = false → (searchM (codeM f k L) h).1 = -1 from fun hd => by unfold searchM; rw [if_pos hd])
    have HUL := Lib.hid (units_len h)
    clear HCD hc hcode hn hb1 hb2 hck
    generalize codeM f k L = c at *
    have HDE := Lib.hid (fun W (hb : Below w.heap.size w W) => rdecodable_any (codeV nm f k pv dom) c (.slice ah h.length ch) h W (HCA.out W hb) (HRB.out W hb) hl)
    have HPR := Lib.hid (fun W (hb : Below w.heap.size w W) => r9present_any (.slice ah h.length ch) h (by omega) W (HRB.out W hb))
    have HFA := Lib.hid (fun n (hn : n ≤ 100) W (hb : Below w.heap.size w W) => rfatal_any (codeV nm f k pv dom) c (.slice ah h.length ch) h hl n [] 0 (.slice none 0 0) W (HCA.out W hb) (HRB.out W hb) ⟨none, 0, rfl, Nat.le_refl _, by unfold maxLen; omega, fun h => absurd h (by simp [intsV, natsI])⟩ (by simp) (by simp; exact hn) (Nat.zero_le _))
    rw [uF_zero] at HFA
    clear HCA HRB hl
    unfold codeV at *
    cases hd : decL c h with
    | false =>
      have HZ := Lib.hid (HDN.out hd)
      rw [hd] at HDE
      clear hd
      go_enter Tryz.func9, Tryz.ntmps9
      go_wp2_with first
        | (go_at_call 22; refine (HV.out _ (al_below w _)).mono ?_; rintro e w1 ⟨rfl, h1⟩; obtain ⟨hg, hb⟩ := HCB.out _ w1 h1; obtain ⟨c0, c1, c2, c3, c4⟩ := Box.code (nm := nm) (dom := dom) hg)
        | (go_at_call 23; refine (HDE.out w1 hb).mono ?_; rintro e w2 ⟨rfl, h2⟩)
      go_ret
      rw [HLM.out, HZ.out]
      exact ⟨rfl, hb.trans (h2.mono hb.size)⟩
    | true =>
      have HCU := Lib.hid (HCUT.out hd)
      rw [hd] at HDE
      clear hd HCUT HDN
      generalize hdec : (fun s => decL c (minusL h s)) = dec at *
      generalize hul : units h = l at *
      obtain ⟨N, hN⟩ : ∃ N, min 4 l.length = N := ⟨_, rfl⟩
      rw [hN] at HCU
      have hN4 : N ≤ 4 ∧ N ≤ l.length := by omega
      have HNN := Lib.hid (show ∀ f : Nat, f ≤ N → (¬ f < N → ¬ f < 4 ∨ ¬ f < l.length) from fun f h1 h2 => by omega)
      obtain ⟨F, hF⟩ : ∃ F, (firstL dec l N 0).1 = F := ⟨_, rfl⟩
      rw [hF] at HCU
      have HF := Lib.hid hF
      clear hN hF hdec hul
      go_enter Tryz.func9, Tryz.ntmps9
      go_wp2_with first
        | (go_at_call 22; refine (HV.out _ (al_below w _)).mono ?_; rintro e w1 ⟨rfl, h1⟩; obtain ⟨hg, hb⟩ := HCB.out _ w1 h1; obtain ⟨c0, c1, c2, c3, c4⟩ := Box.code (nm := nm) (dom := dom) hg)
        | (go_at_call 23; refine (HDE.out w1 hb).mono ?_; rintro e w2 ⟨rfl, h2⟩)
      have HB2 := Lib.hid (And.intro (hg.below h2) (hb.trans (h2.mono hb.size)))
      clear h1 h2 hg hb c0 c1 c2 c3 c4 HV HDE HCB
      generalize hgs : w.heap.size = gs at *
      go_loopw [7] (fun fv wr => L9 w gs (codeV nm f k pv dom) dec l N F fv wr) (fun fv _ => N - (intOf fv).toNat)
      case atStart => exact ⟨⟨0, Nat.zero_le _, rfl, by rw [Nat.sub_zero]; exact HF.out.symm, HB2.out⟩⟩
      case round =>
        clear HB2
        obtain ⟨q, hq, rfl, hst, hbx, hb⟩ := hrel.st
        clear hrel
        have HS := Lib.hid (And.intro hst (And.intro hbx hb))
        have HP := Lib.hid (HPR.out wr hb)
        obtain ⟨c0, c1, c2, c3, c4⟩ := Box.code (nm := nm) (dom := dom) hbx
        by_cases hqN : q < N
        · have hq4d : decide ((q : Int) < 4) = true := decide_eq_true (by omega)
          have hqld : decide ((q : Int) < (l.length : Int)) = true := decide_eq_true (by omega)
          have hwq : IntKind.i64.wrap ((q : Int) + 1) = ((q + 1 : Nat) : Int) := by rw [IntWalk.i64_in _ (by omega)]; omega
          have HFC := Lib.hid (HFA.out (q + 1) (by omega) wr hb)
          rw [fatalR_nil] at HFC
          have HUN := Lib.hid (show N - q = (N - (q + 1)) + 1 by omega)
          generalize hq1 : ((q + 1 : Nat) : Int) = q1 at *
          have HQ1 := Lib.hid hq1
          clear hst hbx hb hq1
          cases hfd : (subsL l (q + 1)).find? (fun s => !dec s) with
          | some t =>
            have HU2 := Lib.hid (show F = q by have h1 := HS.out.1; rw [HUN.out, firstL_hit hfd] at h1; exact h1)
            rw [hfd] at HFC
            clear hfd
            go_wp2_with first
              | (go_at_call 24; refine HP.out.mono ?_; rintro e w3 ⟨rfl, rfl⟩)
              | (go_at_call 25; refine HFC.out.mono ?_; rintro e w4 ⟨h4, v4, rfl, -⟩; simp only [Option.isSome_some])
            go_ret
            rw [HLM.out, HCU.out, HU2.out]
            exact ⟨rfl, by first | exact HS.out.2.2.trans (h4.mono (by rw [← hgs]; exact HS.out.2.2.size)) | (rw [hgs]; exact HS.out.2.2.trans (h4.mono (by rw [← hgs]; have := HS.out.2.2.size; omega)))⟩
          | none =>
            have HU2 := Lib.hid (show F = (firstL dec l (N - (q + 1)) (q + 1)).1 by have h1 := HS.out.1; rw [HUN.out, firstL_miss hfd] at h1; exact h1)
            rw [hfd] at HFC
            clear hfd
            go_wp2_with first
              | (go_at_call 24; refine HP.out.mono ?_; rintro e w3 ⟨rfl, rfl⟩)
              | (go_at_call 25; refine HFC.out.mono ?_; rintro e w4 ⟨h4, v4, rfl, -⟩; simp only [Option.isSome_none])
            go_roundw
            case rel => exact ⟨⟨q + 1, by omega, by rw [HQ1.out], HU2.out, HS.out.2.1.below h4, HS.out.2.2.trans (h4.mono (by have := HS.out.2.2.size; omega))⟩⟩
            case measure => simp only [intOf]; rw [← HQ1.out]; omega
        · have HQN := Lib.hid (show F = q by
            have h1 := hst
            rw [show N - q = 0 by omega] at h1
            exact h1)
          have HBQ := Lib.hid hb
          by_cases hq4 : q < 4
          · have hq4d : decide ((q : Int) < 4) = true := decide_eq_true (by omega)
            have hqld : decide ((q : Int) < (l.length : Int)) = false := decide_eq_false (by have := HNN.out q hq hqN; omega)
            have hqlp : ¬ q < l.length := by have := HNN.out q hq hqN; omega
            clear hst hbx hb hq4
            go_wp2_with (go_at_call 24; refine HP.out.mono ?_; rintro e w3 ⟨rfl, rfl⟩)
            go_ret
            rw [HLM.out, HCU.out, HQN.out]
            exact ⟨rfl, by first | exact HBQ.out | (rw [hgs]; exact HBQ.out)⟩
          · have hq4d : decide ((q : Int) < 4) = false := decide_eq_false (by omega)
            clear hst hbx hb
            go_wp2
            go_ret
            rw [HLM.out, HCU.out, HQN.out]
            exact ⟨rfl, by first | exact HBQ.out | (rw [hgs]; exact HBQ.out)⟩
set_option maxRecDepth 20000 in
set_option maxHeartbeats 2000000 in
theorem r9losses_any (cv : Array Value) (nm : ByteArray) (f k : Int) (L : List (List Int)) (dom : Int) (w : World) (hc : CvAt w cv nm f k L dom) :
    Calls Tryz.prog 7 #[.agg cv] w fun e w' => e = .returned (.int .i64 (lossesM nm f k L dom)) ∧ Below w.heap.size w w' := by
  have hk := hc.k_
  have hl := hc.l_
  obtain ⟨N, hN⟩ : ∃ N : Nat, k + (L.length : Int) = (N : Int) := ⟨(k + (L.length : Int)).toNat, by omega⟩
  have HLF := Lib.hid (fun hv W (hb : Below w.heap.size w W) hr => r9left_any cv nm f k L dom hv (List.replicate N true) W (hc.below hb) hr)
  have HLE := Lib.hid (show leftM nm f k L dom (List.replicate N true) = lossesM nm f k L dom by
    cases hck : checkB nm f k L dom with
    | true =>
      have hn := (hc.code hck).2
      rw [show N = (codeM f k L).n by omega]
      exact left_all hck hn
    | false => unfold leftM lossesM; rw [hck]; simp)
  have HAL := Lib.hid (fun W => r9all_any N (by omega) W)
  have HB0 := Lib.hid (fun t => And.intro (box_start w cv t) (al_below w (.cells cv t)))
  obtain ⟨pv, rfl, hp⟩ := hc.at_
  obtain ⟨ap, cp, rfl⟩ := RowsI.shape hp
  have hw : IntKind.i64.wrap (k + (L.length : Int)) = (N : Int) := by rw [IntWalk.i64_in _ (by omega), hN]
  rw [HLE.out] at HLF
  clear hc hp hN hk hl
  generalize lossesM nm f k L dom = R at *
  unfold codeV at *
  go_enter Tryz.func7, Tryz.ntmps7
  go_upto_region 1 with (fail)
  have hS0 : Box (w.alloc (.cells #[.string nm, .int .i64 f, .int .i64 k, .slice ap L.length cp, .int .i64 dom] 24)).drew w.heap.size (codeV nm f k (.slice ap L.length cp) dom) := (HB0.out 24).1
  have HB1 := Lib.hid ((HB0.out 24).2.drew)
  refine reg_begin (fun w' => Box w' w.heap.size (codeV nm f k (.slice ap L.length cp) dom)) (by kernel_rfl) ?_
  generalize hw2 : (w.alloc (.cells #[.string nm, .int .i64 f, .int .i64 k, .slice ap L.length cp, .int .i64 dom] 24)).drew = w2 at *
  refine reg_take 0 (v := .agg (codeV nm f k (.slice ap L.length cp) dom)) rfl rfl (by decide +kernel) rfl (fun w' h => exec_ldC rfl rfl h) hS0 ?_; simp only [List.setIfInBounds_toArray, List.set_cons_succ, List.set_cons_zero]
  (apply reg_take 1 rfl rfl (by decide +kernel) rfl); (intro w' hw'; go_simp; rfl); exact hS0; simp only [List.setIfInBounds_toArray, List.set_cons_succ, List.set_cons_zero]
  refine reg_take 2 (v := .int .i64 k) rfl rfl (by decide +kernel) rfl (fun w' h => exec_load_cell rfl rfl Tryz.underlying3 rfl (Box.code (nm := nm) (dom := dom) h).2.2.1) hS0 ?_; simp only [List.setIfInBounds_toArray, List.set_cons_succ, List.set_cons_zero]
  (apply reg_take 3 rfl rfl (by decide +kernel) rfl); (intro w' hw'; go_simp; rfl); exact hS0; simp only [List.setIfInBounds_toArray, List.set_cons_succ, List.set_cons_zero]
  refine reg_take 4 (v := .slice ap L.length cp) rfl rfl (by decide +kernel) rfl (fun w' h => exec_load_cell rfl rfl Tryz.underlying22 rfl (Box.code (nm := nm) (dom := dom) h).2.2.2.1) hS0 ?_; simp only [List.setIfInBounds_toArray, List.set_cons_succ, List.set_cons_zero]
  (apply reg_take 5 rfl rfl (by decide +kernel) rfl); (intro w' hw'; go_simp; rfl); exact hS0; simp only [List.setIfInBounds_toArray, List.set_cons_succ, List.set_cons_zero]
  (apply reg_take 6 rfl rfl (by decide +kernel) rfl); (intro w' hw'; go_simp; rfl); exact hS0; simp only [List.setIfInBounds_toArray, List.set_cons_succ, List.set_cons_zero]
  refine reg_call 7 rfl rfl (by decide +kernel) rfl (f := 19) (args := #[.int .i64 (N : Int)]) (R := fun v w' => Below w2.heap.size w2 w' ∧ RowI w' v (boolsV (List.replicate N true))) (by kernel_rfl) ((HAL.out w2).mono fun e w' h => h) ?_
  rintro v3 w3 ⟨h3, h4⟩
  have hS3 := hS0.below h3
  have HB3 := Lib.hid (HB1.out.trans (h3.mono HB1.out.size))
  have HR3 := Lib.hid h4
  refine ⟨hS3, ?_⟩
  clear h3 h4
  simp only [List.setIfInBounds_toArray, List.set_cons_succ, List.set_cons_zero]
  refine reg_call 8 rfl rfl (by decide +kernel) rfl (f := 9) (args := #[.agg (codeV nm f k (.slice ap L.length cp) dom), v3]) (R := fun v w' => v = .int .i64 R ∧ Below w3.heap.size w3 w') (by kernel_rfl) ((HLF.out v3 w3 HB3.out HR3.out).mono fun e w' h => ⟨_, h.1, rfl, h.2⟩) ?_
  rintro _ w4 ⟨rfl, h5⟩
  have hS4 := hS3.below h5
  have HB4 := Lib.hid (HB3.out.trans (h5.mono HB3.out.size))
  refine ⟨hS4, ?_⟩
  clear h5
  simp only [List.setIfInBounds_toArray, List.set_cons_succ, List.set_cons_zero]
  (apply reg_take 9 rfl rfl (by decide +kernel) rfl); (intro w' hw'; go_simp; rfl); exact hS4; simp only [List.setIfInBounds_toArray, List.set_cons_succ, List.set_cons_zero]
  refine reg_done (by decide +kernel) ?_
  clear hS0 hS3 hS4 hw2
  go_wp2
  go_ret
  exact ⟨rfl, HB4.out⟩
set_option maxRecDepth 20000 in
set_option maxHeartbeats 2000000 in
theorem r9fatal_any (cv : Array Value) (nm : ByteArray) (f k : Int) (L : List (List Int)) (dom : Int) (hv : Value) (h : List Bool) (w : World) (hc : CvAt w cv nm f k L dom) (hr : RowI w hv (boolsV h)) :
    Calls Tryz.prog 12 #[.agg cv, hv] w fun e w' => ∃ v, e = .returned v ∧ RowI w' v (intsV (natsI (fatalM nm f k L dom h))) ∧ Below w.heap.size w w' := by
  have HLF := Lib.hid (fun W (hb : Below w.heap.size w W) => r9left_any cv nm f k L dom hv h W (hc.below hb) (hr.below hb))
  have HRN := Lib.hid (fun W => show RowI W (.slice none 0 0) (intsV (natsI [])) from ⟨none, 0, rfl, Nat.le_refl _, by unfold maxLen; omega, fun h => absurd h (by simp [intsV, natsI])⟩)
  have HCB := Lib.hid (fun t w1 h => code_box w w1 cv t h)
  by_cases hx : 0 ≤ leftM nm f k L dom h ∧ leftM nm f k L dom h ≠ 4
  · obtain ⟨hx0, hx4⟩ := hx
    have hv1 : checkB nm f k L dom = true ∧ (h.length : Int) = k + (L.length : Int) := Classical.byContradiction fun hn => by
      have : leftM nm f k L dom h = -1 := if_neg hn
      omega
    have HLM := (show leftM nm f k L dom h = (searchM (codeM f k L) h).1 from if_pos hv1)
    have HFM := (show fatalM nm f k L dom h = (searchM (codeM f k L) h).2 from if_pos hv1)
    obtain ⟨hcode, hn⟩ := hc.code hv1.1
    have hl : h.length = (codeM f k L).n := by have := hv1.2; omega
    have hlo := (search_lo (codeM f k L) h).2
    obtain ⟨F, hF⟩ : ∃ F : Nat, (searchM (codeM f k L) h).1 = (F : Int) := ⟨(searchM (codeM f k L) h).1.toNat, by omega⟩
    have hF4 : F < 4 := by rw [HLM, hF] at hx0 hx4; rw [hF] at hlo; omega
    have HFND := Lib.hid (show fatalR (fun s => decL (codeM f k L) (minusL h s)) (uF h 0) (F + 1) [] = some (fatalM nm f k L dom h) by
      rw [uF_zero, fatalR_nil, HFM]
      have hd : ¬ decL (codeM f k L) h = false := fun hd => by
        unfold searchM at hF
        rw [if_pos hd] at hF
        simp only at hF
        omega
      unfold searchM at hF ⊢
      rw [if_neg hd] at hF ⊢
      simp only at hF ⊢
      have h1 := firstL_find (dec := fun s => decL (codeM f k L) (minusL h s)) (l := units h) (n := 4) (f := 0) (by omega)
      rw [show (firstL (fun s => decL (codeM f k L) (minusL h s)) (units h) 4 0).1 = F by omega] at h1
      exact h1)
    have HFA := Lib.hid (fun W (hb : Below w.heap.size w W) => rfatal_any cv (codeM f k L) hv h hl (F + 1) [] 0 (.slice none 0 0) W ((hc.below hb).code hv1.1).1 (hr.below hb) (HRN.out W) (by simp) (by simp; omega) (Nat.zero_le _))
    rw [HFND.out] at HFA
    rw [HLM, hF] at HLF
    obtain ⟨pv, rfl, -⟩ := hc.at_
    obtain ⟨ah, ch, rfl, -⟩ := id hr
    have hd0 : decide ((F : Int) < 0) = false := decide_eq_false (by omega)
    have hd4 : ((F : Int) == 4) = false := by simp; omega
    have hwF : IntKind.i64.wrap ((F : Int) + 1) = ((F + 1 : Nat) : Int) := by rw [IntWalk.i64_in _ (by omega)]; omega
    generalize ((F + 1 : Nat) : Int) = F1 at *
    generalize fatalM nm f k L dom h = R at *
    clear hc hr hx0 hx4 hv1 HLM HFM hcode hn hl hlo hF hF4
    unfold codeV at *
    go_enter Tryz.func12, Tryz.ntmps12
    go_wp2_with first
      | (go_at_call 9; refine (HLF.out _ (al_below w _)).mono ?_; rintro e w1 ⟨rfl, h1⟩; obtain ⟨hg, hb⟩ := HCB.out _ w1 h1; obtain ⟨c0, c1, c2, c3, c4⟩ := Box.code (nm := nm) (dom := dom) hg)
      | (go_at_call 25; refine (HFA.out w1 hb).mono ?_; rintro e w4 ⟨h4, v4, rfl, h5⟩; simp only [Option.isSome_some])
    go_ret
    exact ⟨_, rfl, h5 _ rfl, hb.trans (h4.mono hb.size)⟩
  · have HN := Lib.hid (show fatalM nm f k L dom h = [] by
      by_cases hv1 : checkB nm f k L dom = true ∧ (h.length : Int) = k + (L.length : Int)
      · have HLM := (show leftM nm f k L dom h = (searchM (codeM f k L) h).1 from if_pos hv1)
        have HFM := (show fatalM nm f k L dom h = (searchM (codeM f k L) h).2 from if_pos hv1)
        rw [HFM]
        refine search_nil ?_
        rw [HLM] at hx
        omega
      · exact if_neg hv1)
    generalize leftM nm f k L dom h = F at *
    obtain ⟨pv, rfl, -⟩ := hc.at_
    obtain ⟨ah, ch, rfl, -⟩ := id hr
    rw [HN.out]
    clear hc hr
    unfold codeV at *
    by_cases hx0 : F < 0
    · have hd0 : decide (F < 0) = true := decide_eq_true hx0
      clear hx hx0
      go_enter Tryz.func12, Tryz.ntmps12
      go_wp2_with (go_at_call 9; refine (HLF.out _ (al_below w _)).mono ?_; rintro e w1 ⟨rfl, h1⟩)
      go_ret
      exact ⟨_, rfl, HRN.out _, (HCB.out _ w1 h1).2⟩
    · have hd0 : decide (F < 0) = false := decide_eq_false hx0
      have hd4 : (F == 4) = true := by simp; omega
      clear hx hx0
      go_enter Tryz.func12, Tryz.ntmps12
      go_wp2_with (go_at_call 9; refine (HLF.out _ (al_below w _)).mono ?_; rintro e w1 ⟨rfl, h1⟩)
      go_ret
      exact ⟨_, rfl, HRN.out _, (HCB.out _ w1 h1).2⟩
end Go.Proofs.YtnilepaicnnbhaaGreatDoor

/- solventref09: lose, Racks. -/
namespace Go.GF
open Go Go.RowKit
/-- The units in a rack. -/
def setK (racks : List Int) (k : Int) (n : Nat) : List Nat := (List.range n).filter fun u => decide (racks[u]? = some k)
theorem setK_succ {racks : List Int} {k x : Int} {n : Nat} (hx : racks[n]? = some x) : setK racks k (n + 1) = if x = k then setK racks k n ++ [n] else setK racks k n := by
  unfold setK
  rw [List.range_succ, List.filter_append]
  by_cases h : x = k
  · subst h; simp [hx]
  · simp [hx, h]
theorem setK_len (racks : List Int) (k : Int) (n : Nat) : (setK racks k n).length ≤ n := by
  unfold setK
  have := List.length_filter_le (fun u => decide (racks[u]? = some k)) (List.range n)
  simpa using this
theorem setK_lt {racks : List Int} {k : Int} {n u : Nat} (h : u ∈ setK racks k n) : u < n := by
  unfold setK at h
  exact List.mem_range.1 (List.mem_filter.1 h).1
theorem lost_snoc (racks s : List Int) (k : Int) : minusL (lostR racks s) (setK racks k racks.length) = lostR racks (s ++ [k]) := by
  refine bools_ext (by rw [minusL_len]; unfold lostR; simp) fun u => ?_
  rw [minusL_at, lostR_at, lostR_at]
  constructor
  · rintro ⟨⟨x, hx, hs⟩, hu⟩
    refine ⟨x, hx, fun hm => ?_⟩
    rcases List.mem_append.1 hm with h | h
    · exact hs h
    · simp at h
      subst h
      refine hu (List.mem_filter.2 ⟨List.mem_range.2 (List.getElem?_eq_some_iff.1 hx).1, by simp [hx]⟩)
  · rintro ⟨x, hx, hs⟩
    refine ⟨⟨x, hx, fun h => hs (List.mem_append.2 (.inl h))⟩, fun hu => hs (List.mem_append.2 (.inr ?_))⟩
    have := (List.mem_filter.1 hu).2
    simp [hx] at this
    simp [this]
/-- lose of the specification. -/
def loseL (c : CodeM) (racks : List Int) : List Int → Nat → List Bool → Bool
  | _, 0, h => decL c h
  | [], _ + 1, _ => true
  | k :: r, n + 1, h => loseL c racks r n (minusL h (setK racks k racks.length)) && loseL c racks r (n + 1) h
theorem loseL_zero (c : CodeM) (racks l : List Int) (h : List Bool) : loseL c racks l 0 h = decL c h := by cases l <;> rfl
theorem loseL_eq (c : CodeM) (racks : List Int) : ∀ (l : List Int) (n : Nat) (s : List Int), loseL c racks l n (lostR racks s) = (subsL l n).all fun t => decL c (lostR racks (s ++ t))
  | l, 0, s => by
    have e : subsL l 0 = [[]] := by cases l <;> rfl
    rw [e, loseL_zero]; simp
  | [], n + 1, s => by simp [loseL, subsL]
  | k :: r, n + 1, s => by
    rw [loseL, lost_snoc, loseL_eq c racks r n (s ++ [k]), loseL_eq c racks r (n + 1) s]
    simp only [subsL, List.all_append, List.all_map]
    congr 2
    funext t
    simp
theorem find_all {α : Type} (p : α → Bool) (l : List α) : l.all p = (l.find? fun t => !p t).isNone := by
  rw [Bool.eq_iff_iff]
  simp
/-- The racks' names, as they come. -/
def namesF (l : List Int) : List Int := l.foldl (fun b x => if x ∈ b then b else b ++ [x]) []
theorem namesF_snoc (l : List Int) (x : Int) : namesF (l ++ [x]) = if x ∈ namesF l then namesF l else namesF l ++ [x] := by unfold namesF; rw [List.foldl_append]; rfl
theorem namesF_ok (r : List Int) : (namesF r).Nodup ∧ (∀ x, x ∈ namesF r ↔ x ∈ r) ∧ (namesF r).length ≤ r.length := by
  have key : ∀ (l b : List Int), b.Nodup → (l.foldl (fun b x => if x ∈ b then b else b ++ [x]) b).Nodup ∧ (∀ y, y ∈ l.foldl (fun b x => if x ∈ b then b else b ++ [x]) b ↔ y ∈ b ∨ y ∈ l) ∧
      (l.foldl (fun b x => if x ∈ b then b else b ++ [x]) b).length ≤ b.length + l.length := by
    intro l
    induction l with
    | nil => intro b hb; exact ⟨hb, by simp, by simp⟩
    | cons x l ih =>
      intro b hb
      rw [List.foldl_cons]
      by_cases h : x ∈ b
      · rw [if_pos h]
        obtain ⟨h1, h2, h3⟩ := ih b hb
        refine ⟨h1, fun y => ?_, by simp; omega⟩
        rw [h2, List.mem_cons]
        constructor
        · rintro (h | h); exact .inl h; exact .inr (.inr h)
        · rintro (h' | rfl | h'); exact .inl h'; exact .inl h; exact .inr h'
      · rw [if_neg h]
        obtain ⟨h1, h2, h3⟩ := ih (b ++ [x]) (List.nodup_append.2 ⟨hb, by simp, fun a ha y hy => by simp at hy; subst hy; intro e; subst e; exact h ha⟩)
        refine ⟨h1, fun y => ?_, by simp at h3 ⊢; omega⟩
        rw [h2]
        simp [or_assoc]
  obtain ⟨h1, h2, h3⟩ := key r [] (by simp)
  exact ⟨h1, fun x => (h2 x).trans (by simp), by unfold namesF; rw [List.length_nil, Nat.zero_add] at h3; exact h3⟩
end Go.GF
namespace Go.Proofs.YtnilepaicnnbhaaGreatDoor
open Go.RowKit Go.GF Go.Sl
def LosP (cv : Array Value) (c : CodeM) (rv nv : Value) (racks names : List Int) (n : Nat) : Prop :=
  ∀ (h : List Bool) (i : Nat) (hv : Value) (w : World), CodeAt w cv c → RowI w rv (intsV racks) → RowI w nv (intsV names) → RowI w hv (boolsV h) → h.length = c.n → i ≤ names.length →
    Calls Tryz.prog 33 #[.agg cv, rv, nv, hv, .int .i64 (i : Int), .int .i64 (n : Int)] w fun e w' => e = .returned (.bool (loseL c racks (names.drop i) n h)) ∧ Below w.heap.size w w'
set_option maxRecDepth 20000 in
set_option maxHeartbeats 1000000 in
theorem lose_zero (cv : Array Value) (c : CodeM) (rv nv : Value) (racks names : List Int) : LosP cv c rv nv racks names 0 := by
  intro h i hv w hc hr hn hh hl hi
  have HDE := Lib.hid (fun W (hb : Below w.heap.size w W) => rdecodable_any cv c hv h W (hc.below hb) (hh.below hb) hl)
  have HB0 := Lib.hid (fun t => (al_below w (.cells cv t)))
  obtain ⟨⟨nm, pv, dom, rfl, -⟩, -, -, -⟩ := hc
  rw [loseL_zero]
  clear hr hn hh hl hi
  unfold codeV at *
  go_enter Tryz.func33, Tryz.ntmps33
  go_wp2_with (go_at_call 23; refine (HDE.out _ (HB0.out _)).mono ?_; rintro e w2 ⟨rfl, h2⟩; have HF := Lib.hid ((HB0.out _).trans (h2.mono (HB0.out _).size)))
  go_ret
  exact ⟨rfl, HF.out⟩
structure S9 (w : World) (g : Nat) (cv : Array Value) (c : CodeM) (racks names : List Int) (i0 n : Nat) (h : List Bool) (iv : Value) (wr : World) : Prop where
  st : ∃ i : Nat, i ≤ names.length ∧ iv = .int .i64 (i : Int) ∧ loseL c racks (names.drop i0) (n + 1) h = loseL c racks (names.drop i) (n + 1) h ∧ Box wr g cv ∧ Below w.heap.size w wr
structure T9 (w : World) (racks : List Int) (k : Int) (sv uv : Value) (wr : World) : Prop where
  st : ∃ u : Nat, u ≤ racks.length ∧ uv = .int .i64 (u : Int) ∧ Same w wr ∧ Sat wr (ownAt TI 1 sv (natsI (setK racks k u)).length (intsV (natsI (setK racks k u))) * old w)
set_option maxRecDepth 20000 in
set_option maxHeartbeats 4000000 in
theorem lose_succ (cv : Array Value) (c : CodeM) (rv nv : Value) (racks names : List Int) (hrl : racks.length = c.n) (hnl : names.length ≤ 100) (n : Nat) (hn100 : n ≤ 100) (IH : LosP cv c rv nv racks names n) : LosP cv c rv nv racks names (n + 1) := by
  intro h i0 hv w hc hr hn hh hl hi0
  have hn32 := hc.n32
  have h0 : 0 < h.length := by have := hc.ok.pos; unfold CodeM.n at hl; omega
  have HIH := Lib.hid (fun h2 i hv2 W (hb : Below w.heap.size w W) h1 h3 h4 => IH h2 i hv2 W (hc.below hb) (hr.below hb) (hn.below hb) h1 h3 h4)
  have HWO := Lib.hid (fun sv s hs100 hlt W (hb : Below w.heap.size w W) hs => r9without_any hv sv h s h0 (by omega) hs100 hlt W (hh.below hb) hs)
  have HRR := Lib.hid (fun W (hb : Below w.heap.size w W) => hr.below hb)
  have HNN := Lib.hid (fun W (hb : Below w.heap.size w W) => hn.below hb)
  obtain ⟨⟨nm, pv, dom, rfl, -⟩, -, -, -⟩ := hc
  obtain ⟨ar, cr, rfl, -⟩ := id hr
  obtain ⟨an, cn, rfl, -⟩ := id hn
  rw [intsV_len] at *
  rw [intsV_len] at *
  have HB0 := Lib.hid (fun t => And.intro (box_start w (codeV nm c.m c.k pv dom) t) (al_below w (.cells (codeV nm c.m c.k pv dom) t)))
  have hrl32 : racks.length ≤ 32 := by omega
  have HLC := Lib.hid (And.intro hl hrl)
  have hn1 : ((((n + 1 : Nat) : Int)) == 0) = false := by simp; omega
  have hwn : IntKind.i64.wrap (((n + 1 : Nat) : Int) - 1) = (n : Int) := by rw [IntWalk.i64_in _ (by omega)]; omega
  generalize hN : ((n + 1 : Nat) : Int) = N1 at *
  have HI0 := Lib.hid hi0
  clear hr hn hh hl hn32 hN IH hi0 h0 hrl
  unfold codeV at *
  go_enter Tryz.func33, Tryz.ntmps33
  go_wp2
  generalize hgs : w.heap.size = gs at *
  go_loopw [13] (fun iv wr => S9 w gs (codeV nm c.m c.k pv dom) c racks names i0 n h iv wr) (fun iv _ => names.length - (intOf iv).toNat)
  case atStart => exact ⟨⟨i0, HI0.out, rfl, rfl, HB0.out _ |>.1, by rw [hgs]; exact (HB0.out _).2⟩⟩
  case round =>
    clear HB0
    obtain ⟨i, hi, rfl, hf, hbx, hb⟩ := hrel.st
    clear hrel
    have HF := Lib.hid (And.intro hf (And.intro hbx hb))
    rw [hgs] at hb
    have HBW := Lib.hid hb
    clear hf hbx hb
    by_cases hin : i < names.length
    · have hid : decide ((i : Int) < (names.length : Int)) = true := decide_eq_true (by omega)
      have hwi : IntKind.i64.wrap ((i : Int) + 1) = ((i + 1 : Nat) : Int) := by rw [IntWalk.i64_in _ (by omega)]; omega
      obtain ⟨k, hk⟩ : ∃ k, names[i]? = some k := ⟨_, List.getElem?_eq_getElem hin⟩
      obtain ⟨-, bn, offn, rfl, -⟩ := rowI_at (HNN.out wr HBW.out) hk
      have HK := Lib.hid hk
      have HDR := Lib.hid (show names.drop i = k :: names.drop (i + 1) from by
        rw [List.drop_eq_getElem_cons hin]
        congr 1
        rw [List.getElem?_eq_getElem hin] at hk
        exact Option.some.inj hk)
      clear hk
      go_wp2
      obtain ⟨wo, rfl⟩ : ∃ wo : World, wo = wr := ⟨_, rfl⟩
      go_loopw [14, 15] (fun sv uv wr => T9 wo racks k sv uv wr) (fun _ uv _ => racks.length - (intOf uv).toNat)
      case atStart => exact ⟨⟨0, Nat.zero_le _, rfl, Same.refl _, ownAt_nil.2 (Sat.old wo)⟩⟩
      case round =>
        obtain ⟨u, hu, rfl, hsm, hst⟩ := hrel.st
        clear hrel
        have HS := Lib.hid (And.intro hsm hst)
        have hbo := hsm.below_of hst
        have HBU := Lib.hid (show Below gs w wr from HBW.out.trans (hbo.mono (by have := HBW.out.size; rw [← hgs]; exact HF.out.2.2.size)))
        have HBO := Lib.hid hbo
        clear hsm hst hbo
        by_cases hul : u < racks.length
        · have hud : decide ((u : Int) < (racks.length : Int)) = true := decide_eq_true (by omega)
          have hwu : IntKind.i64.wrap ((u : Int) + 1) = (u : Int) + 1 := IntWalk.i64_in _ (by omega)
          obtain ⟨x, hx⟩ : ∃ x, racks[u]? = some x := ⟨_, List.getElem?_eq_getElem hul⟩
          obtain ⟨-, br, offr, rfl, c1⟩ := rowI_at (HRR.out wr HBU.out) hx
          obtain ⟨-, bn2, offn2, e2, c2⟩ := rowI_at (HNN.out wr HBU.out) HK.out
          cases e2
          have HX := Lib.hid (setK_succ (k := k) hx)
          have HSL := Lib.hid (setK_len racks k u)
          clear hx
          by_cases hxk : x = k
          · have hxd : (x == k) = true := by simpa using hxk
            have HX2 := Lib.hid (show setK racks k (u + 1) = setK racks k u ++ [u] by rw [HX.out, if_pos hxk])
            clear hxk
            go_upto_region 10 with (fail)
            go_quiet (fail)
            rename_i nq
            have HS2 := Lib.hid (show Same wo (wr.drewN nq) ∧ Sat (wr.drewN nq) (ownAt TI 1 u14 (natsI (setK racks k u)).length (intsV (natsI (setK racks k u))) * old wo) from by
              have hd := below_drewN (Below.refl wr.heap.size wr) nq
              exact ⟨HS.out.1.below hd, HS.out.2.below hd⟩)
            generalize wr.drewN nq = w5 at *
            clear c1 c2
            go_wp2_with (at_builtin; refine wpList_apF rfl _ _ rfl rfl rfl HS2.out.2 (by rw [natsI_len]; have := HSL.out; omega) ?_; intro v9 w9 h9 h10)
            go_roundw
            case rel => exact ⟨⟨u + 1, by omega, rfl, HS2.out.1.trans h9, by rw [HX2.out, natsI_app]; exact h10⟩⟩
            case measure => simp only [intOf]; omega
          · have hxd : (x == k) = false := by simpa using hxk
            have HX2 := Lib.hid (show setK racks k (u + 1) = setK racks k u by rw [HX.out, if_neg hxk])
            clear hxk
            go_upto_region 10 with (fail)
            go_quiet (fail)
            rename_i nq
            have HS2 := Lib.hid (show Same wo (wr.drewN nq) ∧ Sat (wr.drewN nq) (ownAt TI 1 u14 (natsI (setK racks k u)).length (intsV (natsI (setK racks k u))) * old wo) from by
              have hd := below_drewN (Below.refl wr.heap.size wr) nq
              exact ⟨HS.out.1.below hd, HS.out.2.below hd⟩)
            generalize wr.drewN nq = w5 at *
            clear c1 c2
            go_wp2
            go_roundw
            case rel => exact ⟨⟨u + 1, by omega, rfl, HS2.out.1, by rw [HX2.out]; exact HS2.out.2⟩⟩
            case measure => simp only [intOf]; omega
        · have hue : u = racks.length := by omega
          have hud : decide ((u : Int) < (racks.length : Int)) = false := decide_eq_false (by omega)
          have HRW := Lib.hid (show RowI wr u14 (intsV (natsI (setK racks k racks.length))) by rw [hue] at HS; exact rowI_own HS.out.2)
          have HBX := Lib.hid (HF.out.2.1.below HBO.out)
          clear hue
          go_upto_region 12 with (fail)
          have hS0 : Box wr.drew gs (codeV nm c.m c.k pv dom) := HBX.out
          have HBD := Lib.hid HBU.out.drew
          have HRD := Lib.hid (show RowI wr.drew u14 (intsV (natsI (setK racks k racks.length))) from HRW.out.below (Below.refl _ wr).drew)
          refine reg_begin (fun w' => Box w' gs (codeV nm c.m c.k pv dom)) (by kernel_rfl) ?_
          generalize wr.drew = w5 at *
          refine reg_take 0 (v := .agg (codeV nm c.m c.k pv dom)) rfl rfl (by decide +kernel) rfl (fun w' h => exec_ldC rfl rfl h) hS0 ?_; simp only [List.setIfInBounds_toArray, List.set_cons_succ, List.set_cons_zero]
          (apply reg_take 1 rfl rfl (by decide +kernel) rfl); (intro w' hw'; go_simp; rfl); exact hS0; simp only [List.setIfInBounds_toArray, List.set_cons_succ, List.set_cons_zero]
          (apply reg_take 2 rfl rfl (by decide +kernel) rfl); (intro w' hw'; go_simp; rfl); exact hS0; simp only [List.setIfInBounds_toArray, List.set_cons_succ, List.set_cons_zero]
          (apply reg_take 3 rfl rfl (by decide +kernel) rfl); (intro w' hw'; go_simp; rfl); exact hS0; simp only [List.setIfInBounds_toArray, List.set_cons_succ, List.set_cons_zero]
          (apply reg_take 4 rfl rfl (by decide +kernel) rfl); (intro w' hw'; go_simp; rfl); exact hS0; simp only [List.setIfInBounds_toArray, List.set_cons_succ, List.set_cons_zero]
          (apply reg_take 6 rfl rfl (by decide +kernel) rfl); (intro w' hw'; go_simp; rfl); exact hS0; simp only [List.setIfInBounds_toArray, List.set_cons_succ, List.set_cons_zero]
          (apply reg_take 7 rfl rfl (by decide +kernel) rfl); (intro w' hw'; go_simp; rfl); exact hS0; simp only [List.setIfInBounds_toArray, List.set_cons_succ, List.set_cons_zero]
          (apply reg_take 8 rfl rfl (by decide +kernel) rfl); (intro w' hw'; go_simp; rfl); exact hS0; simp only [List.setIfInBounds_toArray, List.set_cons_succ, List.set_cons_zero]
          (apply reg_take 9 rfl rfl (by decide +kernel) rfl); (intro w' hw'; go_simp; rfl); exact hS0; simp only [List.setIfInBounds_toArray, List.set_cons_succ, List.set_cons_zero]
          refine reg_call 5 rfl rfl (by decide +kernel) rfl (f := 45) (args := #[hv, u14]) (R := fun v w' => Below w5.heap.size w5 w' ∧ RowI w' v (boolsV (minusL h (setK racks k racks.length)))) (by kernel_rfl) ((HWO.out u14 _ (by have := setK_len racks k racks.length; omega) (fun a ha => by have := setK_lt ha; have := HLC.out; omega) w5 HBD.out HRD.out).mono fun e w' h => h) ?_
          rintro v6 w6 ⟨h6, h7⟩
          have hS6 := hS0.below h6
          have HB6 := Lib.hid (HBD.out.trans (h6.mono (by have := HBD.out.size; omega)))
          have HR6 := Lib.hid h7
          refine ⟨hS6, ?_⟩
          clear h6 h7
          simp only [List.setIfInBounds_toArray, List.set_cons_succ, List.set_cons_zero]
          refine reg_call 10 rfl rfl (by decide +kernel) rfl (f := 33) (args := #[.agg (codeV nm c.m c.k pv dom), .slice ar racks.length cr, .slice (some ⟨bn, offn, none⟩) names.length cn, v6, .int .i64 ((i + 1 : Nat) : Int), .int .i64 (n : Int)])
            (R := fun v w' => v = .bool (loseL c racks (names.drop (i + 1)) n (minusL h (setK racks k racks.length))) ∧ Below w6.heap.size w6 w') (by kernel_rfl) ((HIH.out _ (i + 1) v6 w6 HB6.out HR6.out (by rw [minusL_len]; exact HLC.out.1) hin).mono fun e w' h => ⟨_, h.1, rfl, h.2⟩) ?_
          rintro _ w7 ⟨rfl, h8⟩
          have hS7 := hS6.below h8
          have HB7 := Lib.hid (HB6.out.trans (h8.mono (by have := HB6.out.size; omega)))
          have HX7 := Lib.hid hS7
          refine ⟨hS7, ?_⟩
          clear h8
          simp only [List.setIfInBounds_toArray, List.set_cons_succ, List.set_cons_zero]
          (apply reg_take 11 rfl rfl (by decide +kernel) rfl); (intro w' hw'; go_simp; rfl); exact hS7; simp only [List.setIfInBounds_toArray, List.set_cons_succ, List.set_cons_zero]
          refine reg_done (by decide +kernel) ?_
          clear hS0 hS6 hS7
          have HN := Lib.hid (show loseL c racks (names.drop i0) (n + 1) h = (loseL c racks (names.drop (i + 1)) n (minusL h (setK racks k racks.length)) && loseL c racks (names.drop (i + 1)) (n + 1) h) by rw [HF.out.1, HDR.out]; rfl)
          cases hx : loseL c racks (names.drop (i + 1)) n (minusL h (setK racks k racks.length)) with
          | false =>
            rw [hx, Bool.false_and] at HN
            clear hx
            go_wp2
            go_ret
            rw [HN.out]
            exact ⟨rfl, by first | exact HB7.out | (rw [hgs]; exact HB7.out)⟩
          | true =>
            rw [hx, Bool.true_and] at HN
            clear hx
            generalize hi1 : ((i + 1 : Nat) : Int) = i1 at *
            have HI1 := Lib.hid hi1
            clear hi1
            go_wp2
            go_roundw
            case rel => exact ⟨⟨i + 1, hin, by rw [HI1.out], HN.out, HX7.out, by rw [hgs]; exact HB7.out⟩⟩
            case measure => simp only [intOf]; rw [← HI1.out]; omega
    · have hie : i = names.length := by omega
      have hid : decide ((i : Int) < (names.length : Int)) = false := decide_eq_false (by omega)
      have HN := Lib.hid (show loseL c racks (names.drop i0) (n + 1) h = true by rw [HF.out.1, hie, List.drop_length]; rfl)
      clear hie
      go_wp2
      go_ret
      rw [HN.out]
      exact ⟨rfl, by first | exact HBW.out | (rw [hgs]; exact HBW.out)⟩
theorem rlose_any (cv : Array Value) (c : CodeM) (rv nv : Value) (racks names : List Int) (hrl : racks.length = c.n) (hnl : names.length ≤ 100) : ∀ n, n ≤ 100 → LosP cv c rv nv racks names n
  | 0, _ => lose_zero cv c rv nv racks names
  | n + 1, hn => lose_succ cv c rv nv racks names hrl hnl n (by omega) (rlose_any cv c rv nv racks names hrl hnl n (by omega))

/-- Racks: the loop over the losses. -/
structure R9 (w : World) (g : Nat) (cv : Array Value) (dec : List Int → Bool) (l : List Int) (N F : Nat) (fv : Value) (wr : World) : Prop where
  st : ∃ f : Nat, f ≤ N ∧ fv = .int .i64 (f : Int) ∧ F = (firstL dec l (N - f) f).1 ∧ Box wr g cv ∧ Below w.heap.size w wr
structure N9 (w : World) (racks : List Int) (nv iv : Value) (wr : World) : Prop where
  st : ∃ i : Nat, i ≤ racks.length ∧ iv = .int .i64 (i : Int) ∧ Same w wr ∧ Sat wr (ownAt TI 1 nv (namesF (racks.take i)).length (intsV (namesF (racks.take i))) * old w)
set_option maxRecDepth 20000 in
set_option maxHeartbeats 4000000 in
theorem r9racks_any (cv : Array Value) (nm : ByteArray) (f k : Int) (L : List (List Int)) (dom : Int) (rv : Value) (racks : List Int) (w : World) (hc : CvAt w cv nm f k L dom) (hr : RowI w rv (intsV racks)) :
    Calls Tryz.prog 14 #[.agg cv, rv] w fun e w' => e = .returned (.int .i64 (racksI nm f k L dom racks)) ∧ Below w.heap.size w w' := by
  have HV := Lib.hid (fun W (hb : Below w.heap.size w W) => r9valid_any cv nm f k L dom (racks.length : Int) W (hc.below hb))
  have HCD := Lib.hid (fun (hck : checkB nm f k L dom = true) W (hb : Below w.heap.size w W) => (hc.below hb).code hck)
  have HRB := Lib.hid (fun W (hb : Below w.heap.size w W) => hr.below hb)
  have HCB := Lib.hid (fun t w1 h => code_box w w1 cv t h)
  obtain ⟨pv, rfl, -⟩ := hc.at_
  obtain ⟨ar, cr, rfl, -⟩ := id hr
  rw [intsV_len] at *
  clear hr
  cases hck : (checkB nm f k L dom && (racks.length : Int) == k + (L.length : Int)) with
  | false =>
    have HN := Lib.hid (show racksI nm f k L dom racks = -1 from if_neg fun hx => by rw [hx.1, hx.2] at hck; simp at hck)
    rw [hck] at HV
    clear hc hck
    unfold codeV at *
    go_enter Tryz.func14, Tryz.ntmps14
    go_wp2_with (go_at_call 22; refine (HV.out _ (al_below w _)).mono ?_; rintro e w1 ⟨rfl, h1⟩)
    go_ret
    rw [HN.out]
    exact ⟨rfl, (HCB.out _ w1 h1).2⟩
  | true =>
    obtain ⟨hb1, hb2⟩ := Bool.and_eq_true_iff.1 hck
    have hb2 : (racks.length : Int) = k + (L.length : Int) := by simpa using hb2
    obtain ⟨hcode, hn⟩ := hc.code hb1
    have hl : racks.length = (codeM f k L).n := by omega
    have hn32 := hcode.n32
    obtain ⟨nf1, nf2, nf3⟩ := namesF_ok racks
    have HRI := Lib.hid (show racksI nm f k L dom racks = ((racksM (codeM f k L) (namesF racks) racks : Nat) : Int) from by
      rw [show racksI nm f k L dom racks = ((racksM (codeM f k L) (namesL racks) racks : Nat) : Int) from if_pos ⟨hb1, hb2⟩]
      rw [racks_names hcode.ok hl (names_nodup racks) (fun k => names_mem racks k) nf1 nf2])
    rw [hck] at HV
    have HCA := Lib.hid (fun W (hb : Below w.heap.size w W) => (HCD.out hb1 W hb).1)
    have HLO := Lib.hid (fun nv n (hn : n ≤ 100) W (hb : Below w.heap.size w W) hv (h1 : RowI W nv (intsV (namesF racks))) (h2 : RowI W hv (boolsV (List.replicate racks.length true))) => rlose_any (codeV nm f k pv dom) (codeM f k L) (.slice ar racks.length cr) nv racks (namesF racks) hl (by omega) n hn (List.replicate racks.length true) 0 hv W (HCA.out W hb) (HRB.out W hb) h1 h2 (by rw [List.length_replicate]; exact hl) (Nat.zero_le _))
    have HLS := Lib.hid (fun n => show loseL (codeM f k L) racks ((namesF racks).drop 0) n (List.replicate racks.length true) = ((subsL (namesF racks) n).find? fun t => !decL (codeM f k L) (lostR racks t)).isNone from by
      rw [List.drop_zero, show List.replicate racks.length true = lostR racks [] by unfold lostR; simp only [List.contains_nil, Bool.not_false]; rw [List.map_const'], loseL_eq, find_all]
      rfl)
    have HNF := Lib.hid nf3
    have HML := Lib.hid (fun i => (namesF_ok (racks.take i)).2.2)
    have hrl32 : racks.length ≤ 32 := by omega
    have HLL := Lib.hid (show racksM (codeM f k L) (namesF racks) racks = (firstL (fun s => decL (codeM f k L) (lostR racks s)) (namesF racks) (min 4 (namesF racks).length) 0).1 from rfl)
    clear HCD hc hcode hn hb1 hb2 hck nf1 nf2 nf3 hl hn32
    generalize codeM f k L = c at *
    unfold codeV at *
    go_enter Tryz.func14, Tryz.ntmps14
    go_wp2_with (go_at_call 22; refine (HV.out _ (al_below w _)).mono ?_; rintro e w1 ⟨rfl, h1⟩; obtain ⟨hg, hb⟩ := HCB.out _ w1 h1)
    have HG := Lib.hid (And.intro hg hb)
    clear h1 hg hb HV HCB
    generalize hgs : w.heap.size = gs at *
    have HGS := Lib.hid (show gs ≤ w1.heap.size by rw [← hgs]; exact HG.out.2.size)
    have HB1 := Lib.hid (show Below gs w w1 from HG.out.2)
    go_loopw [6, 7] (fun nv iv wr => N9 w1 racks nv iv wr) (fun _ iv _ => racks.length - (intOf iv).toNat)
    case atStart => exact ⟨⟨0, Nat.zero_le _, rfl, Same.refl _, ownAt_nil.2 (Sat.old w1)⟩⟩
    case round =>
      obtain ⟨i, hi, rfl, hsm, hst⟩ := hrel.st
      clear hrel
      have HS := Lib.hid (And.intro hsm hst)
      have hbo := hsm.below_of hst
      have HBO := Lib.hid hbo
      have HBW := Lib.hid (show Below gs w wr from HB1.out.trans (hbo.mono HGS.out))
      clear hsm hst hbo
      by_cases hil : i < racks.length
      · have hid : decide ((i : Int) < (racks.length : Int)) = true := decide_eq_true (by omega)
        have hwi : IntKind.i64.wrap ((i : Int) + 1) = (i : Int) + 1 := IntWalk.i64_in _ (by omega)
        obtain ⟨x, hx⟩ : ∃ x, racks[i]? = some x := ⟨_, List.getElem?_eq_getElem hil⟩
        obtain ⟨-, br, offr, rfl, c1⟩ := rowI_at (HRB.out wr HBW.out) hx
        have hml : (namesF (racks.take i)).length ≤ 32 := by have := HML.out i; rw [List.length_take] at this; omega
        have HHS := Lib.hid (r9has_any u6 (namesF (racks.take i)) x (by omega) wr (rowI_own HS.out.2))
        have HX := Lib.hid (show namesF (racks.take (i + 1)) = if x ∈ namesF (racks.take i) then namesF (racks.take i) else namesF (racks.take i) ++ [x] by rw [List.take_add_one, hx, Option.toList_some, namesF_snoc])
        clear hx
        by_cases hm : x ∈ namesF (racks.take i)
        · rw [decide_eq_true hm] at HHS
          have HX2 := Lib.hid (show namesF (racks.take (i + 1)) = namesF (racks.take i) by rw [HX.out, if_pos hm])
          clear hm
          go_wp2_with (go_at_call 32; refine HHS.out.mono ?_; rintro e w3 ⟨rfl, rfl⟩)
          go_roundw
          case rel => exact ⟨⟨i + 1, by omega, rfl, HS.out.1, by rw [HX2.out]; exact HS.out.2⟩⟩
          case measure => simp only [intOf]; omega
        · rw [decide_eq_false hm] at HHS
          have HX2 := Lib.hid (show namesF (racks.take (i + 1)) = namesF (racks.take i) ++ [x] by rw [HX.out, if_neg hm])
          clear hm
          go_wp2_with first
            | (go_at_call 32; refine HHS.out.mono ?_; rintro e w3 ⟨rfl, rfl⟩)
            | (at_builtin; refine wpList_apF rfl _ _ rfl rfl rfl HS.out.2 (by omega) ?_; intro v9 w9 h9 h10)
          go_roundw
          case rel => exact ⟨⟨i + 1, by omega, rfl, HS.out.1.trans h9, by rw [HX2.out]; exact h10⟩⟩
          case measure => simp only [intOf]; omega
      · have hie : i = racks.length := by omega
        have hid : decide ((i : Int) < (racks.length : Int)) = false := decide_eq_false (by omega)
        have HNR := Lib.hid (show RowI wr u6 (intsV (namesF racks)) by rw [hie] at HS; have h := HS.out.2; rw [List.take_length] at h; exact rowI_own h)
        have HBX := Lib.hid (HG.out.1.below HBO.out)
        clear hie
        obtain ⟨an, cn, rfl, -⟩ := id HNR.out
        rw [intsV_len] at *
        generalize hnf : namesF racks = l at *
        have hl32 : l.length ≤ 32 := by have := HNF.out; omega
        obtain ⟨N, hN⟩ : ∃ N, min 4 l.length = N := ⟨_, rfl⟩
        rw [hN] at HLL
        have hN4 : N ≤ 4 ∧ N ≤ l.length := by omega
        have HNN := Lib.hid (show ∀ f : Nat, f ≤ N → (¬ f < N → ¬ f < 4 ∨ ¬ f < l.length) from fun f h1 h2 => by omega)
        clear hN hnf
        obtain ⟨F, hF⟩ : ∃ F, racksM c l racks = F := ⟨_, rfl⟩
        rw [hF] at HLL HRI
        have HAL := Lib.hid (fun W => r9all_any racks.length (by omega) W)
        clear hF hi
        go_wp2
        obtain ⟨wo, rfl⟩ : ∃ wo : World, wo = wr := ⟨_, rfl⟩
        go_loopw [9] (fun fv wr => R9 wo gs (codeV nm f k pv dom) (fun s => decL c (lostR racks s)) l N F fv wr) (fun fv _ => N - (intOf fv).toNat)
        case atStart => exact ⟨⟨0, Nat.zero_le _, rfl, by rw [Nat.sub_zero]; exact HLL.out, HBX.out, Below.refl _ _⟩⟩
        case round =>
          obtain ⟨q, hq, rfl, hst, hbx, hb⟩ := hrel.st
          clear hrel
          have HS2 := Lib.hid (And.intro hst (And.intro hbx hb))
          have HBQ := Lib.hid (show Below gs w wr from HBW.out.trans (hb.mono (by have := HBW.out.size; rw [← hgs]; have := HBO.out.size; have := HG.out.2.size; omega)))
          have HNQ := Lib.hid (show RowI wr (.slice an l.length cn) (intsV l) from HNR.out.below hb)
          clear hst hbx hb
          by_cases hqN : q < N
          · have hq4d : decide ((q : Int) < 4) = true := decide_eq_true (by omega)
            have hqld : decide ((q : Int) < (l.length : Int)) = true := decide_eq_true (by omega)
            have hwq : IntKind.i64.wrap ((q : Int) + 1) = ((q + 1 : Nat) : Int) := by rw [IntWalk.i64_in _ (by omega)]; omega
            have HUN := Lib.hid (show N - q = (N - (q + 1)) + 1 by omega)
            have HLQ := Lib.hid (fun nv W (hb : Below gs w W) hv h1 h2 => HLO.out nv (q + 1) (by omega) W hb hv h1 h2)
            have HLT := Lib.hid (HLS.out (q + 1))
            generalize hq1 : ((q + 1 : Nat) : Int) = q1 at *
            have HQ1 := Lib.hid hq1
            clear hq1
            go_upto_region 13 with (fail)
            have hS0 : Box wr.drew gs (codeV nm f k pv dom) := HS2.out.2.1
            have HBD := Lib.hid HBQ.out.drew
            have HND := Lib.hid (HNQ.out.below (Below.refl _ wr).drew)
            have HBR := Lib.hid HS2.out.2.2.drew
            refine reg_begin (fun w' => Box w' gs (codeV nm f k pv dom)) (by kernel_rfl) ?_
            generalize wr.drew = w5 at *
            refine reg_take 0 (v := .agg (codeV nm f k pv dom)) rfl rfl (by decide +kernel) rfl (fun w' h => exec_ldC rfl rfl h) hS0 ?_; simp only [List.setIfInBounds_toArray, List.set_cons_succ, List.set_cons_zero]
            (apply reg_take 1 rfl rfl (by decide +kernel) rfl); (intro w' hw'; go_simp; rfl); exact hS0; simp only [List.setIfInBounds_toArray, List.set_cons_succ, List.set_cons_zero]
            (apply reg_take 2 rfl rfl (by decide +kernel) rfl); (intro w' hw'; go_simp; rfl); exact hS0; simp only [List.setIfInBounds_toArray, List.set_cons_succ, List.set_cons_zero]
            (apply reg_take 3 rfl rfl (by decide +kernel) rfl); (intro w' hw'; go_simp; rfl); exact hS0; simp only [List.setIfInBounds_toArray, List.set_cons_succ, List.set_cons_zero]
            (apply reg_take 4 rfl rfl (by decide +kernel) rfl); (intro w' hw'; go_simp; rfl); exact hS0; simp only [List.setIfInBounds_toArray, List.set_cons_succ, List.set_cons_zero]
            (apply reg_take 6 rfl rfl (by decide +kernel) rfl); (intro w' hw'; go_simp; rfl); exact hS0; simp only [List.setIfInBounds_toArray, List.set_cons_succ, List.set_cons_zero]
            (apply reg_take 7 rfl rfl (by decide +kernel) rfl); (intro w' hw'; go_simp; rfl); exact hS0; simp only [List.setIfInBounds_toArray, List.set_cons_succ, List.set_cons_zero]
            refine reg_call 5 rfl rfl (by decide +kernel) rfl (f := 19) (args := #[.int .i64 (racks.length : Int)]) (R := fun v w' => Below w5.heap.size w5 w' ∧ RowI w' v (boolsV (List.replicate racks.length true))) (by kernel_rfl) ((HAL.out w5).mono fun e w' h => h) ?_
            rintro v6 w6 ⟨h6, h7⟩
            have hS6 := hS0.below h6
            have HB6 := Lib.hid (HBD.out.trans (h6.mono (by have := HBD.out.size; rw [← hgs] at *; exact this)))
            have HR6 := Lib.hid h7
            have HN6 := Lib.hid (HND.out.below h6)
            have HBR6 := Lib.hid (HBR.out.trans (h6.mono HBR.out.size))
            refine ⟨hS6, ?_⟩
            clear h6 h7
            simp only [List.setIfInBounds_toArray, List.set_cons_succ, List.set_cons_zero]
            refine reg_call 8 rfl rfl (by decide +kernel) rfl (f := 33) (args := #[.agg (codeV nm f k pv dom), .slice ar racks.length cr, .slice an l.length cn, v6, .int .i64 0, .int .i64 q1])
              (R := fun v w' => v = .bool (loseL c racks (l.drop 0) (q + 1) (List.replicate racks.length true)) ∧ Below w6.heap.size w6 w') (by kernel_rfl) ((HLQ.out _ w6 HB6.out v6 HN6.out HR6.out).mono fun e w' h => ⟨_, h.1, rfl, h.2⟩) ?_
            rintro _ w7 ⟨rfl, h8⟩
            rw [HLT.out]
            have hS7 := hS6.below h8
            have HBR7 := Lib.hid (HBR6.out.trans (h8.mono HBR6.out.size))
            have HX7 := Lib.hid hS7
            refine ⟨hS7, ?_⟩
            clear h8
            simp only [List.setIfInBounds_toArray, List.set_cons_succ, List.set_cons_zero]
            (apply reg_take 9 rfl rfl (by decide +kernel) rfl); (intro w' hw'; go_simp; rfl); exact hS7; simp only [List.setIfInBounds_toArray, List.set_cons_succ, List.set_cons_zero]
            refine reg_done (by decide +kernel) ?_
            clear hS0 hS6 hS7
            cases hfd : (subsL l (q + 1)).find? (fun t => !decL c (lostR racks t)) with
            | some t =>
              have HU2 := Lib.hid (show F = q by have h1 := HS2.out.1; rw [HUN.out, firstL_hit (dec := fun s => decL c (lostR racks s)) hfd] at h1; exact h1)
              clear hfd
              go_wp2
              go_ret
              rw [HRI.out, HU2.out]
              have hx : Below gs w w7 := HBW.out.trans (HBR7.out.mono (by rw [← hgs]; have := HBO.out.size; have := HG.out.2.size; omega))
              exact ⟨rfl, by first | exact hx | (rw [hgs]; exact hx)⟩
            | none =>
              have HU2 := Lib.hid (show F = (firstL (fun s => decL c (lostR racks s)) l (N - (q + 1)) (q + 1)).1 by have h1 := HS2.out.1; rw [HUN.out, firstL_miss (dec := fun s => decL c (lostR racks s)) hfd] at h1; exact h1)
              clear hfd
              go_wp2
              go_roundw
              case rel => exact ⟨⟨q + 1, by omega, by rw [HQ1.out], HU2.out, HX7.out, HBR7.out⟩⟩
              case measure => simp only [intOf]; rw [← HQ1.out]; omega
          · have HQN := Lib.hid (show F = q by
              have h1 := HS2.out.1
              rw [show N - q = 0 by omega] at h1
              exact h1)
            by_cases hq4 : q < 4
            · have hq4d : decide ((q : Int) < 4) = true := decide_eq_true (by omega)
              have hqld : decide ((q : Int) < (l.length : Int)) = false := decide_eq_false (by have := HNN.out q hq hqN; omega)
              have hqlp : ¬ q < l.length := by have := HNN.out q hq hqN; omega
              clear hq4
              go_wp2
              go_ret
              rw [HRI.out, HQN.out]
              exact ⟨rfl, by first | exact HBQ.out | (rw [hgs]; exact HBQ.out)⟩
            · have hq4d : decide ((q : Int) < 4) = false := decide_eq_false (by omega)
              go_wp2
              go_ret
              rw [HRI.out, HQN.out]
              exact ⟨rfl, by first | exact HBQ.out | (rw [hgs]; exact HBQ.out)⟩
end Go.Proofs.YtnilepaicnnbhaaGreatDoor
