/- solventref28.refers: whether a tenant refers to a chunk. -/
import Derived.Test.YtmgcgdkndkibgaaGreatAn
import Derived.Test.YtmgcgdkndkibgaaGreatAw
import Derived.Test.YtmgcgdkndkibgaaGreatWe
namespace Go.Sl
open Go Go.RowKit
section
variable {P : Program} {w : World} {F : HProp}
theorem run_append_row0 (t ty e : TypeId) (i : TypeInfo) (ht : P.underlying t = some (.slice e)) (hi : P.info? e = some i) (bo ao : Option Addr) (n cap c : Nat) (hn : n ≤ cap) :
    (Builtin.append_ #[t, t] ty #[.slice bo n cap, .slice ao 0 c]).run P w = .ok (.slice bo n cap) w := by
  cases bo <;> cases ao <;> simp [Builtin.append_, run_underlying ht, sizeOf, typeInfo, hi, Builtin.lenOf, Builtin.firstCells, loadCells, loadCellsFrom, storeCells, hn]
theorem wpList_append_rw {ops : Array Oper} {rest : List Oper} {o : Oper} {a : Act} {Q : Exit → Act → World → Prop} (hg : o.guard = none) (s x : Operand) (t e : TypeId)
    (ho : o.op = .call { callee := .builtin .append, args := #[s, x], argTypes := #[t, t] }) (i : TypeInfo) (z : Value) (ht : P.underlying t = some (.slice e)) (hi : P.info? e = some i) (hz : i.zero = some z) {sz by_ : Nat} (hsz : i.size = sz) (hby : i.bytes = by_) (hzs : z.cells.size = sz)
    {v : Value} {n : Nat} {xs : List Value} (h : Sat w (ownAt e sz v n xs * F)) {y : Value} {m : Nat} (news : List Value) (hs : a.eval s = v) (hx : a.eval x = y) (hr : Go.Vol.RowsAt w y m news)
    (hl : news.length = m * sz) (h1 : ∀ u ∈ news, u.oneCell' = true) (h63 : n + m ≤ maxLen) (hbytes : (n + m) * by_ ≤ 140737488355328)
    (k : ∀ v' w', Hid (Same w w' ∧ Sat w' (ownAt e sz v' (n + m) (xs ++ news) * F)) → wpList P ops Q rest (a.put o.dst v') w') : wpList P ops Q (o :: rest) a w := by
  obtain ⟨ao, cap, rfl, hcap, hmax, h4⟩ := hr
  by_cases hm : m = 0
  · subst hm
    have hnil : news = [] := List.eq_nil_of_length_eq_zero (by simpa using hl)
    subst hnil
    have hle : ∃ bo cp, v = .slice bo n cp ∧ n ≤ cp := by
      rcases ownAt_iff.1 h with ⟨rfl, rfl, _, _⟩ | ⟨g, cap, cur, ⟨rfl, h1, _⟩, _⟩
      · exact ⟨_, _, rfl, Nat.le_refl _⟩
      · exact ⟨_, _, rfl, h1⟩
    obtain ⟨bo, cp, rfl, hnc⟩ := hle
    have hrun := run_append_row0 (P := P) (w := w) t o.type e i ht hi bo ao n cp cap hnc
    refine wpList_run hg (v := .slice bo n cp) (w' := w) ?_ (k _ w ⟨Same.refl w, by simpa using h⟩)
    unfold execOp
    simp only [ho, resolve, invoke, builtin, Sem.run_bind, Sem.run_pure, Result.andThen_ok, List.map_toArray, List.map_cons, List.map_nil, hs, hx, hrun]
  · obtain ⟨b, rfl, hb, hc⟩ := h4 (by omega)
    exact wpList_append_ownAt hg s x t e ho i z ht hi hz hsz hby hzs h news hs hx hl (fun j u hu => by rw [Addr.add_mid, Nat.zero_add]; exact hc j u hu) h1 h63 hbytes k
end
end Go.Sl
namespace Go.Proofs.YtmgcgdkndkibgaaGreat
open Go.RowKit Go.Vol Go.Sl

theorem all_refL {ok : Nat → Prop} {w W : World} {v : Value} {l : List ElM} {R : HProp} {n : Nat} (hn : n = l.length) (h : Sat W (ownAt TP 4 v n (l.flatMap rpE) * (R * old w))) (hb : Below w.heap.size w W) (hm : ∀ x ∈ l, MapRow ok w x) : RefL (newer ok w) W v (l.map Prod.fst) := by
  subst hn
  refine ⟨l, rfl, (RowK.own h (by omega)).weaken fun b hb _ => .inr hb, fun x hx => ?_⟩
  exact RowK.weaken (RowK.below (hm x hx) hb) fun b hb _ => .inl hb
def hitP (t c : Int) (p : PartM) : Bool := p.tenant == t && (items p.m).any fun y => y.2 == c
theorem refB_any (S : SpaceM) (t c : Int) : refB S t c = (S.vols ++ S.snaps).any (hitP t c) := rfl
theorem any_take {α : Type} {l : List α} {k : Nat} {x : α} (p : α → Bool) (h : l[k]? = some x) : (l.take (k + 1)).any p = ((l.take k).any p || p x) := by rw [List.take_add_one, h, List.any_append]; simp
theorem any_hit {α : Type} {l : List α} {k : Nat} {x : α} {p : α → Bool} (h : l[k]? = some x) (hp : p x = true) : l.any p = true := List.any_eq_true.2 ⟨x, List.mem_of_getElem? h, hp⟩
structure RfSt (W : World) (L : List PartM) (t c : Int) (i : Value) (wr : World) : Prop where
  st : ∃ k : Nat, k ≤ L.length ∧ i = .int .i64 (k : Int) ∧ Hid ((L.take k).any (hitP t c) = false ∧ Below W.heap.size W wr)
structure RiSt (W : World) (l : List (Nat × Int)) (c : Int) (i : Value) (wr : World) : Prop where
  st : ∃ k : Nat, k ≤ l.length ∧ i = .int .i64 (k : Int) ∧ Hid ((l.take k).any (fun y => y.2 == c) = false ∧ Below W.heap.size W wr)
set_option maxRecDepth 20000 in
set_option maxHeartbeats 4000000 in
theorem refers_any {ok : Nat → Prop} (vv vs : Value) (S : SpaceM) (t c : Int) (w : World) (hS : RefAt ok w vv vs S) (hwf : S.WF) :
    Calls Tryz.prog 46 #[.agg #[vv, vs], .int .i64 t, .int .i64 c] w fun e w' => e = .returned (.bool (refB S t c)) ∧ Below w.heap.size w w' := by
  obtain ⟨lv, hlv, hrv, hmv⟩ := hS.v
  obtain ⟨ls, hls, hrs, hms⟩ := hS.s
  have hvl := hwf.vlen
  have hsl := hwf.slen
  have e1 : lv.length = S.vols.length := by rw [← hlv, List.length_map]
  have e2 : ls.length = S.snaps.length := by rw [← hls, List.length_map]
  have hb0 := (Below.refl w.heap.size w).alloc (Nat.le_refl _) (.cells #[vv, vs] TRS)
  have HR := Lib.hid (And.intro (hrv.below hb0).rows (hrs.below hb0).rows)
  have HS0 := Lib.hid (fun (W : World) (h : Below w.heap.size w W) => (hrs.below h).rows)
  have HM0 := Lib.hid (And.intro hmv hms)
  have HM := Lib.hid (show ∀ x ∈ lv ++ ls, MapRow ok w x from fun x hx => (List.mem_append.1 hx).elim (hmv x) (hms x))
  have H0 := Lib.hid (And.intro ((Same.refl w).alloc (.cells #[vv, vs] TRS)) ((Sat.old w).alloc (.cells #[vv, vs] TRS)))
  have HL := Lib.hid (And.intro hlv hls)
  clear hS hwf hlv hls hrv hrs hmv hms hb0
  obtain ⟨ti, hti, hz0, hts, hz2⟩ := info_parts info_TP
  have HG := Lib.hid (refB_any S t c)
  generalize refB S t c = G at HG ⊢
  go_enter Tryz.func46, Tryz.ntmps46
  have HR2 := Lib.hid (And.intro HR.out.1 HR.out.2)
  go_upto_region 3 with (at_builtin; refine wpList_append_rw rfl _ _ TPs TP rfl ti _ Tryz.underlying24 hti hz0 hts hz2 rfl (ownAt_nil.2 H0.out.2) (lv.flatMap rpE) rfl rfl HR2.out.1 (flat_len rpE_len lv) (rp_one (HM0.out.1)) (by unfold maxLen; omega) (by omega) ?_; intro v1 w1 h1)
  simp only [Nat.zero_add, List.nil_append] at h1
  have H1 := Lib.hid (And.intro (H0.out.1.trans h1.out.1) h1.out.2)
  clear h1 H0 HR2
  generalize w.heap.size = A at H1 ⊢
  have c1 : w1.cell? ⟨A, 1, none⟩ = some vs := cells_at H1.out.2.right.block 1
  have HR1 := Lib.hid (HS0.out w1 (H1.out.1.below_of H1.out.2.right))
  go_upto_region 4 with (at_builtin; refine wpList_append_rw rfl _ _ TPs TP rfl ti _ Tryz.underlying24 hti hz0 hts hz2 rfl H1.out.2 (ls.flatMap rpE) rfl rfl HR1.out (flat_len rpE_len ls) (rp_one HM0.out.2) (by unfold maxLen; omega) (by omega) ?_; intro v2 w2 h2)
  rw [← List.flatMap_append] at h2
  have HB := Lib.hid ((H1.out.1.trans h2.out.1).below_of h2.out.2.right)
  have HALL := Lib.hid (all_refL (by rw [List.length_append]) h2.out.2 HB.out HM.out)
  clear H1 HR1 c1 h2
  rw [show (lv ++ ls).map Prod.fst = S.vols ++ S.snaps by rw [List.map_append, HL.out.1, HL.out.2]] at HALL
  obtain ⟨va, vc, rfl, hvc, hvm⟩ := HALL.out.slice
  have hLl : (S.vols ++ S.snaps).length ≤ 400 := by rw [List.length_append]; omega
  generalize S.vols ++ S.snaps = L at HALL hvc hLl HG ⊢
  clear hvm hvc hti hz0 hts hz2 e1 e2 hvl hsl ti
  go_wp2
  go_loopw [8] (fun i wr => RfSt w2 L t c i wr) (fun i _ => L.length - (intOf i).toNat)
  case atStart => exact ⟨⟨0, Nat.zero_le _, rfl, rfl, Below.refl _ _⟩⟩
  case round =>
    obtain ⟨k, hk, rfl, HX⟩ := hrel.st
    clear hrel
    by_cases hlt : k < L.length
    · have hltd : decide ((k : Int) < (L.length : Int)) = true := decide_eq_true (by omega)
      have hki : (k : Int) ≤ 400 := by omega
      obtain ⟨x, hx⟩ : ∃ x, L[k]? = some x := ⟨_, List.getElem?_eq_getElem hlt⟩
      obtain ⟨g, pa, pc, hva, hg, e0, e1, e2, e3, hrow⟩ := part_at HALL.out hx
      cases hva
      have e1 := (HX.out.2.cell (p := ⟨g, k * 4 + 1, none⟩) hg).trans e1
      have e3 := (HX.out.2.cell (p := ⟨g, k * 4 + 3, none⟩) hg).trans e3
      have HT := Lib.hid (any_take (hitP t c) hx)
      have HH := Lib.hid (any_hit (p := hitP t c) hx)
      have hil := items_le x.m
      have HW := Lib.hid (hrow.rows)
      have hwk : IntKind.i64.wrap ((k : Int) + 1) = (k : Int) + 1 := IntWalk.i64_in _ (by omega)
      clear hx e0 e2 hrow
      cases hid : (x.tenant == t)
      · have hne : (x.tenant != t) = true := by unfold bne; rw [hid]; rfl
        go_wp2
        go_roundw
        case rel => exact ⟨⟨k + 1, hlt, rfl, by rw [HT.out, HX.out.1]; unfold hitP; rw [hid]; rfl, HX.out.2⟩⟩
        case measure => simp only [intOf]; omega
      · have hne : (x.tenant != t) = false := by unfold bne; rw [hid]; rfl
        have HIT := Lib.hid (show hitP t c x = (items x.m).any fun y => y.2 == c by unfold hitP; rw [hid]; rfl)
        clear hid
        generalize items x.m = l at *
        go_upto_region 9 with (fail)
        obtain ⟨wo, rfl⟩ : ∃ wo : World, wo = wr := ⟨_, rfl⟩
        have HE := Lib.hid e3
        clear e1 e3
        go_loopw [9] (fun i wr => RiSt wo l c i wr) (fun i _ => l.length - (intOf i).toNat)
        case atStart => exact ⟨⟨0, Nat.zero_le _, rfl, rfl, Below.refl _ _⟩⟩
        case round =>
          obtain ⟨j, hj, rfl, HY⟩ := hrel.st
          clear hrel
          have e3 := (HY.out.2.cell (p := ⟨g, k * 4 + 3, none⟩) (World.block_lt_of_cell? _ _ HE.out)).trans HE.out
          have HZ := Lib.hid (HX.out.2.trans (HY.out.2.mono HX.out.2.size))
          by_cases hlt2 : j < l.length
          · have hltd2 : decide ((j : Int) < (l.length : Int)) = true := decide_eq_true (by omega)
            have hji : (j : Int) ≤ 4096 := by omega
            obtain ⟨y, hy⟩ : ∃ y, l[j]? = some y := ⟨_, List.getElem?_eq_getElem hlt2⟩
            obtain ⟨b, rfl, hbl, f0, f1⟩ := ref_cells HW.out hy
            have f1 := (HZ.out.cell (p := ⟨b, j * 2 + 1, none⟩) hbl).trans f1
            have HT2 := Lib.hid (any_take (fun y : Nat × Int => y.2 == c) hy)
            have HA2 := Lib.hid (any_hit (p := fun y : Nat × Int => y.2 == c) hy)
            have hwj : IntKind.i64.wrap ((j : Int) + 1) = (j : Int) + 1 := IntWalk.i64_in _ (by omega)
            clear hy f0
            cases hyc : (y.2 == c)
            · go_wp2
              go_roundw
              case rel => exact ⟨⟨j + 1, hlt2, rfl, by rw [HT2.out, HY.out.1, hyc]; rfl, HY.out.2⟩⟩
              case measure => simp only [intOf]; omega
            · go_wp2
              go_ret
              exact ⟨by rw [HG.out, HH.out (by rw [HIT.out]; exact HA2.out hyc)]; rfl, HB.out.trans (HZ.out.mono HB.out.size)⟩
          · obtain rfl : j = l.length := by omega
            have hltd2 : decide ((l.length : Int) < (l.length : Int)) = false := decide_eq_false (by omega)
            have hnlt2 : ¬ (l.length : Int) < (l.length : Int) := by omega
            have HF := Lib.hid (show hitP t c x = false by have h := HY.out.1; rw [List.take_length] at h; rw [HIT.out]; exact h)
            go_wp2
            go_roundw
            case rel => exact ⟨⟨k + 1, hlt, rfl, by rw [HT.out, HX.out.1, HF.out]; rfl, HZ.out⟩⟩
            case measure => simp only [intOf]; omega
    · obtain rfl : k = L.length := by omega
      have hltd : decide ((L.length : Int) < (L.length : Int)) = false := decide_eq_false (by omega)
      have hnlt : ¬ (L.length : Int) < (L.length : Int) := by omega
      have HF := Lib.hid (show L.any (hitP t c) = false by have h := HX.out.1; rw [List.take_length] at h; exact h)
      go_wp2
      go_ret
      exact ⟨by rw [HG.out, HF.out]; rfl, HB.out.trans (HX.out.2.mono HB.out.size)⟩
end Go.Proofs.YtmgcgdkndkibgaaGreat
