import Derived.LaidMore
import Derived.OpenShut
import Derived.Stop.Joined
import Derived.SevenTiedAt
import Derived.Lib.LaidTab
import Derived.Test.YteikbikopgabjaaGreatDoorTie
import Derived.Test.YteikbikopgabjaaGreatDoorCards
import Derived.Test.YteikbikopgabjaaGreatDoorU02
import Derived.Test.YteikbikopgabjaaGreatDoorU48
/- LossUnrecoverableMatchesSpec, as a tied card: whatever the input, the law answers true and leaves its arguments alone; the tables of package field and of the specification's digest are what the program's text lays (tied; over a pruned copy of the project). -/
section
namespace Go.Sl
open Go Go.RowKit
section
variable {P : Program} {w : World} {t : TypeId} {cs : List Value}
theorem Rd.sliceM {e : TypeId} {sz : Nat} (hu : P.underlying t = some (.slice e)) (hsz : P.cellsOf e = sz) (h0 : 0 < sz) (h : Rd P w t cs) :
    ∃ ao len cap, cs = [.slice ao len cap] ∧ (len ≤ cap ∧ cap ≤ maxLen) ∧ (0 < len → ∃ b off, ao = some ⟨b, off, none⟩ ∧ ∀ i, i < len → ∃ es : List Value, es.length = sz ∧ Rd P w e es ∧ ∀ j u, es[j]? = some u → w.cell? ⟨b, off + i * sz + j, none⟩ = some u) := by
  obtain ⟨H, enc, fuel, d, ps, h⟩ := h
  cases fuel with
  | zero => simp [DataW.trod] at h
  | succ m =>
    rw [DataW.trod_step] at h
    have key : cs = [.slice none 0 0] ∨ ∃ a len cap, cs = [.slice (some a) len cap] ∧ len ≤ cap ∧ cap ≤ maxLen ∧ ∃ elems, (List.range len).mapM (fun i => (w.cells? 0 (a.add (i * P.cellsOf e)) (P.cellsOf e)).bind (DataW.trod enc P w 0 (fun _ => true) true m e)) = some elems := by
      unfold DataW.trodStep at h
      rw [hu] at h
      split at h
      all_goals first
        | (exfalso; simp at *; done)
        | skip
      all_goals first
        | (rename_i heq; cases heq; exact .inl rfl)
        | (rename_i e' a len cap heq
           cases heq
           simp only at h
           split at h
           · rename_i hc
             obtain ⟨elems, he, _⟩ := Option.bind_eq_some_iff.1 h
             exact .inr ⟨a, len, cap, rfl, hc.2.1, hc.2.2, elems, he⟩
           · cases h)
        | (rename_i heq; cases heq)
        | (cases h)
    rcases key with rfl | ⟨a, len, cap, rfl, hlc, hcm, elems, he⟩
    · exact ⟨none, 0, 0, rfl, ⟨Nat.le_refl _, Nat.zero_le _⟩, fun h => absurd h (Nat.lt_irrefl 0)⟩
    rw [hsz] at he
    refine ⟨some a, len, cap, rfl, ⟨hlc, hcm⟩, fun hl => ?_⟩
    have hat : ∀ i, i < len → ∃ es, w.cells? 0 (a.add (i * sz)) sz = some es ∧ ∃ y, DataW.trod enc P w 0 (fun _ => true) true m e es = some y := by
      intro i hi
      obtain ⟨y, hy⟩ := mapM_at he i (by simp [hi])
      rw [Option.bind_eq_some_iff] at hy
      obtain ⟨es, h3, h4⟩ := hy
      exact ⟨es, h3, y, h4⟩
    have hcell : ∀ (x : Addr) (es : List Value), w.cells? 0 x sz = some es → es.length = sz ∧ ∀ j u, es[j]? = some u → w.cell? (x.add j) = some u := by
      intro x es hx
      unfold World.cells? at hx
      rw [if_pos (Nat.zero_le _)] at hx
      have hlen : es.length = sz := by simpa using mapM_some_length hx
      refine ⟨hlen, fun j u hu => ?_⟩
      have hj : j < sz := by rw [← hlen]; exact (List.getElem?_eq_some_iff.1 hu).1
      have := mapM_some_get hx j j (by simp [hj])
      rw [this]; exact hu
    obtain ⟨b, off, spot⟩ := a
    obtain ⟨es0, hc0, _⟩ := hat 0 hl
    obtain ⟨hl0, hcc⟩ := hcell _ _ hc0
    have hspot : spot = none := by
      have := hcc 0 _ (List.getElem?_eq_getElem (by omega))
      simpa [Addr.add] using World.cell?_spot this
    subst hspot
    refine ⟨b, off, rfl, fun i hi => ?_⟩
    obtain ⟨es, hc, y, hy⟩ := hat i hi
    obtain ⟨hl', hcc'⟩ := hcell _ _ hc
    refine ⟨es, hl', ⟨H, enc, m, y.1, y.2, hy⟩, fun j u hj => ?_⟩
    have := hcc' j u hj
    rw [Addr.add_mid, Addr.add_mid] at this
    exact this
end
end Go.Sl
namespace Go.Proofs.YteikbikopgabjaaGreatDoor
open Go.RowKit Go.GF Go.Sl Go.Vol Go.Sha
theorem trod_rd {H : Type} {enc : TypeId × Value → H} {w : World} {t : TypeId} {v : Value} {d : DataW H} {ps : List MemPlace} (h : DataW.Trod enc Tryz.prog w 0 (fun _ => true) true t v d ps) : Rd Tryz.prog w t v.cells.toList := by
  obtain ⟨fuel, h⟩ := h
  exact ⟨H, enc, fuel, d, ps, h⟩
theorem rowI_nil (w : World) {cap : Nat} {ao : Option Addr} (hc : cap ≤ maxLen) : RowI w (.slice ao 0 cap) [] := ⟨ao, cap, rfl, Nat.zero_le _, hc, fun h => absurd h (by simp)⟩
theorem rowI_of {α : Type} {enc : α → Value} {w : World} {b off cap : Nat} {l : List α} (h1 : l.length ≤ cap) (h2 : cap ≤ maxLen) (h : ∀ i (x : α), l[i]? = some x → w.cell? ⟨b, off + i * 1, none⟩ = some (enc x)) : RowI w (.slice (some ⟨b, off, none⟩) l.length cap) (l.map enc) := by
  refine ⟨_, cap, by rw [List.length_map], by rw [List.length_map]; exact h1, h2, fun hp => ⟨b, off, rfl, ?_, fun j u hu => ?_⟩⟩
  · rw [List.length_map] at hp
    exact World.block_lt_of_cell? _ _ (h 0 _ (List.getElem?_eq_getElem hp))
  · rw [List.getElem?_map, Option.map_eq_some_iff] at hu
    obtain ⟨x, hx, rfl⟩ := hu
    have := h j x hx
    rwa [Nat.mul_one] at this
theorem rd_rowI {w : World} {cs : List Value} (h : Rd Tryz.prog w 36 cs) : ∃ v l, cs = [v] ∧ RowI w v (intsV l) ∧ l.length ≤ maxLen := by
  obtain ⟨ao, len, cap, rfl, ⟨hlc, hm⟩, hc⟩ := Rd.sliceM (sz := 1) Tryz.underlying36 (by kernel_rfl) (by decide) h
  by_cases h0 : len = 0
  · subst h0
    exact ⟨_, [], rfl, rowI_nil w hm, Nat.zero_le _⟩
  · obtain ⟨b, off, rfl, hi⟩ := hc (by omega)
    obtain ⟨l, hl, hp⟩ := list_of (p := fun i (n : Int) => w.cell? ⟨b, off + i * 1, none⟩ = some (.int .i64 n)) len (by
      intro i hlt
      obtain ⟨es, _, hr, hcell⟩ := hi i hlt
      obtain ⟨n, rfl, _⟩ := Rd.int Tryz.underlying3 hr
      exact ⟨n, hcell 0 _ rfl⟩)
    subst hl
    exact ⟨_, l, rfl, rowI_of (enc := Value.int .i64) hlc hm hp, Nat.le_trans hlc hm⟩
theorem rd_rowB {w : World} {cs : List Value} (h : Rd Tryz.prog w 47 cs) : ∃ v l, cs = [v] ∧ RowI w v (boolsV l) := by
  obtain ⟨ao, len, cap, rfl, ⟨hlc, hm⟩, hc⟩ := Rd.sliceM (sz := 1) Tryz.underlying47 (by kernel_rfl) (by decide) h
  by_cases h0 : len = 0
  · subst h0
    exact ⟨_, [], rfl, rowI_nil w hm⟩
  · obtain ⟨b, off, rfl, hi⟩ := hc (by omega)
    obtain ⟨l, hl, hp⟩ := list_of (p := fun i (n : Bool) => w.cell? ⟨b, off + i * 1, none⟩ = some (.bool n)) len (by
      intro i hlt
      obtain ⟨es, _, hr, hcell⟩ := hi i hlt
      obtain ⟨n, rfl⟩ := Rd.bool Tryz.underlying4 hr
      exact ⟨n, hcell 0 _ rfl⟩)
    subst hl
    exact ⟨_, l, rfl, rowI_of (enc := Value.bool) hlc hm hp⟩
theorem rd_rowsI {w : World} {cs : List Value} (h : Rd Tryz.prog w 44 cs) : ∃ v L, cs = [v] ∧ RowsI w v L := by
  obtain ⟨ao, len, cap, rfl, ⟨hlc, hm⟩, hc⟩ := Rd.sliceM (sz := 1) Tryz.underlying44 (by kernel_rfl) (by decide) h
  by_cases h0 : len = 0
  · subst h0
    exact ⟨_, [], rfl, [], rowI_nil w hm, rfl, fun i x hx => by simp at hx⟩
  · obtain ⟨b, off, rfl, hi⟩ := hc (by omega)
    obtain ⟨l, hl, hp⟩ := list_of (p := fun i (x : Value × List Int) => w.cell? ⟨b, off + i * 1, none⟩ = some x.1 ∧ RowI w x.1 (intsV x.2)) len (by
      intro i hlt
      obtain ⟨es, _, hr, hcell⟩ := hi i hlt
      obtain ⟨v, r, rfl, hv, _⟩ := rd_rowI hr
      exact ⟨(v, r), hcell 0 _ rfl, hv⟩)
    subst hl
    refine ⟨_, l.map (·.2), rfl, l.map (·.1), rowI_of (enc := fun x : Value × List Int => x.1) hlc hm (fun i x hx => (hp i x hx).1), by simp, fun i x hx => ?_⟩
    rw [List.getElem?_map, Option.map_eq_some_iff] at hx
    obtain ⟨y, hy, rfl⟩ := hx
    exact ⟨y.2, by rw [List.getElem?_map, hy]; rfl, (hp i y hy).2⟩
set_option maxRecDepth 40000 in
theorem rd_code41 {w : World} {cs : List Value} (h : Rd Tryz.prog w 46 cs) : ∃ nm f k pv dom L, cs = (codeV nm f k pv dom).toList ∧ (-9223372036854775808 ≤ k ∧ k ≤ 9223372036854775807) ∧ RowsI w pv L := by
  obtain ⟨hl, hf⟩ := Rd.struct Tryz.underlying46 h
  rw [show Tryz.prog.cellsOf 46 = 5 by kernel_rfl] at hl
  have k1 : Tryz.prog.cellsOf 3 = 1 := by kernel_rfl
  have k2 : Tryz.prog.cellsOf 9 = 1 := by kernel_rfl
  have k3 : Tryz.prog.cellsOf 44 = 1 := by kernel_rfl
  match cs, hl with
  | [a0, a1, a2, a3, a4], _ =>
    simp only [List.mem_cons, List.not_mem_nil, or_false, forall_eq_or_imp, forall_eq, k1, k2, k3, List.drop_zero, List.drop_succ_cons, List.take_succ_cons, List.take_zero] at hf
    obtain ⟨h0, h1, h2, h3, h4⟩ := hf
    obtain ⟨s, e0, hs⟩ := Rd.string Tryz.underlying9 h0
    obtain ⟨n1, e1, _⟩ := Rd.int Tryz.underlying3 h1
    obtain ⟨n2, e2, hr2⟩ := Rd.int Tryz.underlying3 h2
    obtain ⟨v, L, e3, hv⟩ := rd_rowsI h3
    obtain ⟨n4, e4, _⟩ := Rd.int Tryz.underlying3 h4
    simp at e0 e1 e2 e3 e4
    subst e0 e1 e2 e3 e4
    exact ⟨s, n1, n2, _, n4, L, rfl, by simp only [Lit.wf, Bool.and_eq_true, decide_eq_true_eq] at hr2; exact hr2, hv⟩
abbrev tabLaid : List (String × DataW Unit) := [("solvent/solventref02.constants", Rows.laid_solvent_solventref02_constants), ("solvent/field.fields", Rows.laid_solvent_field_fields)]
set_option maxRecDepth 100000 in
theorem door_met (os : Os) (args : Array Value) : laidMetH Tryz.prog tabLaid ((World.doorLaid Tryz.prog 31 os).forCall (fun _ _ => 0) ⟨#[], args, []⟩).memory :=
  laidMetH_of_parts3 (fuel := 8) (laidMet_of_run' 8 (by kernel_rfl) (by kernel_rfl)) (by kernel_rfl) (by kernel_rfl)
theorem tabG : Tryz.prog.globalNamed "solvent/field.fields" = some 3 := by kernel_rfl
theorem tabT : (Tryz.prog.globals[3]?).map (·.type) = some 241 := by kernel_rfl
theorem trod_str {H : Type} {enc : TypeId × Value → H} {P : Program} {w : World} {sp : Nat → Bool} {held : Bool} {base fuel : Nat} {t : TypeId} {fs : Array Field} {cs : List Value} {ds : List (DataW H)} {p : List MemPlace} (hu : P.underlying t = some (.struct fs))
    (h : DataW.trod enc P w base sp held fuel t cs = some (.agg ds, p)) : ∃ m, cs.length = P.cellsOf t ∧ ∀ (j : Nat) (f : Field), fs.toList[j]? = some f → ∃ d q, ds[j]? = some d ∧ DataW.trod enc P w base sp held m f.type ((cs.drop f.offset).take (P.cellsOf f.type)) = some (d, q) := by
  cases fuel with
  | zero => simp [DataW.trod] at h
  | succ m =>
    simp only [DataW.trod, hu] at h
    split at h
    · rename_i hl
      obtain ⟨xs, hm, hx⟩ := Option.map_eq_some_iff.1 h
      simp only [Prod.mk.injEq, DataW.agg.injEq] at hx
      refine ⟨m, hl, fun j f hj => ?_⟩
      obtain ⟨b, hb, hf⟩ := Lib.mapM_at hm j f hj
      exact ⟨b.1, b.2, by rw [← hx.1, List.getElem?_map, hb]; rfl, hf⟩
    · cases h
theorem trod_arr {H : Type} {enc : TypeId × Value → H} {P : Program} {w : World} {sp : Nat → Bool} {held : Bool} {base fuel : Nat} {t e : TypeId} {n : Nat} {cs : List Value} {ds : List (DataW H)} {p : List MemPlace} (hu : P.underlying t = some (.array n e))
    (h : DataW.trod enc P w base sp held fuel t cs = some (.agg ds, p)) : ∃ m, cs.length = P.cellsOf t ∧ ∀ i : Nat, i < n → ∃ d q, ds[i]? = some d ∧ DataW.trod enc P w base sp held m e ((cs.drop (i * P.cellsOf e)).take (P.cellsOf e)) = some (d, q) := by
  cases fuel with
  | zero => simp [DataW.trod] at h
  | succ m =>
    simp only [DataW.trod, hu] at h
    split at h
    · rename_i hl
      obtain ⟨xs, hm, hx⟩ := Option.map_eq_some_iff.1 h
      simp only [Prod.mk.injEq, DataW.agg.injEq] at hx
      refine ⟨m, hl, fun i hi => ?_⟩
      obtain ⟨b, hb, hf⟩ := Lib.mapM_at hm i i (by simp [hi])
      exact ⟨b.1, b.2, by rw [← hx.1, List.getElem?_map, hb]; rfl, hf⟩
    · cases h
set_option maxRecDepth 40000 in
theorem trod_pair {H : Type} {enc : TypeId × Value → H} {w : World} {sp : Nat → Bool} {held : Bool} {base fuel : Nat} {cs : List Value} {a b : Int} {p : List MemPlace}
    (h : DataW.trod enc Tryz.prog w base sp held fuel 240 cs = some (.agg [.lit (.int .i64 a), .lit (.int .i64 b)], p)) : cs = [.int .i64 a, .int .i64 b] := by
  obtain ⟨m, hl, hf⟩ := trod_str Tryz.underlying240 h
  rw [show Tryz.prog.cellsOf 240 = 2 by kernel_rfl] at hl
  have k1 : Tryz.prog.cellsOf 3 = 1 := by kernel_rfl
  match cs, hl with
  | [x, y], _ =>
    obtain ⟨d0, q0, e0, t0⟩ := hf 0 _ rfl
    obtain ⟨d1, q1, e1, t1⟩ := hf 1 _ rfl
    simp only [k1, List.drop_zero, List.drop_succ_cons, List.take_succ_cons, List.take_zero] at t0 t1
    obtain ⟨z0, hc0, hd0, _⟩ := DataW.trod_int Tryz.underlying3 t0
    obtain ⟨z1, hc1, hd1, _⟩ := DataW.trod_int Tryz.underlying3 t1
    cases hd0
    cases hd1
    simp at e0 e1 hc0 hc1
    subst e0 e1 hc0 hc1
    rfl
def dsK : List (DataW Unit) := match (Rows.laid_solvent_solventref02_constants : DataW Unit) with | .agg l => l | _ => []
theorem dsK_is : (Rows.laid_solvent_solventref02_constants : DataW Unit) = .agg dsK := rfl
def okK (i : Nat) : Bool := match dsK[i]? with | some (.lit (.int .u32 n)) => n == ((kM i : Nat) : Int) | _ => false
theorem okK_all : ∀ i, i < 64 → okK i = true := by decide +kernel
theorem tabGK : Tryz.prog.globalNamed "solvent/solventref02.constants" = some 1 := by kernel_rfl
theorem tabTK : (Tryz.prog.globals[1]?).map (·.type) = some 221 := by kernel_rfl
set_option maxRecDepth 40000 in
theorem tabs_of_laid {W : World} (h : laidMetH Tryz.prog tabLaid W) : TabF W ∧ TabK W := by
  rw [MakeChecks.laidMetH_plain _ _ _ (by kernel_rfl)] at h
  obtain ⟨ps, ⟨g', t', cs, fuel, p, q, hg', ht', hvar, hd, h2, _⟩, _⟩ := h
  obtain ⟨g2, t2, cs2, fuel2, p2, q2, hg2, ht2, hvar2, hd2, _, _⟩ := h2
  constructor
  · obtain rfl := Option.some.inj (tabG.symm.trans hg2)
    obtain rfl := Option.some.inj (tabT.symm.trans ht2)
    have hc := fun i (u : Value) (hu : cs2[i]? = some u) => (World.var?_cell tabG hvar2 i).trans hu
    obtain ⟨m, hl, ha⟩ := trod_arr Tryz.underlying241 hd2
    have k2 : Tryz.prog.cellsOf 240 = 2 := by kernel_rfl
    rw [show Tryz.prog.cellsOf 241 = 4 by kernel_rfl] at hl
    rw [k2] at ha
    obtain ⟨d0, q0, e0, t0⟩ := ha 0 (by decide)
    obtain ⟨d1, q1, e1, t1⟩ := ha 1 (by decide)
    obtain rfl := Option.some.inj e0
    obtain rfl := Option.some.inj e1
    have p0 := trod_pair t0
    have p1 := trod_pair t1
    obtain ⟨l⟩ := cs2
    match l, hl with
    | [x0, x1, x2, x3], _ =>
      simp at p0 p1
      obtain ⟨rfl, rfl⟩ := p0
      obtain ⟨rfl, rfl⟩ := p1
      exact ⟨hc 0 _ rfl, hc 1 _ rfl, hc 2 _ rfl, hc 3 _ rfl⟩
  · obtain rfl := Option.some.inj (tabGK.symm.trans hg')
    obtain rfl := Option.some.inj (tabTK.symm.trans ht')
    have hc := fun i (u : Value) (hu : cs[i]? = some u) => (World.var?_cell tabGK hvar i).trans hu
    rw [dsK_is] at hd
    obtain ⟨m, hl, ha⟩ := trod_arr Tryz.underlying221 hd
    have k2 : Tryz.prog.cellsOf 86 = 1 := by kernel_rfl
    rw [k2] at ha
    intro j hj
    obtain ⟨d, q', e0, t0⟩ := ha j hj
    obtain ⟨n, hcn, hdn, _⟩ := DataW.trod_int Tryz.underlying86 t0
    have hk := okK_all j hj
    unfold okK at hk
    obtain rfl : d = .lit (.int .u32 n) := congrArg Prod.fst hdn
    rw [e0] at hk
    have hn : n = ((kM j : Nat) : Int) := by simpa using hk
    rw [hn] at hcn
    have h3 : cs.toList[j]? = some (.int .u32 ((kM j : Nat) : Int)) := by
      have h4 := congrArg (fun l : List Value => l[0]?) hcn
      simpa [List.getElem?_take, List.getElem?_drop] using h4
    have := hc (j * 1) _ (by rw [Nat.mul_one, ← Array.getElem?_toList]; exact h3)
    rw [Nat.zero_add]
    exact this
end Go.Proofs.YteikbikopgabjaaGreatDoor
end
section
/- LossUnrecoverableMatchesSpec, as a tied card: whatever the input, the law answers true and leaves its arguments alone; the tables of package field and of the specification's digest are what the program's text lays (tied; over a pruned copy of the project). -/
namespace Go.Proofs.YteikbikopgabjaaGreatDoor
open Go.RowKit Go.GF Go.Sl Go.Vol Go.ChangeMaps Go.ChangeShapes Go.WideShapes Go.ChangeAt
set_option maxRecDepth 100000 in
theorem lossUnrecoverableMatchesSpec_lifted (os : Os) (started : os.Started) (H : Type) (enc : TypeId × Value → H) :
    ReturnsInHanded {} Tryz.checked os 4 .any (fun w args => (Rows.lossUnrecoverableMatchesSpecSpec.pre enc Tryz.prog Tryz.f4 [] false w args ∧ laidMetH Tryz.prog tabLaid w) ∧ sizedMet enc Tryz.prog Tryz.f4 (OpenSpec.ofChange Rows.lossUnrecoverableMatchesSpecSpec) false w args) (Rows.lossUnrecoverableMatchesSpecSpec.post enc Tryz.prog Tryz.f4 false true false false) := by
  refine returnsInHanded_of_change_and (C := Tryz.checked) (X := fun w _ => laidMetH Tryz.prog tabLaid w) (fun _ _ _ hh h => h.of_heap hh) law_own started (by kernel_rfl) Tryz.func4
    (ChangeSpec.witness_shaped (enc := enc) (C := Tryz.checked) (os := os) (X := fun w _ => laidMetH Tryz.prog tabLaid w) false (World.doorLaid Tryz.prog 31 os) #[.agg (codeV ByteArray.empty 0 0 (.slice none 0 0) 0), .slice none 0 0, .slice none 0 0] 8 rfl (World.shaped_of_RefB (by kernel_rfl) (by kernel_rfl)) (by kernel_rfl) (by kernel_rfl) (by kernel_rfl) (door_met os _)) ?_
  intro W base args ds gs before hval0 hW _ _ hL _
  have hTW := tabs_of_laid hL
  have hval : ∀ (j : Nat) t v, Tryz.f4.params[j]? = some t → args[j]? = some v → Value.okWide Tryz.prog W .any base t v := hval0
  have hW' := hW
  obtain ⟨p, q, hA0, hV, rfl, _, _⟩ := hW
  have hA : DataW.TrodAll enc Tryz.prog W 0 (fun _ => true) true Tryz.f4.params.toList args.toList ds p := hA0
  rw [Tryz.params4] at hA hval
  obtain ⟨w0, vs0, d0, ds0, p0, q0, hargs, rfl, rfl, h0, r0⟩ := trodAll_cons hA
  obtain ⟨w1, vs1, d1, ds1, p1, q1, rfl, rfl, rfl, h1, r1⟩ := trodAll_cons r0
  obtain ⟨w2, vs2, d2, ds2, p2, q2, rfl, rfl, rfl, h2, r2⟩ := trodAll_cons r1
  obtain ⟨rfl, rfl, rfl⟩ := trodAll_nil r2
  obtain rfl : args = #[w0, w1, w2] := by cases args; simp_all
  obtain ⟨rfl, rfl⟩ := trodVars_none hV
  obtain ⟨cs0, rfl, _⟩ := okWide_struct Tryz.underlying46 (hval 0 _ w0 rfl rfl)
  obtain ⟨s0, f0, k0, pv0, dom0, L0, e0, b0, a0⟩ := rd_code41 (trod_rd h0)
  obtain rfl : cs0 = codeV s0 f0 k0 pv0 dom0 := by apply Array.ext'; simpa [Value.cells] using e0
  obtain ⟨v1, l1, e1, g1⟩ := rd_rowB (trod_rd h1)
  obtain ⟨x1, y1, z1, rfl⟩ := okWide_slice Tryz.underlying47 (hval 1 _ w1 rfl rfl)
  obtain rfl : .slice x1 y1 z1 = v1 := by simpa [Value.cells] using e1
  obtain ⟨v2, l2, e2, g2, m2⟩ := rd_rowI (trod_rd h2)
  obtain ⟨x2, y2, z2, rfl⟩ := okWide_slice Tryz.underlying36 (hval 2 _ w2 rfl rfl)
  obtain rfl : .slice x2 y2 z2 = v2 := by simpa [Value.cells] using e2
  refine (unrlaw_any s0 f0 k0 pv0 dom0 L0 b0 _ _ l1 l2 W hTW.1 hTW.2 a0 g1 g2).mono fun e W' ⟨he, hg⟩ => ?_
  subst he
  exact ⟨_, rfl, law_post (by kernel_rfl) rfl (of_decide_eq_true (by kernel_rfl)) rfl hW' hg⟩
theorem lossUnrecoverableMatchesSpec_holds : Rows.LossUnrecoverableMatchesSpecSaid :=
  OpenClaim.holds_of_wide 4 Tryz.f4 rfl rfl rfl rfl rfl rfl rfl ⟨rfl, rfl, rfl, rfl, rfl⟩ rfl rfl rfl rfl rfl (by kernel_rfl) Tryz.func4 (by kernel_rfl)
    (of_decide_eq_true (by kernel_rfl)) (by unfold Func.isWrapper; first | (rw [if_pos (by decide +kernel)]; kernel_rfl) | (rw [if_neg (by decide +kernel)]; exact ⟨rfl, rfl⟩))
    (fun os started H enc _ => lossUnrecoverableMatchesSpec_lifted os started H enc)
/-- The tied card. -/
theorem lossUnrecoverableMatchesSpecCard_holds : Rows.LossUnrecoverableMatchesSpecCardSaid :=
  Claim7.holds_tied_plain_at .later [] [.data, .data] true (true, "dd44be2b4fdb180e7981f82dd1d3492b06ede229f3f0961faae65c3ee6d32968") false
    lossUnrecoverableMatchesSpec_holds (fun _ h => by cases h) (by kernel_rfl) (fun _ h => by cases h) lossUnrecoverableMatchesSpec_row_tie rfl ⟨rfl, rfl⟩ (by kernel_rfl) rfl
    (fun f fn hf hfn => by
      obtain rfl : f = 4 := Option.some.inj ((show Tryz.prog.funcNamed "solvent/solventlaw41.LossUnrecoverableMatchesSpec" = some 4 by kernel_rfl).symm.trans hf) |>.symm
      obtain rfl : fn = Tryz.f4 := (Option.some.inj (Tryz.func4.symm.trans hfn)).symm
      exact ⟨by kernel_rfl, fun j t ht => by
        rw [Tryz.params4] at ht
        have hm : t ∈ [46, 47, 36] := by simpa using Array.mem_of_getElem? ht
        have hall : ([46, 47, 36].all fun u => !Tryz.prog.wantsStandIn u) = true := by kernel_rfl
        exact (show Tryz.prog.wantsStandIn t = false by simpa using List.all_eq_true.1 hall t hm)⟩)
    (by kernel_rfl)
end Go.Proofs.YteikbikopgabjaaGreatDoor
end
