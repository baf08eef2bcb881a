/- Rows of family 09: the arguments, opened; the table of the fields. -/
import Derived.LaidMore
import Derived.OpenShut
import Derived.Stop.Joined
import Derived.SevenTiedAt
import Derived.Lib.LaidTab
import Derived.Test.YtnilepaicnnbhaaGreatDoorTie
import Derived.Test.YtnilepaicnnbhaaGreatDoorCards
import Derived.Test.YtnilepaicnnbhaaGreatDoorZl
import Derived.Test.YtnilepaicnnbhaaGreatDoorKu
namespace Go.Sl
open Go Go.RowKit
section
variable {P : Program} {w : World} {t : TypeId} {cs : List Value}
/-- A slice: its elements lie one behind the other in one block, and each reads. -/
theorem Rd.sliceM {e : TypeId} {sz : Nat} (hu : P.underlying t = some (.slice e)) (hsz : P.cellsOf e = sz) (h0 : 0 < sz) (h : Rd P w t cs) :
    ∃ ao len cap, cs = [.slice ao len cap] ∧ (len ≤ cap ∧ cap ≤ maxLen) ∧ (0 < len → ∃ b off, ao = some ⟨b, off, none⟩ ∧ ∀ i, i < len → ∃ es : List Value, es.length = sz ∧ Rd P w e es ∧ ∀ j u, es[j]? = some u → w.cell? ⟨b, off + i * sz + j, none⟩ = some u) := by
  obtain ⟨H, enc, fuel, d, ps, h⟩ := h
  cases fuel with
  | zero => simp [DataW.trod] at h
  | succ m =>
    rw [DataW.trod_step] at h
    have key : cs = [.slice none 0 0] ∨ ∃ a len cap, cs = [.slice (some a) len cap] ∧ len ≤ cap ∧ cap ≤ maxLen ∧ ∃ elems, (List.range len).mapM (fun i => (w.cells? 0 (a.add (i * P.cellsOf e)) (P.cellsOf e)).bind (DataW.trod enc P w 0 (fun _ => true) true m e)) = some elems := by
      unfold DataW.trodStep at h
      rw [hu] at h
      split at h
      all_goals first
        | (exfalso; simp at *; done)
        | skip
      all_goals first
        | (rename_i heq; cases heq; exact .inl rfl)
        | (rename_i e' a len cap heq
           cases heq
           simp only at h
           split at h
           · rename_i hc
             obtain ⟨elems, he, _⟩ := Option.bind_eq_some_iff.1 h
             exact .inr ⟨a, len, cap, rfl, hc.2.1, hc.2.2, elems, he⟩
           · cases h)
        | (rename_i heq; cases heq)
        | (cases h)
    rcases key with rfl | ⟨a, len, cap, rfl, hlc, hcm, elems, he⟩
    · exact ⟨none, 0, 0, rfl, ⟨Nat.le_refl _, Nat.zero_le _⟩, fun h => absurd h (Nat.lt_irrefl 0)⟩
    rw [hsz] at he
    refine ⟨some a, len, cap, rfl, ⟨hlc, hcm⟩, fun hl => ?_⟩
    have hat : ∀ i, i < len → ∃ es, w.cells? 0 (a.add (i * sz)) sz = some es ∧ ∃ y, DataW.trod enc P w 0 (fun _ => true) true m e es = some y := by
      intro i hi
      obtain ⟨y, hy⟩ := mapM_at he i (by simp [hi])
      rw [Option.bind_eq_some_iff] at hy
      obtain ⟨es, h3, h4⟩ := hy
      exact ⟨es, h3, y, h4⟩
    have hcell : ∀ (x : Addr) (es : List Value), w.cells? 0 x sz = some es → es.length = sz ∧ ∀ j u, es[j]? = some u → w.cell? (x.add j) = some u := by
      intro x es hx
      unfold World.cells? at hx
      rw [if_pos (Nat.zero_le _)] at hx
      have hlen : es.length = sz := by simpa using mapM_some_length hx
      refine ⟨hlen, fun j u hu => ?_⟩
      have hj : j < sz := by rw [← hlen]; exact (List.getElem?_eq_some_iff.1 hu).1
      have := mapM_some_get hx j j (by simp [hj])
      rw [this]; exact hu
    obtain ⟨b, off, spot⟩ := a
    obtain ⟨es0, hc0, _⟩ := hat 0 hl
    obtain ⟨hl0, hcc⟩ := hcell _ _ hc0
    have hspot : spot = none := by
      have := hcc 0 _ (List.getElem?_eq_getElem (by omega))
      simpa [Addr.add] using World.cell?_spot this
    subst hspot
    refine ⟨b, off, rfl, fun i hi => ?_⟩
    obtain ⟨es, hc, y, hy⟩ := hat i hi
    obtain ⟨hl', hcc'⟩ := hcell _ _ hc
    refine ⟨es, hl', ⟨H, enc, m, y.1, y.2, hy⟩, fun j u hj => ?_⟩
    have := hcc' j u hj
    rw [Addr.add_mid, Addr.add_mid] at this
    exact this
end
end Go.Sl
namespace Go.Proofs.YtnilepaicnnbhaaGreatDoor
open Go.RowKit Go.GF Go.Sl Go.Shelf
theorem trod_rd {H : Type} {enc : TypeId × Value → H} {w : World} {t : TypeId} {v : Value} {d : DataW H} {ps : List MemPlace} (h : DataW.Trod enc Tryz.prog w 0 (fun _ => true) true t v d ps) : Rd Tryz.prog w t v.cells.toList := by
  obtain ⟨fuel, h⟩ := h
  exact ⟨H, enc, fuel, d, ps, h⟩
theorem rowI_nil (w : World) {cap : Nat} {ao : Option Addr} (hc : cap ≤ maxLen) : RowI w (.slice ao 0 cap) [] := ⟨ao, cap, rfl, Nat.zero_le _, hc, fun h => absurd h (by simp)⟩
/-- A row of cells: what each holds. -/
theorem rowI_of {α : Type} {enc : α → Value} {w : World} {b off cap : Nat} {l : List α} (h1 : l.length ≤ cap) (h2 : cap ≤ maxLen) (h : ∀ i (x : α), l[i]? = some x → w.cell? ⟨b, off + i * 1, none⟩ = some (enc x)) : RowI w (.slice (some ⟨b, off, none⟩) l.length cap) (l.map enc) := by
  refine ⟨_, cap, by rw [List.length_map], by rw [List.length_map]; exact h1, h2, fun hp => ⟨b, off, rfl, ?_, fun j u hu => ?_⟩⟩
  · rw [List.length_map] at hp
    exact World.block_lt_of_cell? _ _ (h 0 _ (List.getElem?_eq_getElem hp))
  · rw [List.getElem?_map, Option.map_eq_some_iff] at hu
    obtain ⟨x, hx, rfl⟩ := hu
    have := h j x hx
    rwa [Nat.mul_one] at this
theorem rd_rowI {w : World} {cs : List Value} (h : Rd Tryz.prog w 26 cs) : ∃ v l, cs = [v] ∧ RowI w v (intsV l) ∧ l.length ≤ maxLen := by
  obtain ⟨ao, len, cap, rfl, ⟨hlc, hm⟩, hc⟩ := Rd.sliceM (sz := 1) Tryz.underlying26 (by kernel_rfl) (by decide) h
  by_cases h0 : len = 0
  · subst h0
    exact ⟨_, [], rfl, rowI_nil w hm, Nat.zero_le _⟩
  · obtain ⟨b, off, rfl, hi⟩ := hc (by omega)
    obtain ⟨l, hl, hp⟩ := list_of (p := fun i (n : Int) => w.cell? ⟨b, off + i * 1, none⟩ = some (.int .i64 n)) len (by
      intro i hlt
      obtain ⟨es, _, hr, hcell⟩ := hi i hlt
      obtain ⟨n, rfl, _⟩ := Rd.int Tryz.underlying3 hr
      exact ⟨n, hcell 0 _ rfl⟩)
    subst hl
    exact ⟨_, l, rfl, rowI_of (enc := Value.int .i64) hlc hm hp, Nat.le_trans hlc hm⟩
theorem rd_rowB {w : World} {cs : List Value} (h : Rd Tryz.prog w 25 cs) : ∃ v l, cs = [v] ∧ RowI w v (boolsV l) := by
  obtain ⟨ao, len, cap, rfl, ⟨hlc, hm⟩, hc⟩ := Rd.sliceM (sz := 1) Tryz.underlying25 (by kernel_rfl) (by decide) h
  by_cases h0 : len = 0
  · subst h0
    exact ⟨_, [], rfl, rowI_nil w hm⟩
  · obtain ⟨b, off, rfl, hi⟩ := hc (by omega)
    obtain ⟨l, hl, hp⟩ := list_of (p := fun i (n : Bool) => w.cell? ⟨b, off + i * 1, none⟩ = some (.bool n)) len (by
      intro i hlt
      obtain ⟨es, _, hr, hcell⟩ := hi i hlt
      obtain ⟨n, rfl⟩ := Rd.bool Tryz.underlying4 hr
      exact ⟨n, hcell 0 _ rfl⟩)
    subst hl
    exact ⟨_, l, rfl, rowI_of (enc := Value.bool) hlc hm hp⟩
theorem rd_rowsI {w : World} {cs : List Value} (h : Rd Tryz.prog w 22 cs) : ∃ v L, cs = [v] ∧ RowsI w v L := by
  obtain ⟨ao, len, cap, rfl, ⟨hlc, hm⟩, hc⟩ := Rd.sliceM (sz := 1) Tryz.underlying22 (by kernel_rfl) (by decide) h
  by_cases h0 : len = 0
  · subst h0
    exact ⟨_, [], rfl, [], rowI_nil w hm, rfl, fun i x hx => by simp at hx⟩
  · obtain ⟨b, off, rfl, hi⟩ := hc (by omega)
    obtain ⟨l, hl, hp⟩ := list_of (p := fun i (x : Value × List Int) => w.cell? ⟨b, off + i * 1, none⟩ = some x.1 ∧ RowI w x.1 (intsV x.2)) len (by
      intro i hlt
      obtain ⟨es, _, hr, hcell⟩ := hi i hlt
      obtain ⟨v, r, rfl, hv, _⟩ := rd_rowI hr
      exact ⟨(v, r), hcell 0 _ rfl, hv⟩)
    subst hl
    refine ⟨_, l.map (·.2), rfl, l.map (·.1), rowI_of (enc := fun x : Value × List Int => x.1) hlc hm (fun i x hx => (hp i x hx).1), by simp, fun i x hx => ?_⟩
    rw [List.getElem?_map, Option.map_eq_some_iff] at hx
    obtain ⟨y, hy, rfl⟩ := hx
    exact ⟨y.2, by rw [List.getElem?_map, hy]; rfl, (hp i y hy).2⟩
set_option maxRecDepth 40000 in
theorem rd_code {w : World} {cs : List Value} (h : Rd Tryz.prog w 24 cs) : ∃ nm f k pv dom L, cs = (codeV nm f k pv dom).toList ∧ ArgC w nm f k pv dom L := by
  obtain ⟨hl, hf⟩ := Rd.struct Tryz.underlying24 h
  rw [show Tryz.prog.cellsOf 24 = 5 by kernel_rfl] at hl
  have k1 : Tryz.prog.cellsOf 3 = 1 := by kernel_rfl
  have k2 : Tryz.prog.cellsOf 9 = 1 := by kernel_rfl
  have k3 : Tryz.prog.cellsOf 22 = 1 := by kernel_rfl
  match cs, hl with
  | [a0, a1, a2, a3, a4], _ =>
    simp only [List.mem_cons, List.not_mem_nil, or_false, forall_eq_or_imp, forall_eq, k1, k2, k3, List.drop_zero, List.drop_succ_cons, List.take_succ_cons, List.take_zero] at hf
    obtain ⟨h0, h1, h2, h3, h4⟩ := hf
    obtain ⟨s, e0, hs⟩ := Rd.string Tryz.underlying9 h0
    obtain ⟨n1, e1, _⟩ := Rd.int Tryz.underlying3 h1
    obtain ⟨n2, e2, _⟩ := Rd.int Tryz.underlying3 h2
    obtain ⟨v, L, e3, hv⟩ := rd_rowsI h3
    obtain ⟨n4, e4, _⟩ := Rd.int Tryz.underlying3 h4
    simp at e0 e1 e2 e3 e4
    subst e0 e1 e2 e3 e4
    exact ⟨s, n1, n2, _, n4, L, rfl, hs, hv⟩

/-! ### the table -/
abbrev tabLaid : List (String × DataW Unit) := [("solvent/field.fields", Rows.laid_solvent_field_fields)]
set_option maxRecDepth 100000 in
theorem door_met (os : Os) (args : Array Value) : laidMetH Tryz.prog tabLaid ((World.doorLaid Tryz.prog 16 os).forCall (fun _ _ => 0) ⟨#[], args, []⟩).memory :=
  laidMetH_of_parts3 (fuel := 8) (laidMet_of_run' 8 (by kernel_rfl) (by kernel_rfl)) (by kernel_rfl) (by kernel_rfl)
theorem tabG : Tryz.prog.globalNamed "solvent/field.fields" = some 0 := by kernel_rfl
theorem tabT : (Tryz.prog.globals[0]?).map (·.type) = some 134 := by kernel_rfl
/-- A struct that reads as parts: each field reads as its part. -/
theorem trod_str {H : Type} {enc : TypeId × Value → H} {P : Program} {w : World} {sp : Nat → Bool} {held : Bool} {base fuel : Nat} {t : TypeId} {fs : Array Field} {cs : List Value} {ds : List (DataW H)} {p : List MemPlace} (hu : P.underlying t = some (.struct fs))
    (h : DataW.trod enc P w base sp held fuel t cs = some (.agg ds, p)) : ∃ m, cs.length = P.cellsOf t ∧ ∀ (j : Nat) (f : Field), fs.toList[j]? = some f → ∃ d q, ds[j]? = some d ∧ DataW.trod enc P w base sp held m f.type ((cs.drop f.offset).take (P.cellsOf f.type)) = some (d, q) := by
  cases fuel with
  | zero => simp [DataW.trod] at h
  | succ m =>
    simp only [DataW.trod, hu] at h
    split at h
    · rename_i hl
      obtain ⟨xs, hm, hx⟩ := Option.map_eq_some_iff.1 h
      simp only [Prod.mk.injEq, DataW.agg.injEq] at hx
      refine ⟨m, hl, fun j f hj => ?_⟩
      obtain ⟨b, hb, hf⟩ := Lib.mapM_at hm j f hj
      exact ⟨b.1, b.2, by rw [← hx.1, List.getElem?_map, hb]; rfl, hf⟩
    · cases h
theorem trod_arr {H : Type} {enc : TypeId × Value → H} {P : Program} {w : World} {sp : Nat → Bool} {held : Bool} {base fuel : Nat} {t e : TypeId} {n : Nat} {cs : List Value} {ds : List (DataW H)} {p : List MemPlace} (hu : P.underlying t = some (.array n e))
    (h : DataW.trod enc P w base sp held fuel t cs = some (.agg ds, p)) : ∃ m, cs.length = P.cellsOf t ∧ ∀ i : Nat, i < n → ∃ d q, ds[i]? = some d ∧ DataW.trod enc P w base sp held m e ((cs.drop (i * P.cellsOf e)).take (P.cellsOf e)) = some (d, q) := by
  cases fuel with
  | zero => simp [DataW.trod] at h
  | succ m =>
    simp only [DataW.trod, hu] at h
    split at h
    · rename_i hl
      obtain ⟨xs, hm, hx⟩ := Option.map_eq_some_iff.1 h
      simp only [Prod.mk.injEq, DataW.agg.injEq] at hx
      refine ⟨m, hl, fun i hi => ?_⟩
      obtain ⟨b, hb, hf⟩ := Lib.mapM_at hm i i (by simp [hi])
      exact ⟨b.1, b.2, by rw [← hx.1, List.getElem?_map, hb]; rfl, hf⟩
    · cases h
set_option maxRecDepth 40000 in
/-- One pair of the table. -/
theorem trod_pair {H : Type} {enc : TypeId × Value → H} {w : World} {sp : Nat → Bool} {held : Bool} {base fuel : Nat} {cs : List Value} {a b : Int} {p : List MemPlace}
    (h : DataW.trod enc Tryz.prog w base sp held fuel 133 cs = some (.agg [.lit (.int .i64 a), .lit (.int .i64 b)], p)) : cs = [.int .i64 a, .int .i64 b] := by
  obtain ⟨m, hl, hf⟩ := trod_str Tryz.underlying133 h
  rw [show Tryz.prog.cellsOf 133 = 2 by kernel_rfl] at hl
  have k1 : Tryz.prog.cellsOf 3 = 1 := by kernel_rfl
  match cs, hl with
  | [x, y], _ =>
    obtain ⟨d0, q0, e0, t0⟩ := hf 0 _ rfl
    obtain ⟨d1, q1, e1, t1⟩ := hf 1 _ rfl
    simp only [k1, List.drop_zero, List.drop_succ_cons, List.take_succ_cons, List.take_zero] at t0 t1
    obtain ⟨z0, hc0, hd0, _⟩ := DataW.trod_int Tryz.underlying3 t0
    obtain ⟨z1, hc1, hd1, _⟩ := DataW.trod_int Tryz.underlying3 t1
    cases hd0
    cases hd1
    simp at e0 e1 hc0 hc1
    subst e0 e1 hc0 hc1
    rfl
set_option maxRecDepth 40000 in
/-- What the condition gives the walk: the table's cells. -/
theorem tabF_of_laid {W : World} (h : laidMetH Tryz.prog tabLaid W) : TabF W := by
  rw [MakeChecks.laidMetH_plain _ _ _ (by kernel_rfl)] at h
  obtain ⟨ps, ⟨g', t', cs, fuel, p, q, hg', ht', hvar, hd, _, _⟩, _⟩ := h
  obtain rfl := Option.some.inj (tabG.symm.trans hg')
  obtain rfl := Option.some.inj (tabT.symm.trans ht')
  have hc := fun i (u : Value) (hu : cs[i]? = some u) => (World.var?_cell tabG hvar i).trans hu
  obtain ⟨m, hl, ha⟩ := trod_arr Tryz.underlying134 hd
  have k2 : Tryz.prog.cellsOf 133 = 2 := by kernel_rfl
  rw [show Tryz.prog.cellsOf 134 = 4 by kernel_rfl] at hl
  rw [k2] at ha
  obtain ⟨d0, q0, e0, t0⟩ := ha 0 (by decide)
  obtain ⟨d1, q1, e1, t1⟩ := ha 1 (by decide)
  obtain rfl := Option.some.inj e0
  obtain rfl := Option.some.inj e1
  have p0 := trod_pair t0
  have p1 := trod_pair t1
  obtain ⟨l⟩ := cs
  match l, hl with
  | [x0, x1, x2, x3], _ =>
    simp at p0 p1
    obtain ⟨rfl, rfl⟩ := p0
    obtain ⟨rfl, rfl⟩ := p1
    exact ⟨hc 0 _ rfl, hc 1 _ rfl, hc 2 _ rfl, hc 3 _ rfl⟩
end Go.Proofs.YtnilepaicnnbhaaGreatDoor
