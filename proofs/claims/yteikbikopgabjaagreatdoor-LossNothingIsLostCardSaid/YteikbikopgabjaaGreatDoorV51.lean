import Derived.Test.YteikbikopgabjaaGreatDoorV02
import Derived.ProofKit
import Derived.OpenShut
import Derived.Test.YteikbikopgabjaaGreatDoorRows
import Derived.WalkKit
import Derived.Carry
import Derived.LaidMore
import Derived.Stop.Joined
import Derived.SevenTiedAt
import Derived.Lib.LaidTab
import Derived.Test.YteikbikopgabjaaGreatDoorTie
import Derived.Test.YteikbikopgabjaaGreatDoorCards
import Derived.Test.YteikbikopgabjaaGreatDoorV49
/- Part 51 of a proof; the last part says what is proved. -/
section
namespace Go.Sl
open Go Go.RowKit
def Rd (P : Program) (w : World) (t : TypeId) (cs : List Value) : Prop :=
  ∃ (H : Type) (enc : TypeId × Value → H) (fuel : Nat) (d : DataW H) (ps : List MemPlace), DataW.trod enc P w 0 (fun _ => true) true fuel t cs = some (d, ps)
section
variable {P : Program} {w : World} {t : TypeId} {cs : List Value}
theorem mapM_at {α β : Type} {f : α → Option β} : ∀ {l : List α} {r : List β}, l.mapM f = some r → ∀ x ∈ l, ∃ y, f x = some y
  | [], _, _, x, hx => by simp at hx
  | a :: l, r, h, x, hx => by
    rw [List.mapM_cons] at h
    cases ha : f a with
    | none => simp [ha] at h
    | some y =>
      cases hl : l.mapM f with
      | none => simp [ha, hl] at h
      | some ys =>
        rcases List.mem_cons.1 hx with rfl | hx
        · exact ⟨y, ha⟩
        · exact mapM_at hl x hx
theorem list_of {α : Type} {p : Nat → α → Prop} : ∀ n, (∀ i, i < n → ∃ x, p i x) → ∃ l : List α, l.length = n ∧ ∀ j x, l[j]? = some x → p j x
  | 0, _ => ⟨[], rfl, by simp⟩
  | n + 1, h => by
    obtain ⟨l, hl, hp⟩ := list_of n (fun i hi => h i (by omega))
    obtain ⟨x, hx⟩ := h n (by omega)
    refine ⟨l ++ [x], by simp [hl], fun j y hj => ?_⟩
    rcases Nat.lt_or_ge j n with h1 | h1
    · rw [List.getElem?_append_left (by omega)] at hj; exact hp j y hj
    · rw [List.getElem?_append_right (by omega)] at hj
      have : j - l.length = 0 := by
        rcases Nat.eq_zero_or_pos (j - l.length) with h2 | h2
        · exact h2
        · rw [List.getElem?_eq_none (by simp; omega)] at hj; cases hj
      rw [this] at hj
      simp at hj
      obtain rfl : j = n := by omega
      rw [← hj]; exact hx
theorem Rd.int {k : IntKind} (hu : P.underlying t = some (.int k)) (h : Rd P w t cs) : ∃ n, cs = [.int k n] ∧ (Lit.int k n).wf = true := by
  obtain ⟨H, enc, fuel, d, ps, h⟩ := h
  cases fuel with
  | zero => simp [DataW.trod] at h
  | succ m =>
    unfold DataW.trod at h
    rw [hu] at h
    split at h <;> simp_all
theorem Rd.string (hu : P.underlying t = some .string) (h : Rd P w t cs) : ∃ s, cs = [.string s] ∧ s.size ≤ maxLen := by
  obtain ⟨H, enc, fuel, d, ps, h⟩ := h
  cases fuel with
  | zero => simp [DataW.trod] at h
  | succ m =>
    unfold DataW.trod at h
    rw [hu] at h
    split at h <;> simp_all
theorem Rd.bool (hu : P.underlying t = some .bool) (h : Rd P w t cs) : ∃ b, cs = [.bool b] := by
  obtain ⟨H, enc, fuel, d, ps, h⟩ := h
  cases fuel with
  | zero => simp [DataW.trod] at h
  | succ m =>
    unfold DataW.trod at h
    rw [hu] at h
    split at h <;> simp_all
theorem Rd.struct {fs : Array Field} (hu : P.underlying t = some (.struct fs)) (h : Rd P w t cs) : cs.length = P.cellsOf t ∧ ∀ f ∈ fs.toList, Rd P w f.type ((cs.drop f.offset).take (P.cellsOf f.type)) := by
  obtain ⟨H, enc, fuel, d, ps, h⟩ := h
  cases fuel with
  | zero => simp [DataW.trod] at h
  | succ m =>
    unfold DataW.trod at h
    rw [hu] at h
    have h' : cs.length = P.cellsOf t ∧ ∃ xs, fs.toList.mapM (fun f => DataW.trod enc P w 0 (fun _ => true) true m f.type ((cs.drop f.offset).take (P.cellsOf f.type))) = some xs := by
      split at h <;> simp_all
      obtain ⟨_, xs, hx, _⟩ := h
      exact ⟨xs, hx⟩
    obtain ⟨h1, xs, hx⟩ := h'
    refine ⟨h1, fun f hf => ?_⟩
    obtain ⟨y, hy⟩ := mapM_at hx f hf
    exact ⟨H, enc, m, y.1, y.2, hy⟩
theorem Rd.slice {e : TypeId} {sz : Nat} (hu : P.underlying t = some (.slice e)) (hsz : P.cellsOf e = sz) (h0 : 0 < sz) (h : Rd P w t cs) :
    ∃ ao len cap, cs = [.slice ao len cap] ∧ len ≤ maxLen ∧ (0 < len → ∃ b off, ao = some ⟨b, off, none⟩ ∧ ∀ i, i < len → ∃ es : List Value, es.length = sz ∧ Rd P w e es ∧ ∀ j u, es[j]? = some u → w.cell? ⟨b, off + i * sz + j, none⟩ = some u) := by
  obtain ⟨H, enc, fuel, d, ps, h⟩ := h
  cases fuel with
  | zero => simp [DataW.trod] at h
  | succ m =>
    rw [DataW.trod_step] at h
    have key : cs = [.slice none 0 0] ∨ ∃ a len cap, cs = [.slice (some a) len cap] ∧ len ≤ cap ∧ cap ≤ maxLen ∧ ∃ elems, (List.range len).mapM (fun i => (w.cells? 0 (a.add (i * P.cellsOf e)) (P.cellsOf e)).bind (DataW.trod enc P w 0 (fun _ => true) true m e)) = some elems := by
      unfold DataW.trodStep at h
      rw [hu] at h
      split at h
      all_goals first
        | (exfalso; simp at *; done)
        | skip
      all_goals first
        | (rename_i heq; cases heq; exact .inl rfl)
        | (rename_i e' a len cap heq
           cases heq
           simp only at h
           split at h
           · rename_i hc
             obtain ⟨elems, he, _⟩ := Option.bind_eq_some_iff.1 h
             exact .inr ⟨a, len, cap, rfl, hc.2.1, hc.2.2, elems, he⟩
           · cases h)
        | (rename_i heq; cases heq)
        | (cases h)
    rcases key with rfl | ⟨a, len, cap, rfl, hlc, hcm, elems, he⟩
    · exact ⟨none, 0, 0, rfl, Nat.zero_le _, fun h => absurd h (Nat.lt_irrefl 0)⟩
    rw [hsz] at he
    refine ⟨some a, len, cap, rfl, Nat.le_trans hlc hcm, fun hl => ?_⟩
    have hat : ∀ i, i < len → ∃ es, w.cells? 0 (a.add (i * sz)) sz = some es ∧ ∃ y, DataW.trod enc P w 0 (fun _ => true) true m e es = some y := by
      intro i hi
      obtain ⟨y, hy⟩ := mapM_at he i (by simp [hi])
      rw [Option.bind_eq_some_iff] at hy
      obtain ⟨es, h3, h4⟩ := hy
      exact ⟨es, h3, y, h4⟩
    have hcell : ∀ (x : Addr) (es : List Value), w.cells? 0 x sz = some es → es.length = sz ∧ ∀ j u, es[j]? = some u → w.cell? (x.add j) = some u := by
      intro x es hx
      unfold World.cells? at hx
      rw [if_pos (Nat.zero_le _)] at hx
      have hlen : es.length = sz := by simpa using mapM_some_length hx
      refine ⟨hlen, fun j u hu => ?_⟩
      have hj : j < sz := by rw [← hlen]; exact (List.getElem?_eq_some_iff.1 hu).1
      have := mapM_some_get hx j j (by simp [hj])
      rw [this]; exact hu
    obtain ⟨b, off, spot⟩ := a
    obtain ⟨es0, hc0, _⟩ := hat 0 hl
    obtain ⟨hl0, hcc⟩ := hcell _ _ hc0
    have hspot : spot = none := by
      have := hcc 0 _ (List.getElem?_eq_getElem (by omega))
      simpa [Addr.add] using World.cell?_spot this
    subst hspot
    refine ⟨b, off, rfl, fun i hi => ?_⟩
    obtain ⟨es, hc, y, hy⟩ := hat i hi
    obtain ⟨hl', hcc'⟩ := hcell _ _ hc
    refine ⟨es, hl', ⟨H, enc, m, y.1, y.2, hy⟩, fun j u hj => ?_⟩
    have := hcc' j u hj
    rw [Addr.add_mid, Addr.add_mid] at this
    exact this
end
end Go.Sl
namespace Go.Proofs.YteikbikopgabjaaGreatDoor
open Go.ChangeShapes Go.WideShapes Go.ChangeAt Go.RowKit
theorem law_own : ownKnob Tryz.prog.godebug = none := by kernel_rfl
theorem law_laid : laidOutB Tryz.prog = true := by kernel_rfl
theorem law_args {H : Type} {enc : TypeId × Value → H} {W W' : World} (hb : Below W.heap.size W W') :
    ∀ (ts : List TypeId) (vs : List Value) (ds : List (DataW H)) (ps : List MemPlace), (∀ t ∈ ts, Tryz.prog.readableRec t = true ∧ t < Tryz.prog.types.size) → (∀ x ∈ ps, x.block < W.heap.size) →
      DataW.TrodAll enc Tryz.prog W 0 (fun _ => true) true ts vs ds ps → DataW.TrodAll enc Tryz.prog W' 0 (fun b => decide (b < W.heap.size)) true ts vs ds ps
  | [], [], [], ps, _, _, h => h
  | t :: ts, v :: vs, d :: ds, ps, ht, hlt, h => by
    obtain ⟨p, q, h1, h2, rfl⟩ := h
    exact ⟨p, q, Below.trod law_laid (ht t (by simp)).1 (ht t (by simp)).2 h1 hb (fun x hx => hlt x (by simp [hx])), law_args hb ts vs ds q (fun t' h' => ht t' (by simp [h'])) (fun x hx => hlt x (by simp [hx])) h2, rfl⟩
  | [], [], _ :: _, _, _, _, h => by cases h
  | [], _ :: _, _, _, _, _, h => by cases h
  | _ :: _, [], _, _, _, _, h => by cases h
  | _ :: _, _ :: _, [], _, _, _, h => by cases h
theorem law_post {H : Type} {enc : TypeId × Value → H} {f : Func} {s : ChangeSpec} {W W' : World} {args : Array Value} {ds gs : List (DataW H)} {before : List MemPlace}
    (hres : f.resultTypes = #[4]) (hvars : s.vars = []) (hp : ∀ t ∈ f.params.toList, Tryz.prog.readableRec t = true ∧ t < Tryz.prog.types.size)
    (hfn : (s.fn H (ds ++ gs)) = { results := [.lit (.bool true)], args := ds }) (hW : DataW.Whole enc Tryz.prog f.params.toList s.vars false W args.toList ds gs before)
    (hb : Below W.heap.size W W') : s.post enc Tryz.prog f false true false false W args (.bool true) W' := by
  obtain ⟨p, q, hA, hV, rfl, hfz, hnd⟩ := id hW
  rw [hvars] at hV
  have hlt : ∀ x ∈ p, x.block < W.heap.size := fun x hx => by simpa using hW.lt x (by simp [hx])
  refine ⟨ds, gs, p ++ q, [], p, [], hW, ?_, ?_, ?_, hb.frame _, fun h => by cases h⟩
  · rw [hfn, hres]; exact trodAll_cons_mk (shut_bool Tryz.underlying4 _) trodAll_mk0
  · rw [hfn]; exact law_args hb _ _ _ _ hp hlt hA
  · rw [hfn, hvars]; rfl
end Go.Proofs.YteikbikopgabjaaGreatDoor
end
section
namespace Go.Sl
open Go Go.RowKit
section
variable {P : Program} {w : World} {t : TypeId} {cs : List Value}
theorem Rd.sliceM {e : TypeId} {sz : Nat} (hu : P.underlying t = some (.slice e)) (hsz : P.cellsOf e = sz) (h0 : 0 < sz) (h : Rd P w t cs) :
    ∃ ao len cap, cs = [.slice ao len cap] ∧ (len ≤ cap ∧ cap ≤ maxLen) ∧ (0 < len → ∃ b off, ao = some ⟨b, off, none⟩ ∧ ∀ i, i < len → ∃ es : List Value, es.length = sz ∧ Rd P w e es ∧ ∀ j u, es[j]? = some u → w.cell? ⟨b, off + i * sz + j, none⟩ = some u) := by
  obtain ⟨H, enc, fuel, d, ps, h⟩ := h
  cases fuel with
  | zero => simp [DataW.trod] at h
  | succ m =>
    rw [DataW.trod_step] at h
    have key : cs = [.slice none 0 0] ∨ ∃ a len cap, cs = [.slice (some a) len cap] ∧ len ≤ cap ∧ cap ≤ maxLen ∧ ∃ elems, (List.range len).mapM (fun i => (w.cells? 0 (a.add (i * P.cellsOf e)) (P.cellsOf e)).bind (DataW.trod enc P w 0 (fun _ => true) true m e)) = some elems := by
      unfold DataW.trodStep at h
      rw [hu] at h
      split at h
      all_goals first
        | (exfalso; simp at *; done)
        | skip
      all_goals first
        | (rename_i heq; cases heq; exact .inl rfl)
        | (rename_i e' a len cap heq
           cases heq
           simp only at h
           split at h
           · rename_i hc
             obtain ⟨elems, he, _⟩ := Option.bind_eq_some_iff.1 h
             exact .inr ⟨a, len, cap, rfl, hc.2.1, hc.2.2, elems, he⟩
           · cases h)
        | (rename_i heq; cases heq)
        | (cases h)
    rcases key with rfl | ⟨a, len, cap, rfl, hlc, hcm, elems, he⟩
    · exact ⟨none, 0, 0, rfl, ⟨Nat.le_refl _, Nat.zero_le _⟩, fun h => absurd h (Nat.lt_irrefl 0)⟩
    rw [hsz] at he
    refine ⟨some a, len, cap, rfl, ⟨hlc, hcm⟩, fun hl => ?_⟩
    have hat : ∀ i, i < len → ∃ es, w.cells? 0 (a.add (i * sz)) sz = some es ∧ ∃ y, DataW.trod enc P w 0 (fun _ => true) true m e es = some y := by
      intro i hi
      obtain ⟨y, hy⟩ := mapM_at he i (by simp [hi])
      rw [Option.bind_eq_some_iff] at hy
      obtain ⟨es, h3, h4⟩ := hy
      exact ⟨es, h3, y, h4⟩
    have hcell : ∀ (x : Addr) (es : List Value), w.cells? 0 x sz = some es → es.length = sz ∧ ∀ j u, es[j]? = some u → w.cell? (x.add j) = some u := by
      intro x es hx
      unfold World.cells? at hx
      rw [if_pos (Nat.zero_le _)] at hx
      have hlen : es.length = sz := by simpa using mapM_some_length hx
      refine ⟨hlen, fun j u hu => ?_⟩
      have hj : j < sz := by rw [← hlen]; exact (List.getElem?_eq_some_iff.1 hu).1
      have := mapM_some_get hx j j (by simp [hj])
      rw [this]; exact hu
    obtain ⟨b, off, spot⟩ := a
    obtain ⟨es0, hc0, _⟩ := hat 0 hl
    obtain ⟨hl0, hcc⟩ := hcell _ _ hc0
    have hspot : spot = none := by
      have := hcc 0 _ (List.getElem?_eq_getElem (by omega))
      simpa [Addr.add] using World.cell?_spot this
    subst hspot
    refine ⟨b, off, rfl, fun i hi => ?_⟩
    obtain ⟨es, hc, y, hy⟩ := hat i hi
    obtain ⟨hl', hcc'⟩ := hcell _ _ hc
    refine ⟨es, hl', ⟨H, enc, m, y.1, y.2, hy⟩, fun j u hj => ?_⟩
    have := hcc' j u hj
    rw [Addr.add_mid, Addr.add_mid] at this
    exact this
end
end Go.Sl
namespace Go.Proofs.YteikbikopgabjaaGreatDoor
open Go.RowKit Go.GF Go.Sl Go.Vol Go.Sha
theorem trod_rd {H : Type} {enc : TypeId × Value → H} {w : World} {t : TypeId} {v : Value} {d : DataW H} {ps : List MemPlace} (h : DataW.Trod enc Tryz.prog w 0 (fun _ => true) true t v d ps) : Rd Tryz.prog w t v.cells.toList := by
  obtain ⟨fuel, h⟩ := h
  exact ⟨H, enc, fuel, d, ps, h⟩
abbrev tabLaid : List (String × DataW Unit) := [("solvent/solventref02.constants", Rows.laid_solvent_solventref02_constants), ("solvent/field.fields", Rows.laid_solvent_field_fields)]
set_option maxRecDepth 100000 in
theorem door_met (os : Os) (args : Array Value) : laidMetH Tryz.prog tabLaid ((World.doorLaid Tryz.prog 31 os).forCall (fun _ _ => 0) ⟨#[], args, []⟩).memory :=
  laidMetH_of_parts3 (fuel := 8) (laidMet_of_run' 8 (by kernel_rfl) (by kernel_rfl)) (by kernel_rfl) (by kernel_rfl)
theorem tabG : Tryz.prog.globalNamed "solvent/field.fields" = some 3 := by kernel_rfl
theorem tabT : (Tryz.prog.globals[3]?).map (·.type) = some 241 := by kernel_rfl
theorem trod_str {H : Type} {enc : TypeId × Value → H} {P : Program} {w : World} {sp : Nat → Bool} {held : Bool} {base fuel : Nat} {t : TypeId} {fs : Array Field} {cs : List Value} {ds : List (DataW H)} {p : List MemPlace} (hu : P.underlying t = some (.struct fs))
    (h : DataW.trod enc P w base sp held fuel t cs = some (.agg ds, p)) : ∃ m, cs.length = P.cellsOf t ∧ ∀ (j : Nat) (f : Field), fs.toList[j]? = some f → ∃ d q, ds[j]? = some d ∧ DataW.trod enc P w base sp held m f.type ((cs.drop f.offset).take (P.cellsOf f.type)) = some (d, q) := by
  cases fuel with
  | zero => simp [DataW.trod] at h
  | succ m =>
    simp only [DataW.trod, hu] at h
    split at h
    · rename_i hl
      obtain ⟨xs, hm, hx⟩ := Option.map_eq_some_iff.1 h
      simp only [Prod.mk.injEq, DataW.agg.injEq] at hx
      refine ⟨m, hl, fun j f hj => ?_⟩
      obtain ⟨b, hb, hf⟩ := Lib.mapM_at hm j f hj
      exact ⟨b.1, b.2, by rw [← hx.1, List.getElem?_map, hb]; rfl, hf⟩
    · cases h
theorem trod_arr {H : Type} {enc : TypeId × Value → H} {P : Program} {w : World} {sp : Nat → Bool} {held : Bool} {base fuel : Nat} {t e : TypeId} {n : Nat} {cs : List Value} {ds : List (DataW H)} {p : List MemPlace} (hu : P.underlying t = some (.array n e))
    (h : DataW.trod enc P w base sp held fuel t cs = some (.agg ds, p)) : ∃ m, cs.length = P.cellsOf t ∧ ∀ i : Nat, i < n → ∃ d q, ds[i]? = some d ∧ DataW.trod enc P w base sp held m e ((cs.drop (i * P.cellsOf e)).take (P.cellsOf e)) = some (d, q) := by
  cases fuel with
  | zero => simp [DataW.trod] at h
  | succ m =>
    simp only [DataW.trod, hu] at h
    split at h
    · rename_i hl
      obtain ⟨xs, hm, hx⟩ := Option.map_eq_some_iff.1 h
      simp only [Prod.mk.injEq, DataW.agg.injEq] at hx
      refine ⟨m, hl, fun i hi => ?_⟩
      obtain ⟨b, hb, hf⟩ := Lib.mapM_at hm i i (by simp [hi])
      exact ⟨b.1, b.2, by rw [← hx.1, List.getElem?_map, hb]; rfl, hf⟩
    · cases h
set_option maxRecDepth 40000 in
theorem trod_pair {H : Type} {enc : TypeId × Value → H} {w : World} {sp : Nat → Bool} {held : Bool} {base fuel : Nat} {cs : List Value} {a b : Int} {p : List MemPlace}
    (h : DataW.trod enc Tryz.prog w base sp held fuel 240 cs = some (.agg [.lit (.int .i64 a), .lit (.int .i64 b)], p)) : cs = [.int .i64 a, .int .i64 b] := by
  obtain ⟨m, hl, hf⟩ := trod_str Tryz.underlying240 h
  rw [show Tryz.prog.cellsOf 240 = 2 by kernel_rfl] at hl
  have k1 : Tryz.prog.cellsOf 3 = 1 := by kernel_rfl
  match cs, hl with
  | [x, y], _ =>
    obtain ⟨d0, q0, e0, t0⟩ := hf 0 _ rfl
    obtain ⟨d1, q1, e1, t1⟩ := hf 1 _ rfl
    simp only [k1, List.drop_zero, List.drop_succ_cons, List.take_succ_cons, List.take_zero] at t0 t1
    obtain ⟨z0, hc0, hd0, _⟩ := DataW.trod_int Tryz.underlying3 t0
    obtain ⟨z1, hc1, hd1, _⟩ := DataW.trod_int Tryz.underlying3 t1
    cases hd0
    cases hd1
    simp at e0 e1 hc0 hc1
    subst e0 e1 hc0 hc1
    rfl
def dsK : List (DataW Unit) := match (Rows.laid_solvent_solventref02_constants : DataW Unit) with | .agg l => l | _ => []
theorem dsK_is : (Rows.laid_solvent_solventref02_constants : DataW Unit) = .agg dsK := rfl
def okK (i : Nat) : Bool := match dsK[i]? with | some (.lit (.int .u32 n)) => n == ((kM i : Nat) : Int) | _ => false
theorem okK_all : ∀ i, i < 64 → okK i = true := by decide +kernel
theorem tabGK : Tryz.prog.globalNamed "solvent/solventref02.constants" = some 1 := by kernel_rfl
theorem tabTK : (Tryz.prog.globals[1]?).map (·.type) = some 221 := by kernel_rfl
set_option maxRecDepth 40000 in
theorem tabs_of_laid {W : World} (h : laidMetH Tryz.prog tabLaid W) : TabF W ∧ TabK W := by
  rw [MakeChecks.laidMetH_plain _ _ _ (by kernel_rfl)] at h
  obtain ⟨ps, ⟨g', t', cs, fuel, p, q, hg', ht', hvar, hd, h2, _⟩, _⟩ := h
  obtain ⟨g2, t2, cs2, fuel2, p2, q2, hg2, ht2, hvar2, hd2, _, _⟩ := h2
  constructor
  · obtain rfl := Option.some.inj (tabG.symm.trans hg2)
    obtain rfl := Option.some.inj (tabT.symm.trans ht2)
    have hc := fun i (u : Value) (hu : cs2[i]? = some u) => (World.var?_cell tabG hvar2 i).trans hu
    obtain ⟨m, hl, ha⟩ := trod_arr Tryz.underlying241 hd2
    have k2 : Tryz.prog.cellsOf 240 = 2 := by kernel_rfl
    rw [show Tryz.prog.cellsOf 241 = 4 by kernel_rfl] at hl
    rw [k2] at ha
    obtain ⟨d0, q0, e0, t0⟩ := ha 0 (by decide)
    obtain ⟨d1, q1, e1, t1⟩ := ha 1 (by decide)
    obtain rfl := Option.some.inj e0
    obtain rfl := Option.some.inj e1
    have p0 := trod_pair t0
    have p1 := trod_pair t1
    obtain ⟨l⟩ := cs2
    match l, hl with
    | [x0, x1, x2, x3], _ =>
      simp at p0 p1
      obtain ⟨rfl, rfl⟩ := p0
      obtain ⟨rfl, rfl⟩ := p1
      exact ⟨hc 0 _ rfl, hc 1 _ rfl, hc 2 _ rfl, hc 3 _ rfl⟩
  · obtain rfl := Option.some.inj (tabGK.symm.trans hg')
    obtain rfl := Option.some.inj (tabTK.symm.trans ht')
    have hc := fun i (u : Value) (hu : cs[i]? = some u) => (World.var?_cell tabGK hvar i).trans hu
    rw [dsK_is] at hd
    obtain ⟨m, hl, ha⟩ := trod_arr Tryz.underlying221 hd
    have k2 : Tryz.prog.cellsOf 86 = 1 := by kernel_rfl
    rw [k2] at ha
    intro j hj
    obtain ⟨d, q', e0, t0⟩ := ha j hj
    obtain ⟨n, hcn, hdn, _⟩ := DataW.trod_int Tryz.underlying86 t0
    have hk := okK_all j hj
    unfold okK at hk
    obtain rfl : d = .lit (.int .u32 n) := congrArg Prod.fst hdn
    rw [e0] at hk
    have hn : n = ((kM j : Nat) : Int) := by simpa using hk
    rw [hn] at hcn
    have h3 : cs.toList[j]? = some (.int .u32 ((kM j : Nat) : Int)) := by
      have h4 := congrArg (fun l : List Value => l[0]?) hcn
      simpa [List.getElem?_take, List.getElem?_drop] using h4
    have := hc (j * 1) _ (by rw [Nat.mul_one, ← Array.getElem?_toList]; exact h3)
    rw [Nat.zero_add]
    exact this
end Go.Proofs.YteikbikopgabjaaGreatDoor
end
section
namespace Go.Proofs.YteikbikopgabjaaGreatDoor
open Go.RowKit Go.Sha Go.Sl Go.GF Go.Vol Go.Loss
set_option maxRecDepth 20000 in
theorem rd_mapping41 {w : World} {cs : List Value} (h : Rd Tryz.prog w 74 cs) : ∃ x, cs = mE x := by
  obtain ⟨hl, hf⟩ := Rd.struct Tryz.underlying74 h
  rw [show Tryz.prog.cellsOf 74 = 2 by kernel_rfl] at hl
  have k1 : Tryz.prog.cellsOf 3 = 1 := by kernel_rfl
  match cs, hl with
  | [a0, a1], _ =>
    simp only [List.mem_cons, List.not_mem_nil, or_false, forall_eq_or_imp, forall_eq, k1, List.drop_zero, List.drop_succ_cons, List.take_succ_cons, List.take_zero] at hf
    obtain ⟨h0, h1⟩ := hf
    obtain ⟨n0, e0, _⟩ := Rd.int Tryz.underlying3 h0
    obtain ⟨n1, e1, _⟩ := Rd.int Tryz.underlying3 h1
    refine ⟨(n0, n1), ?_⟩
    simp at e0 e1
    subst e0 e1
    rfl
theorem flat_cell41 {α : Type} {enc : α → List Value} {k : Nat} (hk : ∀ x, (enc x).length = k) (h0 : 0 < k) {l : List α} {w : World} {b off : Nat} (h : ∀ j x, l[j]? = some x → ∀ i u, (enc x)[i]? = some u → w.cell? ⟨b, off + j * k + i, none⟩ = some u) :
    ∀ j u, (l.flatMap enc)[j]? = some u → w.cell? ⟨b, off + j, none⟩ = some u := by
  intro j u hu
  have hlt := (List.getElem?_eq_some_iff.1 hu).1
  rw [Go.Vol.flat_len hk] at hlt
  have hq : j / k < l.length := Nat.div_lt_of_lt_mul (by rw [Nat.mul_comm]; exact hlt)
  obtain ⟨x, hx⟩ : ∃ x, l[j / k]? = some x := ⟨_, List.getElem?_eq_getElem hq⟩
  have hr : j % k < (enc x).length := by rw [hk]; exact Nat.mod_lt _ h0
  obtain ⟨u', hu'⟩ : ∃ u', (enc x)[j % k]? = some u' := ⟨_, List.getElem?_eq_getElem hr⟩
  have hfa := flat_at hk l _ x hx _ _ hu'
  have hjk : j / k * k + j % k = j := by rw [Nat.mul_comm]; exact Nat.div_add_mod _ _
  rw [hjk, hu] at hfa
  obtain rfl : u = u' := Option.some.inj hfa
  have := h _ x hx _ _ hu'
  rwa [Nat.add_assoc, hjk] at this
theorem rd_mappings41 {w : World} {cs : List Value} (h : Rd Tryz.prog w 75 cs) : ∃ v, ∃ l : List (Int × Int), cs = [v] ∧ RowsO w v l.length (l.flatMap mE) ∧ (∃ a n c, v = .slice a n c) := by
  obtain ⟨ao, len, cap, rfl, ⟨hlc, hm⟩, hc⟩ := Rd.sliceM (sz := 2) Tryz.underlying75 (by kernel_rfl) (by decide) h
  by_cases h0 : len = 0
  · subst h0
    exact ⟨_, [], rfl, ⟨ao, cap, rfl, Nat.zero_le _, fun h => absurd h (Nat.lt_irrefl _)⟩, _, _, _, rfl⟩
  · obtain ⟨b, off, rfl, hi⟩ := hc (by omega)
    obtain ⟨l, hl, hp⟩ := list_of (p := fun j (x : Int × Int) => ∀ i u, (mE x)[i]? = some u → w.cell? ⟨b, off + j * 2 + i, none⟩ = some u) len (by
      intro i hlt
      obtain ⟨es, _, hr, hcell⟩ := hi i hlt
      obtain ⟨x, rfl⟩ := rd_mapping41 hr
      exact ⟨x, hcell⟩)
    subst hl
    have hcell := flat_cell41 mE_len (by decide) hp
    refine ⟨_, l, rfl, ⟨some ⟨b, off, none⟩, cap, rfl, Nat.le_trans hlc hm, fun hn => ⟨b, off, rfl, ?_, hcell⟩⟩, _, _, _, rfl⟩
    obtain ⟨x, hx⟩ : ∃ x, l[0]? = some x := ⟨_, List.getElem?_eq_getElem hn⟩
    exact World.block_lt_of_cell? _ _ (hp 0 x hx 0 _ rfl)
set_option maxRecDepth 20000 in
theorem rd_content41 {w : World} {cs : List Value} (h : Rd Tryz.prog w 77 cs) : ∃ x : ElC, cs = cE x ∧ RowsO w x.2 x.1.maps.length (x.1.maps.flatMap mE) := by
  obtain ⟨hl, hf⟩ := Rd.struct Tryz.underlying77 h
  rw [show Tryz.prog.cellsOf 77 = 4 by kernel_rfl] at hl
  have k1 : Tryz.prog.cellsOf 3 = 1 := by kernel_rfl
  have k2 : Tryz.prog.cellsOf 75 = 1 := by kernel_rfl
  match cs, hl with
  | [a0, a1, a2, a3], _ =>
    simp only [List.mem_cons, List.not_mem_nil, or_false, forall_eq_or_imp, forall_eq, k1, k2, List.drop_zero, List.drop_succ_cons, List.take_succ_cons, List.take_zero] at hf
    obtain ⟨h0, h1, h2, h3⟩ := hf
    obtain ⟨n0, e0, _⟩ := Rd.int Tryz.underlying3 h0
    obtain ⟨n1, e1, _⟩ := Rd.int Tryz.underlying3 h1
    obtain ⟨n2, e2, _⟩ := Rd.int Tryz.underlying3 h2
    obtain ⟨v, l, e3, hr, _⟩ := rd_mappings41 h3
    simp at e0 e1 e2 e3
    subst e0 e1 e2 e3
    exact ⟨(⟨n0, n1, n2, l⟩, a3), rfl, hr⟩
theorem rd_contents41 {w : World} {cs : List Value} (h : Rd Tryz.prog w 22 cs) : ∃ v l, cs = [v] ∧ CntL w v l ∧ CapOk v := by
  obtain ⟨ao, len, cap, rfl, ⟨hlc, hm⟩, hc⟩ := Rd.sliceM (sz := 4) Tryz.underlying22 (by kernel_rfl) (by decide) h
  by_cases h0 : len = 0
  · subst h0
    exact ⟨_, [], rfl, ⟨⟨ao, cap, rfl, Nat.zero_le _, fun h => absurd h (Nat.lt_irrefl _)⟩, fun x hx => absurd hx (by simp)⟩, fun _ _ _ e => by cases e; exact hlc⟩
  · obtain ⟨b, off, rfl, hi⟩ := hc (by omega)
    obtain ⟨l, hl, hp⟩ := list_of (p := fun j (x : ElC) => (∀ i u, (cE x)[i]? = some u → w.cell? ⟨b, off + j * 4 + i, none⟩ = some u) ∧ RowsO w x.2 x.1.maps.length (x.1.maps.flatMap mE)) len (by
      intro i hlt
      obtain ⟨es, _, hr, hcell⟩ := hi i hlt
      obtain ⟨x, rfl, hx⟩ := rd_content41 hr
      exact ⟨x, hcell, hx⟩)
    subst hl
    have hcell := flat_cell41 cE_len (by decide) (fun j x hx => (hp j x hx).1)
    refine ⟨_, l, rfl, ⟨⟨some ⟨b, off, none⟩, cap, rfl, Nat.le_trans hlc hm, fun hn => ⟨b, off, rfl, ?_, hcell⟩⟩, fun x hx => ?_⟩, fun _ _ _ e => by cases e; exact hlc⟩
    · obtain ⟨x, hx⟩ : ∃ x, l[0]? = some x := ⟨_, List.getElem?_eq_getElem hn⟩
      exact World.block_lt_of_cell? _ _ ((hp 0 x hx).1 0 _ rfl)
    · obtain ⟨i, hi⟩ := List.mem_iff_getElem?.1 hx
      exact (hp i x hi).2
set_option maxRecDepth 20000 in
theorem rd_item41 {w : World} {cs : List Value} (h : Rd Tryz.prog w 60 cs) : ∃ x : ItM, cs = itE x := by
  obtain ⟨hl, hf⟩ := Rd.struct Tryz.underlying60 h
  rw [show Tryz.prog.cellsOf 60 = 2 by kernel_rfl] at hl
  have k1 : Tryz.prog.cellsOf 5 = 1 := by kernel_rfl
  have k2 : Tryz.prog.cellsOf 4 = 1 := by kernel_rfl
  match cs, hl with
  | [a0, a1], _ =>
    simp only [List.mem_cons, List.not_mem_nil, or_false, forall_eq_or_imp, forall_eq, k1, k2, List.drop_zero, List.drop_succ_cons, List.take_succ_cons, List.take_zero] at hf
    obtain ⟨h0, h1⟩ := hf
    obtain ⟨n0, e0, hr0⟩ := Rd.int Tryz.underlying5 h0
    obtain ⟨n1, e1⟩ := Rd.bool Tryz.underlying4 h1
    simp only [Lit.wf, Bool.and_eq_true, IntKind.min, IntKind.max, IntKind.bits, IntKind.signed] at hr0
    refine ⟨(UInt8.ofNat n0.toNat, n1), ?_⟩
    simp at e0 e1 hr0
    subst e0 e1
    unfold itE
    have : ((UInt8.ofNat n0.toNat).toNat : Int) = n0 := by
      rw [UInt8.toNat_ofNat']
      omega
    simp only [this]
theorem rd_items41 {w : World} {cs : List Value} (h : Rd Tryz.prog w 23 cs) : ∃ v l, cs = [v] ∧ ItL w v l := by
  obtain ⟨ao, len, cap, rfl, ⟨hlc, hm⟩, hc⟩ := Rd.sliceM (sz := 2) Tryz.underlying23 (by kernel_rfl) (by decide) h
  by_cases h0 : len = 0
  · subst h0
    exact ⟨_, [], rfl, ⟨ao, cap, rfl, Nat.zero_le _, fun h => absurd h (Nat.lt_irrefl _)⟩⟩
  · obtain ⟨b, off, rfl, hi⟩ := hc (by omega)
    obtain ⟨l, hl, hp⟩ := list_of (p := fun j (x : ItM) => ∀ i u, (itE x)[i]? = some u → w.cell? ⟨b, off + j * 2 + i, none⟩ = some u) len (by
      intro i hlt
      obtain ⟨es, _, hr, hcell⟩ := hi i hlt
      obtain ⟨x, rfl⟩ := rd_item41 hr
      exact ⟨x, hcell⟩)
    subst hl
    have hcell := flat_cell41 itE_len (by decide) hp
    refine ⟨_, l, rfl, ⟨some ⟨b, off, none⟩, cap, rfl, Nat.le_trans hlc hm, fun hn => ⟨b, off, rfl, ?_, hcell⟩⟩⟩
    obtain ⟨x, hx⟩ : ∃ x, l[0]? = some x := ⟨_, List.getElem?_eq_getElem hn⟩
    exact World.block_lt_of_cell? _ _ (hp 0 x hx 0 _ rfl)
set_option maxRecDepth 40000 in
theorem rd_in41 {w : World} {cs : List Value} (h : Rd Tryz.prog w 25 cs) : ∃ va vb vi A B l, cs = (#[va, vb, vi] : Array Value).toList ∧ CntL w va A ∧ CntL w vb B ∧ CapOk va ∧ CapOk vb ∧ ItL w vi l := by
  obtain ⟨hl, hf⟩ := Rd.struct Tryz.underlying25 h
  rw [show Tryz.prog.cellsOf 25 = 3 by kernel_rfl] at hl
  have k1 : Tryz.prog.cellsOf 22 = 1 := by kernel_rfl
  have k2 : Tryz.prog.cellsOf 23 = 1 := by kernel_rfl
  match cs, hl with
  | [a0, a1, a2], _ =>
    simp only [List.mem_cons, List.not_mem_nil, or_false, forall_eq_or_imp, forall_eq, k1, k2, List.drop_zero, List.drop_succ_cons, List.take_succ_cons, List.take_zero] at hf
    obtain ⟨h0, h1, h2⟩ := hf
    obtain ⟨va, A, e0, ha, ca⟩ := rd_contents41 h0
    obtain ⟨vb, B, e1, hb, cb⟩ := rd_contents41 h1
    obtain ⟨vi, l, e2, hi⟩ := rd_items41 h2
    simp at e0 e1 e2
    subst e0 e1 e2
    exact ⟨_, _, _, A, B, l, rfl, ha, hb, ca, cb, hi⟩
end Go.Proofs.YteikbikopgabjaaGreatDoor
end
