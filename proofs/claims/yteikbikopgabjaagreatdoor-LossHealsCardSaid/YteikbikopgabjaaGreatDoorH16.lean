import Derived.Test.YteikbikopgabjaaGreatDoorH15
import Derived.Test.YteikbikopgabjaaGreatDoorH14
import Derived.BigQuiet
import Derived.Test.YteikbikopgabjaaGreatDoorH10
/- Part 16 of a proof; the last part says what is proved. -/
section
namespace Go.Proofs.YteikbikopgabjaaGreatDoor
open Go.RowKit Go.Vol Go.Sl
abbrev TPt : TypeId := 114
theorem info_pt : (Tryz.prog.info? TPt).map (fun i => (i.zero, i.size, i.bytes)) = some (some (.agg #[.int .i64 0, .int .i64 0, .pointer none, .int .i64 0]), 4, 32) := by kernel_rfl
def rest (w : World) (g : Option Nat) : HProp := ⟨fun h => h = fun k => if g = some k then none else w.heap[k]?⟩
theorem rest_of {T : TypeId} {n k : Nat} {v : Value} {xs : List Value} {X : HProp} {w : World} (h : Sat w (ownAt T n v k xs * X)) : Sat w (ownAt T n v k xs * rest w v.ownBlock) := by
 rcases ownAt_iff.1 h with ⟨rfl, rfl, rfl, _⟩ | ⟨g, cap, cur, ⟨rfl, h1⟩, hs⟩
 ·exact ownAt_nil.2 ⟨_, rfl, fun k o hk => by simpa [Value.ownBlock] using hk⟩
 ·refine ownAt_iff.2 (.inr ⟨g, cap, cur, ⟨rfl, h1⟩, ?_⟩)
  refine ⟨_, ⟨_, _, rfl, rfl, ?_, rfl⟩, ?_⟩
  ·intro k
   by_cases hk : k = g
   ·right; simp [Value.ownBlock, hk]
   ·left; simp [hk]
  ·intro k o hk
   unfold un at hk
   by_cases hkg : k = g
   ·subst hkg
    simp only [if_true, Option.some_or, Option.some.injEq] at hk
    subst hk
    exact hs.block
   ·have hne : ¬ (some g = some k) := fun h => hkg (Option.some.inj h).symm
    simp only [if_neg hkg, Option.none_or, Value.ownBlock] at hk
    have hgk : ¬ g = k := fun h => hkg h.symm
    simpa [hgk] using hk
theorem rest_keep {T : TypeId} {n k : Nat} {v : Value} {xs : List Value} {w w2 : World} {o : Option Nat} (h : Sat w2 (ownAt T n v k xs * rest w o)) :
  (∀ b, o ≠ some b → b < w.heap.size → w2.heap[b]? = w.heap[b]?) ∧ (∀ g, v.ownBlock = some g → o = some g ∨ w.heap.size ≤ g) := by
 refine ⟨fun b hb hlt => ?_, fun g hg => ?_⟩
 ·obtain ⟨x, hx, hk⟩ := h.right
  obtain rfl := hx
  have e := Array.getElem?_eq_getElem hlt
  have := hk b w.heap[b] (by simp only [if_neg hb]; exact e)
  rw [this, e]
 ·rcases ownAt_iff.1 h with ⟨rfl, _⟩ | ⟨g', cap, cur, ⟨rfl, _⟩, ⟨_, ⟨a, x, rfl, rfl, hd, rfl⟩, _⟩⟩
  ·simp [Value.ownBlock] at hg
  ·obtain rfl : g' = g := by simpa [Value.ownBlock] using hg
   by_cases ho : o = some g'
   ·exact .inl ho
   ·right
    rcases Nat.lt_or_ge g' w.heap.size with hlt | hge
    ·exfalso
     rcases hd g' with h | h
     ·simp at h
     ·have h' : (if o = some g' then none else w.heap[g']?) = none := h
      rw [if_neg ho, Array.getElem?_eq_getElem hlt] at h'; cases h'
    ·exact hge
theorem own_lt {T : TypeId} {n k : Nat} {v : Value} {xs : List Value} {X : HProp} {w : World} (h : Sat w (ownAt T n v k xs * X)) : ∀ g, v.ownBlock = some g → g < w.heap.size := by
 intro g hg
 rcases ownAt_iff.1 h with ⟨rfl, _⟩ | ⟨g', cap, cur, ⟨rfl, _⟩, hs⟩
 ·simp [Value.ownBlock] at hg
 ·obtain rfl : g' = g := by simpa [Value.ownBlock] using hg
  exact hs.lt
theorem own_keep {T : TypeId} {n k : Nat} {v : Value} {xs : List Value} {X : HProp} {w w2 : World} (h : Sat w (ownAt T n v k xs * X)) (hk : ∀ g, v.ownBlock = some g → w2.heap[g]? = w.heap[g]?) : Sat w2 (ownAt T n v k xs * emp) := by
 rcases ownAt_iff.1 h with ⟨rfl, rfl, rfl, _⟩ | ⟨g, cap, cur, ⟨rfl, h1⟩, hs⟩
 ·exact ownAt_nil.2 ⟨_, rfl, fun _ _ h => by cases h⟩
 ·refine ownAt_iff.2 (.inr ⟨g, cap, cur, ⟨rfl, h1⟩, ?_⟩)
  rw [star_emp]
  refine ⟨_, rfl, fun k o hk2 => ?_⟩
  by_cases hkg : k = g
  ·subst hkg
   simp only [if_true, Option.some.injEq] at hk2
   subst hk2
   exact (hk k rfl).trans hs.block
  ·rw [if_neg hkg] at hk2; cases hk2
theorem same_below' {B : Nat} {w w' : World} (h : Below B w w') : Same w w' := ⟨h.os, h.tape, h.output, h.size⟩
structure VcOwn (w : World) (v : Value) (k : Nat) (l : List ElM) (wr : World) : Prop where
 bl : Below w.heap.size w wr
 own : Sat wr (ownAt TPt 4 v k (l.flatMap volE) * emp)
 ge : ∀ g, v.ownBlock = some g → w.heap.size ≤ g
 tr : ∀ x ∈ l, NodeOk TNode (fun b => v.ownBlock ≠ some b) wr 2 x.2 x.1.m
end Go.Proofs.YteikbikopgabjaaGreatDoor
end
section
namespace Go.Proofs.YteikbikopgabjaaGreatDoor
open Go.RowKit Go.Vol Go.Vol.SpaceM Go.Sl
def RowsO (w : World) (v : Value) (n : Nat) (L : List Value) : Prop := ∃ ao cap, v = .slice ao n cap ∧ n ≤ maxLen ∧ (0 < n → ∃ b off : Nat, ao = some ⟨b, off, none⟩ ∧ b < w.heap.size ∧ ∀ j u, L[j]? = some u → w.cell? ⟨b, off + j, none⟩ = some u)
theorem RowsO.below {w w' : World} {v : Value} {n : Nat} {L : List Value} (h : RowsO w v n L) (hb : Below w.heap.size w w') : RowsO w' v n L := by
 obtain ⟨ao, cap, h1, h2, h3⟩ := h
 refine ⟨ao, cap, h1, h2, fun hn => ?_⟩
 obtain ⟨b, off, h4, h5, h6⟩ := h3 hn
 have := hb.size
 exact ⟨b, off, h4, by omega, fun j u hu => (hb.cell (p := ⟨b, off + j, none⟩) h5).trans (h6 j u hu)⟩
theorem RowsO.of {w : World} {v : Value} {n : Nat} {L : List Value} (h : RowsAt w v n L) : RowsO w v n L := by
 obtain ⟨ao, cap, h1, h2, h3, h4⟩ := h
 refine ⟨ao, cap, h1, Nat.le_trans h2.1 h3, fun hn => ?_⟩
 obtain ⟨b, h5, h6, h7⟩ := h4 hn
 exact ⟨b, 0, h5, h6, fun j u hu => by rw [Nat.zero_add]; exact h7 j u hu⟩
structure ContM where
 id : Int
 tenant : Int
 src : Int
 maps : List (Int × Int)
def mE (x : Int × Int) : List Value := [.int .i64 x.1, .int .i64 x.2]
theorem mE_len (x : Int × Int) : (mE x).length = 2 := rfl
abbrev ElC := ContM × Value
def cE (x : ElC) : List Value := [.int .i64 x.1.id, .int .i64 x.1.tenant, .int .i64 x.1.src, x.2]
theorem cE_len (x : ElC) : (cE x).length = 4 := rfl
structure CntL (w : World) (v : Value) (l : List ElC) : Prop where
 row : RowsO w v l.length (l.flatMap cE)
 maps : ∀ x ∈ l, RowsO w x.2 x.1.maps.length (x.1.maps.flatMap mE)
theorem CntL.below {w w' : World} {v : Value} {l : List ElC} (h : CntL w v l) (hb : Below w.heap.size w w') : CntL w' v l := ⟨h.row.below hb, fun x hx => (h.maps x hx).below hb⟩
theorem c_cells {w : World} {ao : Option Addr} {n cap : Nat} {l : List ElC} {i : Nat} {x : ElC} (h : RowsO w (.slice ao n cap) l.length (l.flatMap cE)) (hx : l[i]? = some x) : ∃ b off : Nat, ao = some ⟨b, off, none⟩ ∧ b < w.heap.size ∧
  w.cell? ⟨b, off + i * 4, none⟩ = some (.int .i64 x.1.id) ∧ w.cell? ⟨b, off + i * 4 + 1, none⟩ = some (.int .i64 x.1.tenant) ∧ w.cell? ⟨b, off + i * 4 + 2, none⟩ = some (.int .i64 x.1.src) ∧ w.cell? ⟨b, off + i * 4 + 3, none⟩ = some x.2 := by
 obtain ⟨ao', cap', e, _, h4⟩ := h
 obtain ⟨b, off, hb, hlt, hc⟩ := h4 (by have := (List.getElem?_eq_some_iff.1 hx).1; omega)
 simp only [Value.slice.injEq] at e
 refine ⟨b, off, e.1.trans hb, hlt, ?_, ?_, ?_, ?_⟩
 ·have := hc _ _ (flat_at cE_len l i x hx 0 _ rfl); rwa [Nat.add_zero] at this
 ·have := hc _ _ (flat_at cE_len l i x hx 1 _ rfl); rwa [← Nat.add_assoc] at this
 ·have := hc _ _ (flat_at cE_len l i x hx 2 _ rfl); rwa [← Nat.add_assoc] at this
 ·have := hc _ _ (flat_at cE_len l i x hx 3 _ rfl); rwa [← Nat.add_assoc] at this
theorem m_cells {w : World} {ao : Option Addr} {n cap : Nat} {l : List (Int × Int)} {i : Nat} {x : Int × Int} (h : RowsO w (.slice ao n cap) l.length (l.flatMap mE)) (hx : l[i]? = some x) : ∃ b off : Nat, ao = some ⟨b, off, none⟩ ∧ b < w.heap.size ∧
  w.cell? ⟨b, off + i * 2, none⟩ = some (.int .i64 x.1) ∧ w.cell? ⟨b, off + i * 2 + 1, none⟩ = some (.int .i64 x.2) := by
 obtain ⟨ao', cap', e, _, h4⟩ := h
 obtain ⟨b, off, hb, hlt, hc⟩ := h4 (by have := (List.getElem?_eq_some_iff.1 hx).1; omega)
 simp only [Value.slice.injEq] at e
 refine ⟨b, off, e.1.trans hb, hlt, ?_, ?_⟩
 ·have := hc _ _ (flat_at mE_len l i x hx 0 _ rfl); rwa [Nat.add_zero] at this
 ·have := hc _ _ (flat_at mE_len l i x hx 1 _ rfl); rwa [← Nat.add_assoc] at this
def validM : Int → List (Int × Int) → Prop
 | _, [] => True
 | z, x :: r => (z < x.1 ∧ (0 ≤ x.1 ∧ x.1 < 4096) ∧ 0 ≤ x.2 ∧ x.2 < 2147483648) ∧ validM x.1 r
def okC (most z : Int) (x : ContM) : Prop := z < x.id ∧ x.id < most ∧ (0 ≤ x.tenant ∧ x.tenant < 16) ∧ validM (-1) x.maps
def validC (most : Int) : Int → List ContM → Prop
 | _, [] => True
 | z, x :: r => okC most z x ∧ validC most x.id r
theorem validM_drop {z0 z : Int} {l : List (Int × Int)} {k : Nat} {x : Int × Int} (h : validM z0 l ↔ validM z (l.drop k)) (hx : l[k]? = some x) :
  ((z < x.1 ∧ (0 ≤ x.1 ∧ x.1 < 4096) ∧ 0 ≤ x.2 ∧ x.2 < 2147483648) → (validM z0 l ↔ validM x.1 (l.drop (k + 1)))) ∧ (¬ (z < x.1 ∧ (0 ≤ x.1 ∧ x.1 < 4096) ∧ 0 ≤ x.2 ∧ x.2 < 2147483648) → ¬ validM z0 l) := by
 obtain ⟨hlt, he⟩ := List.getElem?_eq_some_iff.1 hx
 rw [List.drop_eq_getElem_cons hlt, he, show validM z (x :: l.drop (k + 1)) = ((z < x.1 ∧ (0 ≤ x.1 ∧ x.1 < 4096) ∧ 0 ≤ x.2 ∧ x.2 < 2147483648) ∧ validM x.1 (l.drop (k + 1))) from rfl] at h
 exact ⟨fun h1 => h.trans ⟨fun h2 => h2.2, fun h2 => ⟨h1, h2⟩⟩, fun h1 h2 => h1 (h.1 h2).1⟩
theorem validC_drop {most z0 z : Int} {l : List ContM} {k : Nat} {x : ContM} (h : validC most z0 l ↔ validC most z (l.drop k)) (hx : l[k]? = some x) :
  (okC most z x → (validC most z0 l ↔ validC most x.id (l.drop (k + 1)))) ∧ (¬ okC most z x → ¬ validC most z0 l) := by
 obtain ⟨hlt, he⟩ := List.getElem?_eq_some_iff.1 hx
 rw [List.drop_eq_getElem_cons hlt, he, show validC most z (x :: l.drop (k + 1)) = (okC most z x ∧ validC most x.id (l.drop (k + 1))) from rfl] at h
 exact ⟨fun h1 => h.trans ⟨fun h2 => h2.2, fun h2 => ⟨h1, h2⟩⟩, fun h1 h2 => h1 (h.1 h2).1⟩
theorem validM_end {z : Int} {l : List (Int × Int)} : validM z (l.drop l.length) := by rw [List.drop_length]; trivial
theorem validC_end {most z : Int} {l : List ContM} : validC most z (l.drop l.length) := by rw [List.drop_length]; trivial
def addL (l : List (Int × Int)) : MapM := addN (l.map fun x => (x.1.toNat, x.2))
theorem addN_out {l : List (Nat × Int)} {b : Nat} (h : ∀ x ∈ l, x.1 ≠ b) : addN l b = none := by
 unfold addN
 have : ∀ (l : List (Nat × Int)) (m : MapM), (∀ x ∈ l, x.1 ≠ b) → m b = none → (l.foldl (fun m x => Go.Vol.upd m x.1 (some x.2)) m) b = none := by
  intro l
  induction l with
  | nil => intro m _ hm; exact hm
  | cons x r ih =>
   intro m h hm
   rw [List.foldl_cons]
   refine ih _ (fun y hy => h y (by simp [hy])) ?_
   unfold Go.Vol.upd
   rw [if_neg (fun e => h x (by simp) e.symm)]; exact hm
 exact this l _ h rfl
theorem items_addNil : items (addN []) = [] := itemsF_nil _ _ fun _ _ => rfl
theorem items_takeN {l : List (Nat × Int)} (hp : l.Pairwise fun a b => a.1 < b.1) (hl : ∀ x ∈ l, x.1 < 4096) : ∀ n, items (addN (l.take n)) = l.take n
 | 0 => items_addNil
 | n + 1 => by
  have ih := items_takeN hp hl n
  rw [List.take_add_one]
  cases hx0 : l[n]? with
  | none => rw [Option.toList_none, List.append_nil]; exact ih
  | some x =>
   rw [Option.toList_some]
   obtain ⟨hnl, he⟩ := List.getElem?_eq_some_iff.1 hx0
   have hx := hl x (List.mem_of_getElem? hx0)
   have hlt : ∀ y ∈ l.take n, y.1 < x.1 := fun y hy => by
    obtain ⟨i, hi, e⟩ := List.mem_iff_getElem.1 hy
    rw [List.length_take] at hi
    rw [List.getElem_take] at e
    rw [← e, ← he]
    exact List.pairwise_iff_getElem.1 hp i n (by omega) hnl (by omega)
   have hn : ∀ b, x.1 ≤ b → addN (l.take n) b = none := fun b hb => addN_out fun y hy e => by have := hlt y hy; omega
   have hz : itemsF (4095 - x.1) (x.1 + 1) (fun i => addN (l.take n) (x.1 + 1 + i)) = [] := itemsF_nil _ _ fun i _ => hn _ (by omega)
   rw [addN_snoc, items_upd hx, hz]
   have hs := items_split (addN (l.take n)) hx
   rw [ih, hn x.1 (Nat.le_refl _), hz] at hs
   simp only [Option.map_none, Option.toList_none, List.append_nil] at hs
   rw [← hs]
   simp
theorem items_addN (l : List (Nat × Int)) (hp : l.Pairwise fun a b => a.1 < b.1) (hl : ∀ x ∈ l, x.1 < 4096) : items (addN l) = l := by
 have := items_takeN hp hl l.length
 rwa [List.take_length] at this
theorem validM_all : ∀ {z : Int} {l : List (Int × Int)}, validM z l → (∀ x ∈ l, z < x.1 ∧ (0 ≤ x.1 ∧ x.1 < 4096) ∧ 0 ≤ x.2 ∧ x.2 < 2147483648) ∧ (l.map fun x => (x.1.toNat, x.2)).Pairwise (fun a b => a.1 < b.1)
 | _, [], _ => ⟨fun x hx => absurd hx (by simp), List.Pairwise.nil⟩
 | z, x :: r, h => by
  have hr := validM_all h.2
  refine ⟨fun y hy => ?_, ?_⟩
  ·rcases List.mem_cons.1 hy with rfl | hy
   ·exact h.1
   ·have := hr.1 y hy
    have := h.1
    exact ⟨by omega, by omega, by omega, by omega⟩
  ·rw [List.map_cons, List.pairwise_cons]
   refine ⟨fun y hy => ?_, hr.2⟩
   obtain ⟨u, hu, rfl⟩ := List.mem_map.1 hy
   have := hr.1 u hu
   have := h.1
   simp only
   omega
theorem items_addL {l : List (Int × Int)} (h : validM (-1) l) : items (addL l) = l.map fun x => (x.1.toNat, x.2) := by
 have ha := validM_all h
 refine items_addN _ ha.2 fun x hx => ?_
 obtain ⟨u, hu, rfl⟩ := List.mem_map.1 hx
 have := ha.1 u hu
 simp only; omega
def toPart (f : Bool) (x : ContM) : PartM := ⟨x.id, x.tenant, if f = true then x.src else 0, addL x.maps⟩
theorem toPart_wf {f : Bool} {x : ContM} {most z : Int} (h : okC most z x) : (toPart f x).WF := by
 have ha := (validM_all h.2.2.2).1
 refine ⟨h.2.2.1, fun b hb => ?_, fun b c hc => ?_⟩
 ·refine addN_out fun y hy e => ?_
  obtain ⟨u, hu, rfl⟩ := List.mem_map.1 hy
  have := ha u hu
  simp only at e; omega
 ·have hb : b < 4096 := by
   rcases Nat.lt_or_ge b 4096 with h' | h'
   ·exact h'
   ·have : addL x.maps b = none := addN_out fun y hy e => by
     obtain ⟨u, hu, rfl⟩ := List.mem_map.1 hy
     have := ha u hu
     simp only at e; omega
    rw [show (toPart f x).m = addL x.maps from rfl, this] at hc; cases hc
  have hc' : addL x.maps b = some c := hc
  have hm : (b, c) ∈ items (addL x.maps) := by
   unfold items itemsF
   exact List.mem_filterMap.2 ⟨b, List.mem_range.2 hb, by rw [hc']; simp⟩
  rw [items_addL h.2.2.2] at hm
  obtain ⟨u, hu, e⟩ := List.mem_map.1 hm
  simp only [Prod.mk.injEq] at e
  have := ha u hu
  rw [← e.2]; exact this.2.2
theorem valid_parts {f : Bool} {most : Int} : ∀ {z : Int} {l : List ContM}, validC most z l → Incr (l.map (toPart f)) (z + 1) ∧ (∀ p ∈ l.map (toPart f), p.id < most) ∧ (∀ p ∈ l.map (toPart f), p.WF)
 | _, [], _ => ⟨trivial, fun p hp => absurd hp (by simp), fun p hp => absurd hp (by simp)⟩
 | z, x :: r, h => by
  have hr := valid_parts (f := f) h.2
  refine ⟨⟨?_, hr.1⟩, fun p hp => ?_, fun p hp => ?_⟩
  ·have := h.1.1; show z + 1 ≤ x.id; omega
  ·rcases List.mem_cons.1 hp with rfl | hp
   ·exact h.1.2.1
   ·exact hr.2.1 p hp
  ·rcases List.mem_cons.1 hp with rfl | hp
   ·exact toPart_wf h.1
   ·exact hr.2.2 p hp
def spaceC (a b : List ContM) : SpaceM := ⟨a.map (toPart false), b.map (toPart true)⟩
def validS (a b : List ContM) : Prop := validC 64 (-1) a ∧ validC 256 (-1) b ∧ ∀ x ∈ b, 0 ≤ x.src ∧ x.src < 64
theorem spaceC_wf {a b : List ContM} (h : validS a b) : (spaceC a b).WF :=
 ⟨(valid_parts h.1).1, (valid_parts h.2.1).1, (valid_parts h.1).2.1, (valid_parts h.2.1).2.1, (valid_parts h.1).2.2, (valid_parts h.2.1).2.2⟩
end Go.Proofs.YteikbikopgabjaaGreatDoor
end
section
namespace Go.Proofs.YteikbikopgabjaaGreatDoor
open Go.RowKit Go.Sha Go.Sl Go.GF Go.Vol
abbrev ItM := UInt8 × Bool
def itE (x : ItM) : List Value := [.int .u8 (x.1.toNat : Int), .bool x.2]
theorem itE_len (x : ItM) : (itE x).length = 2 := rfl
def ItL (w : World) (v : Value) (l : List ItM) : Prop := RowsO w v l.length (l.flatMap itE)
theorem it_cells {w : World} {ao : Option Addr} {n cap : Nat} {l : List ItM} {i : Nat} {x : ItM} (h : ItL w (.slice ao n cap) l) (hx : l[i]? = some x) : ∃ b off : Nat, ao = some ⟨b, off, none⟩ ∧ b < w.heap.size ∧
  w.cell? ⟨b, off + i * 2, none⟩ = some (.int .u8 (x.1.toNat : Int)) ∧ w.cell? ⟨b, off + i * 2 + 1, none⟩ = some (.bool x.2) := by
 obtain ⟨ao', cap', e, _, h4⟩ := h
 obtain ⟨b, off, hb, hlt, hc⟩ := h4 (by have := (List.getElem?_eq_some_iff.1 hx).1; omega)
 simp only [Value.slice.injEq] at e
 refine ⟨b, off, e.1.trans hb, hlt, ?_, ?_⟩
 ·have := hc _ _ (flat_at itE_len l i x hx 0 _ rfl); rwa [Nat.add_zero] at this
 ·have := hc _ _ (flat_at itE_len l i x hx 1 _ rfl); rwa [← Nat.add_assoc] at this
def mapsOk (A : List ElC) : Prop := ∀ x ∈ A, x.1.maps.length ≤ 40
def FewP (A B : List ElC) (l : List ItM) : Prop := A.length ≤ 12 ∧ B.length ≤ 12 ∧ l.length ≤ 40 ∧ mapsOk A ∧ mapsOk B
theorem maps_step {A : List ElC} {k : Nat} {x : ElC} (h : ∀ j y, j < k → A[j]? = some y → y.1.maps.length ≤ 40) (hx : A[k]? = some x) (h2 : x.1.maps.length ≤ 40) : ∀ j y, j < k + 1 → A[j]? = some y → y.1.maps.length ≤ 40 := by
 intro j y hj hy
 by_cases e : j = k
 ·subst e; rw [hx] at hy; cases hy; exact h2
 ·exact h j y (by omega) hy
theorem maps_all {A : List ElC} (h : ∀ j y, j < A.length → A[j]? = some y → y.1.maps.length ≤ 40) : mapsOk A := fun x hx => by
 obtain ⟨j, hj, e⟩ := List.getElem_of_mem hx
 exact h j x hj (by rw [List.getElem?_eq_getElem hj, e])
structure FwS (w : World) (A : List ElC) (i : Value) (wr : World) : Prop where
 st : ∃ k : Nat, k ≤ A.length ∧ i = .int .i64 (k : Int) ∧ w = wr ∧ ∀ j y, j < k → A[j]? = some y → y.1.maps.length ≤ 40
set_option maxRecDepth 20000 in
set_option maxHeartbeats 2000000 in
theorem few41_any (va vb vi : Value) (A B : List ElC) (l : List ItM) (w : World) (hA : CntL w va A) (hB : CntL w vb B) (hI : ItL w vi l) :
  Calls Tryz.prog 30 #[va, vb, vi] w fun e w' => w' = w ∧ ((e = .returned (.bool true) ∧ FewP A B l) ∨ (e = .returned (.bool false) ∧ ¬ FewP A B l)) := by
 obtain ⟨ao, ac, rfl, -⟩ := id hA.row
 obtain ⟨bo, bc, rfl, -⟩ := id hB.row
 obtain ⟨io, ic, rfl, -⟩ := id hI
 have HA := Lib.hid hA
 have HB := Lib.hid hB
 clear hA hB hI
 obtain ⟨nl, hnl⟩ : ∃ n, n = l.length := ⟨_, rfl⟩
 rw [← hnl]
 have HNL := Lib.hid hnl
 clear hnl
 by_cases h1 : 12 < A.length
 ·have d1 : decide (12 < (A.length : Int)) = true := decide_eq_true (by omega)
  have HN := Lib.hid (show ¬ FewP A B l from fun h => by have := h.1; omega)
  go_enter Tryz.func30, Tryz.ntmps30
  go_wp2
  go_ret
  exact ⟨rfl, .inr ⟨rfl, HN.out⟩⟩
 by_cases h2 : 12 < B.length
 ·have d1 : decide (12 < (A.length : Int)) = false := decide_eq_false (by omega)
  have d2 : decide (12 < (B.length : Int)) = true := decide_eq_true (by omega)
  have HN := Lib.hid (show ¬ FewP A B l from fun h => by have := h.2.1; omega)
  go_enter Tryz.func30, Tryz.ntmps30
  go_wp2
  go_ret
  exact ⟨rfl, .inr ⟨rfl, HN.out⟩⟩
 by_cases h3 : 40 < nl
 ·have d1 : decide (12 < (A.length : Int)) = false := decide_eq_false (by omega)
  have d2 : decide (12 < (B.length : Int)) = false := decide_eq_false (by omega)
  have d3 : decide (40 < (nl : Int)) = true := decide_eq_true (by omega)
  have HN := Lib.hid (show ¬ FewP A B l from fun h => by have := h.2.2.1; have := HNL.out; omega)
  go_enter Tryz.func30, Tryz.ntmps30
  go_wp2
  go_ret
  exact ⟨rfl, .inr ⟨rfl, HN.out⟩⟩
 have d1 : decide (12 < (A.length : Int)) = false := decide_eq_false (by omega)
 have d2 : decide (12 < (B.length : Int)) = false := decide_eq_false (by omega)
 have d3 : decide (40 < (nl : Int)) = false := decide_eq_false (by omega)
 have HN := Lib.hid (And.intro h1 (And.intro h2 h3))
 go_enter Tryz.func30, Tryz.ntmps30
 go_wp2
 clear d1 d2 d3 h1 h2 h3
 go_loopw [7] (fun i wr => FwS w A i wr) (fun i _ => A.length - (intOf i).toNat)
 case atStart => exact ⟨⟨0, Nat.zero_le _, rfl, rfl, fun j y hj => by omega⟩⟩
 case round =>
  obtain ⟨k, hk, rfl, rfl, hall⟩ := hrel.st
  clear hrel
  have HAL := Lib.hid hall
  clear hall
  have hk12 : (k : Int) ≤ 12 := by have := HN.out.1; omega
  by_cases hlt : k < A.length
  ·have hltd : decide ((k : Int) < (A.length : Int)) = true := decide_eq_true (by omega)
   obtain ⟨x, hx⟩ : ∃ x, A[k]? = some x := ⟨_, List.getElem?_eq_getElem hlt⟩
   obtain ⟨b, off, rfl, -, -, -, -, e3⟩ := c_cells HA.out.row hx
   obtain ⟨am, cm, em, -⟩ := HA.out.maps x (List.mem_of_getElem? hx)
   rw [em] at e3
   have HX := Lib.hid hx
   clear hx em
   by_cases hm : 40 < x.1.maps.length
   ·have hmd : decide (40 < (x.1.maps.length : Int)) = true := decide_eq_true (by omega)
    have HF := Lib.hid (show ¬ FewP A B l from fun h => by have := h.2.2.2.1 x (List.mem_of_getElem? HX.out); omega)
    go_wp2
    go_ret
    exact ⟨rfl, .inr ⟨rfl, HF.out⟩⟩
   ·have hmd : decide (40 < (x.1.maps.length : Int)) = false := decide_eq_false (by omega)
    have HM := Lib.hid (maps_step HAL.out HX.out (by omega))
    go_wp2
    go_roundw
    case rel => exact ⟨⟨k + 1, by omega, rfl, rfl, HM.out⟩⟩
    case measure => simp only [intOf]; omega
  ·have hte : k = A.length := by omega
   have hltd : decide ((k : Int) < (A.length : Int)) = false := decide_eq_false (by omega)
   subst hte
   have HMA := Lib.hid (maps_all HAL.out)
   clear HAL
   go_wp2
   clear hltd hlt hk hk12
   go_loopw [8] (fun i wr => FwS w B i wr) (fun i _ => B.length - (intOf i).toNat)
   case atStart => exact ⟨⟨0, Nat.zero_le _, rfl, rfl, fun j y hj => by omega⟩⟩
   case round =>
    obtain ⟨k, hk, rfl, rfl, hall⟩ := hrel.st
    clear hrel
    have HAL := Lib.hid hall
    clear hall
    have hk12 : (k : Int) ≤ 12 := by have := HN.out.2.1; omega
    by_cases hlt : k < B.length
    ·have hltd : decide ((k : Int) < (B.length : Int)) = true := decide_eq_true (by omega)
     obtain ⟨x, hx⟩ : ∃ x, B[k]? = some x := ⟨_, List.getElem?_eq_getElem hlt⟩
     obtain ⟨b, off, rfl, -, -, -, -, e3⟩ := c_cells HB.out.row hx
     obtain ⟨am, cm, em, -⟩ := HB.out.maps x (List.mem_of_getElem? hx)
     rw [em] at e3
     have HX := Lib.hid hx
     clear hx em
     by_cases hm : 40 < x.1.maps.length
     ·have hmd : decide (40 < (x.1.maps.length : Int)) = true := decide_eq_true (by omega)
      have HF := Lib.hid (show ¬ FewP A B l from fun h => by have := h.2.2.2.2 x (List.mem_of_getElem? HX.out); omega)
      go_wp2
      go_ret
      exact ⟨rfl, .inr ⟨rfl, HF.out⟩⟩
     ·have hmd : decide (40 < (x.1.maps.length : Int)) = false := decide_eq_false (by omega)
      have HM := Lib.hid (maps_step HAL.out HX.out (by omega))
      go_wp2
      go_roundw
      case rel => exact ⟨⟨k + 1, by omega, rfl, rfl, HM.out⟩⟩
      case measure => simp only [intOf]; omega
    ·have hte : k = B.length := by omega
     have hltd : decide ((k : Int) < (B.length : Int)) = false := decide_eq_false (by omega)
     subst hte
     have HFP := Lib.hid (show FewP A B l from ⟨by have := HN.out.1; omega, by have := HN.out.2.1; omega, by have := HN.out.2.2; have := HNL.out; omega, HMA.out, maps_all HAL.out⟩)
     go_wp2
     go_ret
     exact ⟨rfl, .inl ⟨rfl, HFP.out⟩⟩
end Go.Proofs.YteikbikopgabjaaGreatDoor
end
