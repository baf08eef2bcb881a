/- solventref27: parts, Build. Printed by ye.py. -/
import Derived.Test.YtednjhlkhecihaaYb
import Derived.Test.YtednjhlkhecihaaYc
import Derived.Test.YtednjhlkhecihaaUb
namespace Go.Proofs.Ytednjhlkhecihaa
open Go.RowKit Go.Vol Go.Sl

def PrevOk (l : List ElC) : Nat → Int → Prop
  | 0, z => z = -1
  | k + 1, z => 0 ≤ z ∧ ∃ p, l[k]? = some p ∧ p.1.id = z
def PrevM (l : List (Int × Int)) : Nat → Int → Prop
  | 0, z => z = -1
  | k + 1, z => ∃ p, l[k]? = some p ∧ p.1 = z
def validP (f : Bool) (most : Int) (l : List ElC) : Prop := validC most (-1) (l.map Prod.fst) ∧ (f = true → ∀ x ∈ l, 0 ≤ x.1.src ∧ x.1.src < 64)
def PtOut (f : Bool) (most : Int) (l : List ElC) (e : Ending) (w' : World) : Prop :=
  (validP f most l ∧ ∃ v', e = .returned (.tuple #[v', .bool true]) ∧ RefLO w' v' (l.map fun x => toPart f x.1)) ∨ (¬ validP f most l ∧ e = .returned (.tuple #[.slice none 0 0, .bool false]))
structure PtSt (w : World) (f : Bool) (most : Int) (l : List ElC) (v i : Value) (wr : World) : Prop where
  st : ∃ (k : Nat) (z : Int) (lp : List ElM), k ≤ l.length ∧ i = .int .i64 (k : Int) ∧ (validC most (-1) (l.map Prod.fst) ↔ validC most z ((l.map Prod.fst).drop k)) ∧ PrevOk l k z ∧ lp.map Prod.fst = (l.take k).map (fun x => toPart f x.1) ∧
    (f = true → ∀ x ∈ l.take k, 0 ≤ x.1.src ∧ x.1.src < 64) ∧ (∀ x ∈ lp, MapRowO w x) ∧ Same w wr ∧ Sat wr (ownAt TP 4 v k (lp.flatMap rpE) * old w)
structure PmSt (W2 : World) (its : List (Int × Int)) (i : Value) (wr : World) : Prop where
  st : ∃ (j : Nat) (n : Int), j ≤ its.length ∧ i = .int .i64 (j : Int) ∧ (validM (-1) its ↔ validM n (its.drop j)) ∧ PrevM its j n ∧ Below W2.heap.size W2 wr
end Go.Proofs.Ytednjhlkhecihaa
