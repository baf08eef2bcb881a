import Derived.Test.YtmcclbiaoeilkaaGreatP16
import Derived.Test.YtmcclbiaoeilkaaGreatP09
import Derived.Test.YtmcclbiaoeilkaaGreatP03
/- Part 17 of a proof; the last part says what is proved. -/
namespace Go.Sl
open Go Go.RowKit
section
variable {P : Program} {tmps : Array Value} {w : World}
inductive ResIs (P : Program) (tmps : Array Value) (w : World) : ResultVar → Value → Prop
  | tmp {t : Tmp} {v : Value} (h : tmps.getD t undef = v) : ResIs P tmps w (.tmp t) v
  | cell {p : Tmp} {ty : TypeId} {ad : Addr} {v : Value} (h : tmps.getD p undef = .pointer (some ad)) (hl : (loadVar ty ad).run P w = .ok v w) : ResIs P tmps w (.cell p ty) v
theorem ResIs.row {p : Tmp} {ty T : TypeId} {g : Nat} {cs : Array Value} {fr : Nat × Nat} {d : TypeDesc} (h : tmps.getD p undef = .pointer (some ⟨g, 0, none⟩)) (hg : w.heap[g]? = some (.cells cs T fr))
    (hu : P.underlying ty = some d) (hd : (match d with | .struct _ | .array _ _ => true | _ => false) = true) (hi : (P.info? ty).map (·.size) = some cs.size) : ResIs P tmps w (.cell p ty) (.agg cs) :=
  .cell h (run_loadVar_row w g T ty cs fr d hg hu hd hi)
theorem results2 {fn : Func} {r1 r2 : ResultVar} {v1 v2 : Value} (h : fn.results = #[r1, r2]) (h1 : ResIs P tmps w r1 v1) (h2 : ResIs P tmps w r2 v2) : (results fn tmps).run P w = .ok (.tuple #[v1, v2]) w := by
  cases h1 <;> cases h2 <;> simp_all [results, asAddr]
theorem results3 {fn : Func} {r1 r2 r3 : ResultVar} {v1 v2 v3 : Value} (h : fn.results = #[r1, r2, r3]) (h1 : ResIs P tmps w r1 v1) (h2 : ResIs P tmps w r2 v2) (h3 : ResIs P tmps w r3 v3) :
    (results fn tmps).run P w = .ok (.tuple #[v1, v2, v3]) w := by
  cases h1 <;> cases h2 <;> cases h3 <;> simp_all [results, asAddr]
end
section
variable {P : Program} {ops : Array Oper} {rest : List Oper} {o : Oper} {a : Act} {w : World} {Q : Exit → Act → World → Prop}
theorem putL_all {c : Array Value} {vs : List Value} (h : vs.length = c.size) : putL c 0 vs = vs.toArray := by
  apply Array.ext_getElem?
  intro j
  rw [putL_at vs c 0 j (by omega)]
  by_cases hj : j < vs.length
  · rw [if_pos (by omega)]; simp
  · rw [if_neg (by omega), Array.getElem?_eq_none (by omega)]; simp; omega
theorem exec_store_blk {ty T : TypeId} {x y : Operand} {b : Nat} {old new : Array Value} {X : HProp} (ho : o.op = .store ty x y) (hx : a.eval x = .pointer (some ⟨b, 0, none⟩)) (hy : a.eval y = .agg new) (hS : Sat w (pts b (.cells old T (0, 0)) * X))
    (hi : (P.info? ty).map (·.size) = some new.size) (hs : new.size = old.size) (h1 : ∀ v ∈ new.toList, v.oneCell' = true) :
    ∃ w', (execOp a.eval o).run P w = .ok .skip w' ∧ Same w w' ∧ Sat w' (pts b (.cells new T (0, 0)) * X) := by
  refine ⟨w.setCells b 0 new.toList, exec_store ho hx hy (run_storeAt_mid w b 0 ty new ?_ hi (Array.all_eq_true_iff_forall_mem.2 (fun v hv => h1 v (by simpa using hv)))), Same.setCells _ (Same.refl w), ?_⟩
  · intro j hj
    rw [Nat.zero_add]
    refine ⟨?_, thawed_at hS.block j⟩
    rw [cells_at hS.block j]; simp; omega
  · have h := hS.setCells new.toList (o := 0)
    rw [putL_all (by rw [Array.length_toList]; exact hs)] at h
    exact h
end
section
variable {P : Program} {ops : Array Oper} {Q : Exit → Act → World → Prop} {S : World → Prop} {fuel : Nat} {listed : Array Bool} {t : Array Value} {df : List Deferred} {w : World}
theorem reg_store_blk (i : Nat) {o : Oper} {ty T : TypeId} {x y : Operand} {b : Nat} {old new : Array Value} {X : HProp} (ho : ops[i]? = some o) (hd : o.dst = none) (hck : aloneOK ops listed i = true) (hw : Region.wanted o (yielded ops t) = true)
    (hop : o.op = .store ty x y) (hx : Act.eval ⟨t, df⟩ x = .pointer (some ⟨b, 0, none⟩)) (hy : Act.eval ⟨t, df⟩ y = .agg new) (hS : Sat w (pts b (.cells old T (0, 0)) * X))
    (hi : (P.info? ty).map (·.size) = some new.size) (hs : new.size = old.size) (h1 : ∀ v ∈ new.toList, v.oneCell' = true)
    (k : ∀ w', Hid (Same w w' ∧ Sat w' (pts b (.cells new T (0, 0)) * X)) → S w' ∧ Reg P ops Q S fuel (listed.setIfInBounds i true) t df w') : Reg P ops Q S (fuel + 1) listed t df w := by
  obtain ⟨w', hr, h2, h3⟩ := exec_store_blk (P := P) hop hx hy hS hi hs h1
  obtain ⟨h4, h5⟩ := k w' ⟨h2, h3⟩
  exact reg_do i w' ho hd hck hw hr h4 h5
end
end Go.Sl
