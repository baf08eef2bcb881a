import Derived.Test.YtednjhlkhecihaaGreatDoorEc
/- tree.differ, level 1. Printed by ec.py. -/
namespace Go.Proofs.YtednjhlkhecihaaGreatDoor
open Go.RowKit Go.Vol Go.Shelf Go.Sl
attribute [local go_sem] Oper.semAt_some

set_option maxRecDepth 100000 in
set_option maxHeartbeats 4000000 in
theorem diff1_in (F : Fence) (hF : Free F Tryz.prog) (l n₀ N : Nat) (J Jx : List (Nat × Int) → World → Prop) (hG : Grows J) (hn0 : 0 < n₀) (hY : DAsks F l n₀ N J Jx) (ih : DWalks F l n₀ N J Jx 0) : DWalks F l n₀ N J Jx 1 := by
  intro n va vb ma mb first pre W hna hnb hT hfi hsz hJ hN
  have HIH := Lib.hid ih
  clear ih
  have hro := hF.round
  have hfn := hF.fn
  have hf := hF.fn 99
  have hdd : ∀ k : Nat, (F.depth.isSome = true → 1 ≤ k) := fun k h => by rw [hF.depth] at h; cases h
  have hQ : (16 : Nat) ^ (1 + 1) = 256 := by decide
  rw [hQ] at hfi hN
  obtain ⟨qa, rfl⟩ := NodeOk.ptr hna
  obtain ⟨qb, rfl⟩ := NodeOk.ptr hnb
  refine callsIn_of_wp Tryz.func99 rfl hf ?_ hro
  simp only [Tryz.ntmps99, List.size_toArray, List.length_cons, List.length_nil, Nat.reduceAdd, Nat.reduceSub, Array.replicate_succ, Array.replicate_zero, List.push_toArray, List.append_toArray, List.nil_append, List.cons_append]
  by_cases hab : qa = qb
  · subst hab
    have hnil : itemsF 256 first (dm ma mb) = [] := itemsF_nil first _ fun i hi => dm_none (NodeOk.inj hna hnb i (by rw [hQ]; exact hi))
    have HX := Lib.hid hnil
    clear hnil hdd hna hnb hT hY hQ
    cases qa with
    | none =>
      gi_wp2
      go_ret
      refine .inl ⟨rfl, ?_, KeepT.refl _ _ _⟩
      rw [HX.out, List.append_nil]; exact hJ
    | some ad =>
      have heq := eql_same ad W
      gi_wp2
      go_ret
      refine .inl ⟨rfl, ?_, KeepT.refl _ _ _⟩
      rw [HX.out, List.append_nil]; exact hJ
  · clear hQ
    cases qa with
    | none =>
      cases qb with
      | none => exact absurd rfl hab
      | some ab =>
        obtain ⟨bb, rfl, -, -, -⟩ := NodeOk.block hnb
        have heq := eql_nil_some ⟨bb, 0, none⟩ W
        obtain ⟨ba, hbz⟩ : ∃ b, b = W.heap.size := ⟨_, rfl⟩
        obtain ⟨W1, hW1⟩ : ∃ W1, W1 = W.alloc (.cells (nodeC 0 nils zers) TNode) := ⟨_, rfl⟩
        have hK1 : KeepT TNode n₀ W W1 := by rw [hW1]; exact (KeepT.refl _ _ W).alloc hsz _
        have hJ1 : J pre W1 := by rw [hW1]; exact hG _ _ _ hJ (World.grownBy_alloc W _ none)
        have hT1 : TabW W1 := hT.keep (hK1.bel.block 0 hn0)
        have hA1 : NodeV TNode (· < n₀) W1 1 ba ma := NodeV.none (by rw [hW1, hbz]; exact World.alloc_heap_new W _) (NodeOk.nil hna)
        have hB1 := NodeV.keep hK1 (NodeV.of hnb)
        have hs1 : n₀ ≤ W1.heap.size := Nat.le_trans hsz hK1.bel.size
        have HP := Lib.hid (And.intro hW1 (And.intro hK1 (And.intro hJ1 (And.intro hT1 (And.intro hA1 (And.intro hB1 (And.intro hs1 hbz)))))))
        have HYY := Lib.hid hY
        have HNN := Lib.hid hN
        have hor := u16_or_nat (hasS ma 0) (hasS mb 0) (hasS_lt ma 0) (hasS_lt mb 0)
        clear hna hnb hT hab hJ hY hN hW1 hK1 hJ1 hT1 hA1 hB1 hs1 hbz
        gi_wp2
        obtain ⟨hW1, hK1, hJ1, hT1, hA1, hB1, hs1, hbz⟩ := HP.out
        change Code.wpIn F n Tryz.prog _ _ _ (W.alloc (.cells (nodeC 0 nils zers) TNode))
        rw [← hW1, ← hbz]
        clear hW1 HP hbz
        obtain ⟨ka, la, ga, -⟩ := id hA1
        obtain ⟨kb, lb, gb, -⟩ := id hB1
        obtain ⟨a0, -, -⟩ := nodeC_at ga la
        obtain ⟨b0, -, -⟩ := nodeC_at gb lb
        clear ga gb la lb
        have hS : W1.drew.cell? ⟨ba, 0, none⟩ = some (.int .u16 ((hasS ma 0) : Int)) ∧ W1.drew.cell? ⟨bb, 0, none⟩ = some (.int .u16 ((hasS mb 0) : Int)) := ⟨a0, b0⟩
        refine regi_begin (fun w' => w'.cell? ⟨ba, 0, none⟩ = some (.int .u16 ((hasS ma 0) : Int)) ∧ w'.cell? ⟨bb, 0, none⟩ = some (.int .u16 ((hasS mb 0) : Int))) (by kernel_rfl) ?_
        (apply regi_take hF 0 rfl rfl (by decide +kernel) rfl); (rintro w' ⟨h1, h2⟩; go_simp; rfl); exact hS; simp only [List.setIfInBounds_toArray, List.set_cons_succ, List.set_cons_zero]
        (apply regi_take hF 1 rfl rfl (by decide +kernel) rfl); (rintro w' ⟨h1, h2⟩; go_simp; rfl); exact hS; simp only [List.setIfInBounds_toArray, List.set_cons_succ, List.set_cons_zero]
        (apply regi_take hF 2 rfl rfl (by decide +kernel) rfl); (rintro w' ⟨h1, h2⟩; go_simp; rfl); exact hS; simp only [List.setIfInBounds_toArray, List.set_cons_succ, List.set_cons_zero]
        (apply regi_take hF 3 rfl rfl (by decide +kernel) rfl); (rintro w' ⟨h1, h2⟩; go_simp; rfl); exact hS; simp only [List.setIfInBounds_toArray, List.set_cons_succ, List.set_cons_zero]
        (apply regi_take hF 4 rfl rfl (by decide +kernel) rfl); (rintro w' ⟨h1, h2⟩; go_simp; rfl); exact hS; simp only [List.setIfInBounds_toArray, List.set_cons_succ, List.set_cons_zero]
        (apply regi_take hF 5 rfl rfl (by decide +kernel) rfl); (rintro w' ⟨h1, h2⟩; go_simp; rfl); exact hS; simp only [List.setIfInBounds_toArray, List.set_cons_succ, List.set_cons_zero]
        (apply regi_take hF 6 rfl rfl (by decide +kernel) rfl); (rintro w' ⟨h1, h2⟩; go_simp; rfl); exact hS; simp only [List.setIfInBounds_toArray, List.set_cons_succ, List.set_cons_zero]
        (apply regi_take hF 7 rfl rfl (by decide +kernel) rfl); (rintro w' ⟨h1, h2⟩; go_simp; rfl); exact hS; simp only [List.setIfInBounds_toArray, List.set_cons_succ, List.set_cons_zero]
        (apply regi_take hF 8 rfl rfl (by decide +kernel) rfl); (rintro w' ⟨h1, h2⟩; go_simp; rfl); exact hS; simp only [List.setIfInBounds_toArray, List.set_cons_succ, List.set_cons_zero]
        (apply regi_take hF 9 rfl rfl (by decide +kernel) rfl); (rintro w' ⟨h1, h2⟩; go_simp; rfl); exact hS; simp only [List.setIfInBounds_toArray, List.set_cons_succ, List.set_cons_zero]
        refine regi_done (by decide +kernel) ?_
        clear hS a0 b0
        have hK2 : KeepT TNode n₀ W W1.drew := hK1.trans (KeepT.drew _ _ _)
        have hJ2 : J pre W1.drew := hG _ _ _ hJ1 ⟨rfl, rfl, rfl, Nat.le_refl _, fun _ _ _ => rfl⟩
        have hT2 : TabW W1.drew := hT1
        have hA2 : NodeV TNode (· < n₀) W1.drew 1 ba ma := NodeV.keep (KeepT.drew _ _ _) hA1
        have hB2 : NodeV TNode (· < n₀) W1.drew 1 bb mb := NodeV.keep (KeepT.drew _ _ _) hB1
        have hs2 : n₀ ≤ W1.drew.heap.size := hs1
        clear hK1 hJ1 hT1 hA1 hB1 hs1
        generalize W1.drew = W2 at *
        have hst : DiffSt n₀ J 16 first ((hasS ma 0) ||| (hasS mb 0)) (dm ma mb) pre W2 (.int .u16 (((hasS ma 0) ||| (hasS mb 0) : Nat) : Int)) W2 := ⟨⟨0, _, by omega, BitsFrom.start (Nat.or_lt_two_pow (n := 16) (hasS_lt ma 0) (hasS_lt mb 0)), rfl, by rw [Nat.zero_mul, itemsF_zero, List.append_nil]; exact hJ2, KeepT.refl _ _ _⟩⟩
        have HP := Lib.hid (And.intro hK2 (And.intro hT2 (And.intro hA2 (And.intro hB2 hs2))))
        have HST := Lib.hid hst
        clear hK2 hT2 hA2 hB2 hs2 hJ2 hst hor
        gi_wp2
        gi_loopw [12, 13, 14, 45, 66] (fun v _ _ _ _ wr => DiffSt n₀ J 16 first ((hasS ma 0) ||| (hasS mb 0)) (dm ma mb) pre W2 v wr) (fun v _ _ _ _ _ => (intOf v).toNat)
        case atStart => exact HST.out
        case round =>
          clear HST
          obtain ⟨j, both, hj, hbf, rfl, hJs, hkw⟩ := hrel.st
          clear hrel
          by_cases hb0 : both = 0
          · subst hb0
            have hz := hbf.zero
            have hx : itemsF 256 first (dm ma mb) = itemsF (j * 16) first (dm ma mb) := by
              have h := itemsF_skipS (m := dm ma mb) (first := first) (L := 0) (a := j) (16 - j) fun i h1 h2 => by
                have h3 := hz i h1
                rw [Nat.testBit_or, hasS_bit ma 0 (by omega), hasS_bit mb 0 (by omega), Bool.or_eq_false_iff] at h3
                rw [dm_sub]
                exact anyB_dm h3.1 h3.2
              rw [show j + (16 - j) = 16 by omega, show (16 : Nat) ^ (0 + 1) = 16 by decide] at h
              exact h
            have HX := Lib.hid hx
            have hdone := HP.out.1.trans hkw
            clear hz hx hbf
            gi_wp2
            go_ret
            exact .inl ⟨rfl, by rw [HX.out]; exact hJs, hdone⟩
          · have htz := tz16_any both hb0 hbf.lt wr (HP.out.2.1.keep (hkw.bel.block 0 hn0))
            obtain ⟨hjk, hk16, hbk, hskip, hnext⟩ := hbf.next hb0
            have hA3 := NodeV.keep hkw HP.out.2.2.1
            have hB3 := NodeV.keep hkw HP.out.2.2.2.1
            have hbl := hbf.lt
            generalize Lib.ctz 16 both = k at *
            have hand := u16_and_nat both (both - 1) hbl (by omega)
            have hsub : ((both - 1 : Nat) : Int) = (both : Int) - 1 := by omega
            rw [hsub] at hand
            have hxk : itemsF (k * 16) first (dm ma mb) = itemsF (j * 16) first (dm ma mb) := by
              have h := itemsF_skipS (m := dm ma mb) (first := first) (L := 0) (a := j) (k - j) fun i h1 h2 => by
                have h3 := hskip i h1 (by omega)
                rw [Nat.testBit_or, hasS_bit ma 0 (by omega), hasS_bit mb 0 (by omega), Bool.or_eq_false_iff] at h3
                rw [dm_sub]
                exact anyB_dm h3.1 h3.2
              rw [show j + (k - j) = k by omega, show (16 : Nat) ^ (0 + 1) = 16 by decide] at h
              exact h
            rw [← hxk] at hJs
            have HXK := Lib.hid hxk
            have HTZ := Lib.hid htz
            have HN := Lib.hid hnext
            have hki : (k : Int) < 16 := by omega
            have hbi : ((both : Int) == 0) = false := by simpa using hb0
            have hb1 : (1 : Int) ≤ (both : Int) := by omega
            obtain ⟨ka, la, ga, fa⟩ := hA3
            obtain ⟨kb, lb, gb, fb⟩ := hB3
            obtain ⟨-, a1, -⟩ := nodeC_at ga la
            obtain ⟨-, b1, -⟩ := nodeC_at gb lb
            obtain ⟨kda, hkda⟩ : ∃ kd, ka[k]? = some kd := ⟨_, List.getElem?_eq_getElem (by rw [la]; exact hk16)⟩
            obtain ⟨kdb, hkdb⟩ : ∃ kd, kb[k]? = some kd := ⟨_, List.getElem?_eq_getElem (by rw [lb]; exact hk16)⟩
            have a17 := a1 _ _ hkda
            have b17 := b1 _ _ hkdb
            have hna := fa _ _ hkda
            have hnb := fb _ _ hkdb
            obtain ⟨qa, rfl⟩ := NodeOk.ptr hna
            obtain ⟨qb, rfl⟩ := NodeOk.ptr hnb
            have hx : itemsF ((k + 1) * 16) first (dm ma mb) = itemsF (k * 16) first (dm ma mb) ++ itemsF 16 (first + k * 16) (dm (sub ma 0 k) (sub mb 0 k)) := by
              have h := itemsF_sub (dm ma mb) 0 k first
              rw [dm_sub] at h
              exact h
            have hlen := itemsF_lenle (m := dm ma mb) (first := first) (a := (k + 1) * 16) (b := 256) (by omega)
            have hJd : J (pre ++ itemsF (k * 16) first (dm ma mb)) wr.drew := hG _ _ _ hJs ⟨rfl, rfl, rfl, Nat.le_refl _, fun _ _ _ => rfl⟩
            have hC := HIH.out (n - 1) (.pointer qa) (.pointer qb) (sub ma 0 k) (sub mb 0 k) (first + k * 16) (pre ++ itemsF (k * 16) first (dm ma mb)) wr.drew (hna.keep fun _ _ _ => rfl) (hnb.keep fun _ _ _ => rfl) (HP.out.2.1.keep (hkw.bel.block 0 hn0)) (by rw [show (16 : Nat) ^ (0 + 1) = 16 from by decide]; omega)
              (Nat.le_trans HP.out.2.2.2.2 hkw.bel.size) hJd (by have := HNN.out; rw [hx] at hlen; rw [show (16 : Nat) ^ (0 + 1) = 16 from by decide]; simp at hlen ⊢; omega)
            rw [show (16 : Nat) ^ (0 + 1) = 16 from by decide, Int.natCast_add, Int.natCast_mul] at hC
            have HC := Lib.hid hC
            have HXS := Lib.hid hx
            clear hskip hnext hbf htz hsub a1 b1 hxk hx hlen hJd hC hna hnb ga gb fa fb hkda hkdb la lb hbk
            gi_upto_region 14 with (first | ((try refine ⟨hdd _, ?_⟩); gi_at_call 105; refine (hF.calls _ _ _ _ _ HTZ.out).mono ?_; rintro e w' ⟨rfl, rfl⟩))
            have hS : w'.drew.cell? ⟨ba, 1 + k, none⟩ = some (.pointer qa) ∧ w'.drew.cell? ⟨bb, 1 + k, none⟩ = some (.pointer qb) := ⟨a17, b17⟩
            refine regi_begin (fun w' => w'.cell? ⟨ba, 1 + k, none⟩ = some (.pointer qa) ∧ w'.cell? ⟨bb, 1 + k, none⟩ = some (.pointer qb)) (by kernel_rfl) ?_
            (apply regi_take hF 0 rfl rfl (by decide +kernel) rfl); (rintro w' ⟨h1, h2⟩; go_simp; rfl); exact hS; simp only [List.setIfInBounds_toArray, List.set_cons_succ, List.set_cons_zero]
            (apply regi_take hF 1 rfl rfl (by decide +kernel) rfl); (rintro w' ⟨h1, h2⟩; go_simp; rfl); exact hS; simp only [List.setIfInBounds_toArray, List.set_cons_succ, List.set_cons_zero]
            (apply regi_take hF 2 rfl rfl (by decide +kernel) rfl); (rintro w' ⟨h1, h2⟩; go_simp; rfl); exact hS; simp only [List.setIfInBounds_toArray, List.set_cons_succ, List.set_cons_zero]
            (apply regi_take hF 3 rfl rfl (by decide +kernel) rfl); (rintro w' ⟨h1, h2⟩; go_simp; rfl); exact hS; simp only [List.setIfInBounds_toArray, List.set_cons_succ, List.set_cons_zero]
            (apply regi_take hF 4 rfl rfl (by decide +kernel) rfl); (rintro w' ⟨h1, h2⟩; go_simp; rfl); exact hS; simp only [List.setIfInBounds_toArray, List.set_cons_succ, List.set_cons_zero]
            (apply regi_take hF 5 rfl rfl (by decide +kernel) rfl); (rintro w' ⟨h1, h2⟩; go_simp; rfl); exact hS; simp only [List.setIfInBounds_toArray, List.set_cons_succ, List.set_cons_zero]
            (apply regi_take hF 6 rfl rfl (by decide +kernel) rfl); (rintro w' ⟨h1, h2⟩; go_simp; rfl); exact hS; simp only [List.setIfInBounds_toArray, List.set_cons_succ, List.set_cons_zero]
            (apply regi_take hF 7 rfl rfl (by decide +kernel) rfl); (rintro w' ⟨h1, h2⟩; go_simp; rfl); exact hS; simp only [List.setIfInBounds_toArray, List.set_cons_succ, List.set_cons_zero]
            (apply regi_take hF 8 rfl rfl (by decide +kernel) rfl); (rintro w' ⟨h1, h2⟩; go_simp; rfl); exact hS; simp only [List.setIfInBounds_toArray, List.set_cons_succ, List.set_cons_zero]
            (apply regi_take hF 9 rfl rfl (by decide +kernel) rfl); (rintro w' ⟨h1, h2⟩; go_simp; rfl); exact hS; simp only [List.setIfInBounds_toArray, List.set_cons_succ, List.set_cons_zero]
            (apply regi_take hF 10 rfl rfl (by decide +kernel) rfl); (rintro w' ⟨h1, h2⟩; go_simp; rfl); exact hS; simp only [List.setIfInBounds_toArray, List.set_cons_succ, List.set_cons_zero]
            (apply regi_take hF 11 rfl rfl (by decide +kernel) rfl); (rintro w' ⟨h1, h2⟩; go_simp; rfl); exact hS; simp only [List.setIfInBounds_toArray, List.set_cons_succ, List.set_cons_zero]
            (apply regi_take hF 12 rfl rfl (by decide +kernel) rfl); (rintro w' ⟨h1, h2⟩; go_simp; rfl); exact hS; simp only [List.setIfInBounds_toArray, List.set_cons_succ, List.set_cons_zero]
            (apply regi_take hF 13 rfl rfl (by decide +kernel) rfl); (rintro w' ⟨h1, h2⟩; go_simp; rfl); exact hS; simp only [List.setIfInBounds_toArray, List.set_cons_succ, List.set_cons_zero]
            (apply regi_take hF 14 rfl rfl (by decide +kernel) rfl); (rintro w' ⟨h1, h2⟩; go_simp; rfl); exact hS; simp only [List.setIfInBounds_toArray, List.set_cons_succ, List.set_cons_zero]
            (apply regi_take hF 15 rfl rfl (by decide +kernel) rfl); (rintro w' ⟨h1, h2⟩; go_simp; rfl); exact hS; simp only [List.setIfInBounds_toArray, List.set_cons_succ, List.set_cons_zero]
            refine regi_callP hF 16 rfl rfl (by decide +kernel) (by decide +kernel) rfl (f := 99) (args := #[.pointer qa, .pointer qb, .int .i64 0, .int .i64 ((first : Int) + (k : Int) * 16), .func (.yield l) #[] #[]]) (R := fun v W3 => (v = .bool true ∧ Hid (J (pre ++ itemsF (k * 16) first (dm ma mb) ++ itemsF 16 (first + k * 16) (dm (sub ma 0 k) (sub mb 0 k))) W3 ∧ KeepT TNode n₀ w'.drew W3)) ∨ (v = .bool false ∧ Hid (∃ q, q <+: itemsF 16 (first + k * 16) (dm (sub ma 0 k) (sub mb 0 k)) ∧ Jx (pre ++ itemsF (k * 16) first (dm ma mb) ++ q) W3))) (by kernel_rfl) (HC.out.mono fun e W3 h => by
              rcases h with ⟨rfl, h1, h2⟩ | ⟨rfl, h1⟩
              · exact ⟨_, rfl, .inl ⟨rfl, Lib.hid ⟨h1, h2⟩⟩⟩
              · exact ⟨_, rfl, .inr ⟨rfl, Lib.hid h1⟩⟩) ?_
            have hkd : KeepT TNode n₀ W2 w'.drew := hkw.trans (KeepT.drew _ _ _)
            clear hS a17 b17 HC
            rintro _ W3 (⟨rfl, h3⟩ | ⟨rfl, h3⟩)
            · simp only [List.setIfInBounds_toArray, List.set_cons_succ, List.set_cons_zero]
              refine regi_runP hF 17 (.bool false) rfl rfl (by decide +kernel) (by decide +kernel) rfl (by kernel_rfl) ?_
              simp only [List.setIfInBounds_toArray, List.set_cons_succ, List.set_cons_zero]
              refine regi_done (by decide +kernel) ?_
              gi_wp2
              refine ⟨⟨⟨k + 1, _, by omega, HN.out, rfl, by rw [HXS.out, ← List.append_assoc]; exact h3.out.1, hkd.trans h3.out.2⟩⟩, ?_⟩
              simp only [intOf]
              have := Nat.and_le_right (n := both) (m := both - 1)
              omega
            · simp only [List.setIfInBounds_toArray, List.set_cons_succ, List.set_cons_zero]
              refine regi_runP hF 17 (.bool true) rfl rfl (by decide +kernel) (by decide +kernel) rfl (by kernel_rfl) ?_
              simp only [List.setIfInBounds_toArray, List.set_cons_succ, List.set_cons_zero]
              refine regi_done (by decide +kernel) ?_
              gi_wp2
              go_ret
              obtain ⟨q, hq, hjx⟩ := h3.out
              exact .inr ⟨rfl, itemsF (k * 16) first (dm ma mb) ++ q, (List.prefix_append_right_inj _).2 hq |>.trans (by rw [← HXS.out]; exact itemsF_prefix (by omega)), by rw [← List.append_assoc]; exact hjx⟩
    | some aa =>
      obtain ⟨ba, rfl, -, -, -⟩ := NodeOk.block hna
      cases qb with
      | none =>
        obtain ⟨bb, hbz⟩ : ∃ b, b = W.heap.size := ⟨_, rfl⟩
        obtain ⟨W1, hW1⟩ : ∃ W1, W1 = W.alloc (.cells (nodeC 0 nils zers) TNode) := ⟨_, rfl⟩
        have hK1 : KeepT TNode n₀ W W1 := by rw [hW1]; exact (KeepT.refl _ _ W).alloc hsz _
        have hJ1 : J pre W1 := by rw [hW1]; exact hG _ _ _ hJ (World.grownBy_alloc W _ none)
        have hT1 : TabW W1 := hT.keep (hK1.bel.block 0 hn0)
        have hA1 := NodeV.keep hK1 (NodeV.of hna)
        have hB1 : NodeV TNode (· < n₀) W1 1 bb mb := NodeV.none (by rw [hW1, hbz]; exact World.alloc_heap_new W _) (NodeOk.nil hnb)
        have hs1 : n₀ ≤ W1.heap.size := Nat.le_trans hsz hK1.bel.size
        have HP := Lib.hid (And.intro hW1 (And.intro hK1 (And.intro hJ1 (And.intro hT1 (And.intro hA1 (And.intro hB1 (And.intro hs1 hbz)))))))
        have HYY := Lib.hid hY
        have HNN := Lib.hid hN
        have hor := u16_or_nat (hasS ma 0) (hasS mb 0) (hasS_lt ma 0) (hasS_lt mb 0)
        clear hna hnb hT hab hJ hY hN hW1 hK1 hJ1 hT1 hA1 hB1 hs1 hbz
        gi_wp2
        obtain ⟨hW1, hK1, hJ1, hT1, hA1, hB1, hs1, hbz⟩ := HP.out
        change Code.wpIn F n Tryz.prog _ _ _ (W.alloc (.cells (nodeC 0 nils zers) TNode))
        rw [← hW1, ← hbz]
        clear hW1 HP hbz
        obtain ⟨ka, la, ga, -⟩ := id hA1
        obtain ⟨kb, lb, gb, -⟩ := id hB1
        obtain ⟨a0, -, -⟩ := nodeC_at ga la
        obtain ⟨b0, -, -⟩ := nodeC_at gb lb
        clear ga gb la lb
        have hS : W1.drew.cell? ⟨ba, 0, none⟩ = some (.int .u16 ((hasS ma 0) : Int)) ∧ W1.drew.cell? ⟨bb, 0, none⟩ = some (.int .u16 ((hasS mb 0) : Int)) := ⟨a0, b0⟩
        refine regi_begin (fun w' => w'.cell? ⟨ba, 0, none⟩ = some (.int .u16 ((hasS ma 0) : Int)) ∧ w'.cell? ⟨bb, 0, none⟩ = some (.int .u16 ((hasS mb 0) : Int))) (by kernel_rfl) ?_
        (apply regi_take hF 0 rfl rfl (by decide +kernel) rfl); (rintro w' ⟨h1, h2⟩; go_simp; rfl); exact hS; simp only [List.setIfInBounds_toArray, List.set_cons_succ, List.set_cons_zero]
        (apply regi_take hF 1 rfl rfl (by decide +kernel) rfl); (rintro w' ⟨h1, h2⟩; go_simp; rfl); exact hS; simp only [List.setIfInBounds_toArray, List.set_cons_succ, List.set_cons_zero]
        (apply regi_take hF 2 rfl rfl (by decide +kernel) rfl); (rintro w' ⟨h1, h2⟩; go_simp; rfl); exact hS; simp only [List.setIfInBounds_toArray, List.set_cons_succ, List.set_cons_zero]
        (apply regi_take hF 3 rfl rfl (by decide +kernel) rfl); (rintro w' ⟨h1, h2⟩; go_simp; rfl); exact hS; simp only [List.setIfInBounds_toArray, List.set_cons_succ, List.set_cons_zero]
        (apply regi_take hF 4 rfl rfl (by decide +kernel) rfl); (rintro w' ⟨h1, h2⟩; go_simp; rfl); exact hS; simp only [List.setIfInBounds_toArray, List.set_cons_succ, List.set_cons_zero]
        (apply regi_take hF 5 rfl rfl (by decide +kernel) rfl); (rintro w' ⟨h1, h2⟩; go_simp; rfl); exact hS; simp only [List.setIfInBounds_toArray, List.set_cons_succ, List.set_cons_zero]
        (apply regi_take hF 6 rfl rfl (by decide +kernel) rfl); (rintro w' ⟨h1, h2⟩; go_simp; rfl); exact hS; simp only [List.setIfInBounds_toArray, List.set_cons_succ, List.set_cons_zero]
        (apply regi_take hF 7 rfl rfl (by decide +kernel) rfl); (rintro w' ⟨h1, h2⟩; go_simp; rfl); exact hS; simp only [List.setIfInBounds_toArray, List.set_cons_succ, List.set_cons_zero]
        (apply regi_take hF 8 rfl rfl (by decide +kernel) rfl); (rintro w' ⟨h1, h2⟩; go_simp; rfl); exact hS; simp only [List.setIfInBounds_toArray, List.set_cons_succ, List.set_cons_zero]
        (apply regi_take hF 9 rfl rfl (by decide +kernel) rfl); (rintro w' ⟨h1, h2⟩; go_simp; rfl); exact hS; simp only [List.setIfInBounds_toArray, List.set_cons_succ, List.set_cons_zero]
        refine regi_done (by decide +kernel) ?_
        clear hS a0 b0
        have hK2 : KeepT TNode n₀ W W1.drew := hK1.trans (KeepT.drew _ _ _)
        have hJ2 : J pre W1.drew := hG _ _ _ hJ1 ⟨rfl, rfl, rfl, Nat.le_refl _, fun _ _ _ => rfl⟩
        have hT2 : TabW W1.drew := hT1
        have hA2 : NodeV TNode (· < n₀) W1.drew 1 ba ma := NodeV.keep (KeepT.drew _ _ _) hA1
        have hB2 : NodeV TNode (· < n₀) W1.drew 1 bb mb := NodeV.keep (KeepT.drew _ _ _) hB1
        have hs2 : n₀ ≤ W1.drew.heap.size := hs1
        clear hK1 hJ1 hT1 hA1 hB1 hs1
        generalize W1.drew = W2 at *
        have hst : DiffSt n₀ J 16 first ((hasS ma 0) ||| (hasS mb 0)) (dm ma mb) pre W2 (.int .u16 (((hasS ma 0) ||| (hasS mb 0) : Nat) : Int)) W2 := ⟨⟨0, _, by omega, BitsFrom.start (Nat.or_lt_two_pow (n := 16) (hasS_lt ma 0) (hasS_lt mb 0)), rfl, by rw [Nat.zero_mul, itemsF_zero, List.append_nil]; exact hJ2, KeepT.refl _ _ _⟩⟩
        have HP := Lib.hid (And.intro hK2 (And.intro hT2 (And.intro hA2 (And.intro hB2 hs2))))
        have HST := Lib.hid hst
        clear hK2 hT2 hA2 hB2 hs2 hJ2 hst hor
        gi_wp2
        gi_loopw [12, 13, 14, 45, 66] (fun v _ _ _ _ wr => DiffSt n₀ J 16 first ((hasS ma 0) ||| (hasS mb 0)) (dm ma mb) pre W2 v wr) (fun v _ _ _ _ _ => (intOf v).toNat)
        case atStart => exact HST.out
        case round =>
          clear HST
          obtain ⟨j, both, hj, hbf, rfl, hJs, hkw⟩ := hrel.st
          clear hrel
          by_cases hb0 : both = 0
          · subst hb0
            have hz := hbf.zero
            have hx : itemsF 256 first (dm ma mb) = itemsF (j * 16) first (dm ma mb) := by
              have h := itemsF_skipS (m := dm ma mb) (first := first) (L := 0) (a := j) (16 - j) fun i h1 h2 => by
                have h3 := hz i h1
                rw [Nat.testBit_or, hasS_bit ma 0 (by omega), hasS_bit mb 0 (by omega), Bool.or_eq_false_iff] at h3
                rw [dm_sub]
                exact anyB_dm h3.1 h3.2
              rw [show j + (16 - j) = 16 by omega, show (16 : Nat) ^ (0 + 1) = 16 by decide] at h
              exact h
            have HX := Lib.hid hx
            have hdone := HP.out.1.trans hkw
            clear hz hx hbf
            gi_wp2
            go_ret
            exact .inl ⟨rfl, by rw [HX.out]; exact hJs, hdone⟩
          · have htz := tz16_any both hb0 hbf.lt wr (HP.out.2.1.keep (hkw.bel.block 0 hn0))
            obtain ⟨hjk, hk16, hbk, hskip, hnext⟩ := hbf.next hb0
            have hA3 := NodeV.keep hkw HP.out.2.2.1
            have hB3 := NodeV.keep hkw HP.out.2.2.2.1
            have hbl := hbf.lt
            generalize Lib.ctz 16 both = k at *
            have hand := u16_and_nat both (both - 1) hbl (by omega)
            have hsub : ((both - 1 : Nat) : Int) = (both : Int) - 1 := by omega
            rw [hsub] at hand
            have hxk : itemsF (k * 16) first (dm ma mb) = itemsF (j * 16) first (dm ma mb) := by
              have h := itemsF_skipS (m := dm ma mb) (first := first) (L := 0) (a := j) (k - j) fun i h1 h2 => by
                have h3 := hskip i h1 (by omega)
                rw [Nat.testBit_or, hasS_bit ma 0 (by omega), hasS_bit mb 0 (by omega), Bool.or_eq_false_iff] at h3
                rw [dm_sub]
                exact anyB_dm h3.1 h3.2
              rw [show j + (k - j) = k by omega, show (16 : Nat) ^ (0 + 1) = 16 by decide] at h
              exact h
            rw [← hxk] at hJs
            have HXK := Lib.hid hxk
            have HTZ := Lib.hid htz
            have HN := Lib.hid hnext
            have hki : (k : Int) < 16 := by omega
            have hbi : ((both : Int) == 0) = false := by simpa using hb0
            have hb1 : (1 : Int) ≤ (both : Int) := by omega
            obtain ⟨ka, la, ga, fa⟩ := hA3
            obtain ⟨kb, lb, gb, fb⟩ := hB3
            obtain ⟨-, a1, -⟩ := nodeC_at ga la
            obtain ⟨-, b1, -⟩ := nodeC_at gb lb
            obtain ⟨kda, hkda⟩ : ∃ kd, ka[k]? = some kd := ⟨_, List.getElem?_eq_getElem (by rw [la]; exact hk16)⟩
            obtain ⟨kdb, hkdb⟩ : ∃ kd, kb[k]? = some kd := ⟨_, List.getElem?_eq_getElem (by rw [lb]; exact hk16)⟩
            have a17 := a1 _ _ hkda
            have b17 := b1 _ _ hkdb
            have hna := fa _ _ hkda
            have hnb := fb _ _ hkdb
            obtain ⟨qa, rfl⟩ := NodeOk.ptr hna
            obtain ⟨qb, rfl⟩ := NodeOk.ptr hnb
            have hx : itemsF ((k + 1) * 16) first (dm ma mb) = itemsF (k * 16) first (dm ma mb) ++ itemsF 16 (first + k * 16) (dm (sub ma 0 k) (sub mb 0 k)) := by
              have h := itemsF_sub (dm ma mb) 0 k first
              rw [dm_sub] at h
              exact h
            have hlen := itemsF_lenle (m := dm ma mb) (first := first) (a := (k + 1) * 16) (b := 256) (by omega)
            have hJd : J (pre ++ itemsF (k * 16) first (dm ma mb)) wr.drew := hG _ _ _ hJs ⟨rfl, rfl, rfl, Nat.le_refl _, fun _ _ _ => rfl⟩
            have hC := HIH.out (n - 1) (.pointer qa) (.pointer qb) (sub ma 0 k) (sub mb 0 k) (first + k * 16) (pre ++ itemsF (k * 16) first (dm ma mb)) wr.drew (hna.keep fun _ _ _ => rfl) (hnb.keep fun _ _ _ => rfl) (HP.out.2.1.keep (hkw.bel.block 0 hn0)) (by rw [show (16 : Nat) ^ (0 + 1) = 16 from by decide]; omega)
              (Nat.le_trans HP.out.2.2.2.2 hkw.bel.size) hJd (by have := HNN.out; rw [hx] at hlen; rw [show (16 : Nat) ^ (0 + 1) = 16 from by decide]; simp at hlen ⊢; omega)
            rw [show (16 : Nat) ^ (0 + 1) = 16 from by decide, Int.natCast_add, Int.natCast_mul] at hC
            have HC := Lib.hid hC
            have HXS := Lib.hid hx
            clear hskip hnext hbf htz hsub a1 b1 hxk hx hlen hJd hC hna hnb ga gb fa fb hkda hkdb la lb hbk
            gi_upto_region 14 with (first | ((try refine ⟨hdd _, ?_⟩); gi_at_call 105; refine (hF.calls _ _ _ _ _ HTZ.out).mono ?_; rintro e w' ⟨rfl, rfl⟩))
            have hS : w'.drew.cell? ⟨ba, 1 + k, none⟩ = some (.pointer qa) ∧ w'.drew.cell? ⟨bb, 1 + k, none⟩ = some (.pointer qb) := ⟨a17, b17⟩
            refine regi_begin (fun w' => w'.cell? ⟨ba, 1 + k, none⟩ = some (.pointer qa) ∧ w'.cell? ⟨bb, 1 + k, none⟩ = some (.pointer qb)) (by kernel_rfl) ?_
            (apply regi_take hF 0 rfl rfl (by decide +kernel) rfl); (rintro w' ⟨h1, h2⟩; go_simp; rfl); exact hS; simp only [List.setIfInBounds_toArray, List.set_cons_succ, List.set_cons_zero]
            (apply regi_take hF 1 rfl rfl (by decide +kernel) rfl); (rintro w' ⟨h1, h2⟩; go_simp; rfl); exact hS; simp only [List.setIfInBounds_toArray, List.set_cons_succ, List.set_cons_zero]
            (apply regi_take hF 2 rfl rfl (by decide +kernel) rfl); (rintro w' ⟨h1, h2⟩; go_simp; rfl); exact hS; simp only [List.setIfInBounds_toArray, List.set_cons_succ, List.set_cons_zero]
            (apply regi_take hF 3 rfl rfl (by decide +kernel) rfl); (rintro w' ⟨h1, h2⟩; go_simp; rfl); exact hS; simp only [List.setIfInBounds_toArray, List.set_cons_succ, List.set_cons_zero]
            (apply regi_take hF 4 rfl rfl (by decide +kernel) rfl); (rintro w' ⟨h1, h2⟩; go_simp; rfl); exact hS; simp only [List.setIfInBounds_toArray, List.set_cons_succ, List.set_cons_zero]
            (apply regi_take hF 5 rfl rfl (by decide +kernel) rfl); (rintro w' ⟨h1, h2⟩; go_simp; rfl); exact hS; simp only [List.setIfInBounds_toArray, List.set_cons_succ, List.set_cons_zero]
            (apply regi_take hF 6 rfl rfl (by decide +kernel) rfl); (rintro w' ⟨h1, h2⟩; go_simp; rfl); exact hS; simp only [List.setIfInBounds_toArray, List.set_cons_succ, List.set_cons_zero]
            (apply regi_take hF 7 rfl rfl (by decide +kernel) rfl); (rintro w' ⟨h1, h2⟩; go_simp; rfl); exact hS; simp only [List.setIfInBounds_toArray, List.set_cons_succ, List.set_cons_zero]
            (apply regi_take hF 8 rfl rfl (by decide +kernel) rfl); (rintro w' ⟨h1, h2⟩; go_simp; rfl); exact hS; simp only [List.setIfInBounds_toArray, List.set_cons_succ, List.set_cons_zero]
            (apply regi_take hF 9 rfl rfl (by decide +kernel) rfl); (rintro w' ⟨h1, h2⟩; go_simp; rfl); exact hS; simp only [List.setIfInBounds_toArray, List.set_cons_succ, List.set_cons_zero]
            (apply regi_take hF 10 rfl rfl (by decide +kernel) rfl); (rintro w' ⟨h1, h2⟩; go_simp; rfl); exact hS; simp only [List.setIfInBounds_toArray, List.set_cons_succ, List.set_cons_zero]
            (apply regi_take hF 11 rfl rfl (by decide +kernel) rfl); (rintro w' ⟨h1, h2⟩; go_simp; rfl); exact hS; simp only [List.setIfInBounds_toArray, List.set_cons_succ, List.set_cons_zero]
            (apply regi_take hF 12 rfl rfl (by decide +kernel) rfl); (rintro w' ⟨h1, h2⟩; go_simp; rfl); exact hS; simp only [List.setIfInBounds_toArray, List.set_cons_succ, List.set_cons_zero]
            (apply regi_take hF 13 rfl rfl (by decide +kernel) rfl); (rintro w' ⟨h1, h2⟩; go_simp; rfl); exact hS; simp only [List.setIfInBounds_toArray, List.set_cons_succ, List.set_cons_zero]
            (apply regi_take hF 14 rfl rfl (by decide +kernel) rfl); (rintro w' ⟨h1, h2⟩; go_simp; rfl); exact hS; simp only [List.setIfInBounds_toArray, List.set_cons_succ, List.set_cons_zero]
            (apply regi_take hF 15 rfl rfl (by decide +kernel) rfl); (rintro w' ⟨h1, h2⟩; go_simp; rfl); exact hS; simp only [List.setIfInBounds_toArray, List.set_cons_succ, List.set_cons_zero]
            refine regi_callP hF 16 rfl rfl (by decide +kernel) (by decide +kernel) rfl (f := 99) (args := #[.pointer qa, .pointer qb, .int .i64 0, .int .i64 ((first : Int) + (k : Int) * 16), .func (.yield l) #[] #[]]) (R := fun v W3 => (v = .bool true ∧ Hid (J (pre ++ itemsF (k * 16) first (dm ma mb) ++ itemsF 16 (first + k * 16) (dm (sub ma 0 k) (sub mb 0 k))) W3 ∧ KeepT TNode n₀ w'.drew W3)) ∨ (v = .bool false ∧ Hid (∃ q, q <+: itemsF 16 (first + k * 16) (dm (sub ma 0 k) (sub mb 0 k)) ∧ Jx (pre ++ itemsF (k * 16) first (dm ma mb) ++ q) W3))) (by kernel_rfl) (HC.out.mono fun e W3 h => by
              rcases h with ⟨rfl, h1, h2⟩ | ⟨rfl, h1⟩
              · exact ⟨_, rfl, .inl ⟨rfl, Lib.hid ⟨h1, h2⟩⟩⟩
              · exact ⟨_, rfl, .inr ⟨rfl, Lib.hid h1⟩⟩) ?_
            have hkd : KeepT TNode n₀ W2 w'.drew := hkw.trans (KeepT.drew _ _ _)
            clear hS a17 b17 HC
            rintro _ W3 (⟨rfl, h3⟩ | ⟨rfl, h3⟩)
            · simp only [List.setIfInBounds_toArray, List.set_cons_succ, List.set_cons_zero]
              refine regi_runP hF 17 (.bool false) rfl rfl (by decide +kernel) (by decide +kernel) rfl (by kernel_rfl) ?_
              simp only [List.setIfInBounds_toArray, List.set_cons_succ, List.set_cons_zero]
              refine regi_done (by decide +kernel) ?_
              gi_wp2
              refine ⟨⟨⟨k + 1, _, by omega, HN.out, rfl, by rw [HXS.out, ← List.append_assoc]; exact h3.out.1, hkd.trans h3.out.2⟩⟩, ?_⟩
              simp only [intOf]
              have := Nat.and_le_right (n := both) (m := both - 1)
              omega
            · simp only [List.setIfInBounds_toArray, List.set_cons_succ, List.set_cons_zero]
              refine regi_runP hF 17 (.bool true) rfl rfl (by decide +kernel) (by decide +kernel) rfl (by kernel_rfl) ?_
              simp only [List.setIfInBounds_toArray, List.set_cons_succ, List.set_cons_zero]
              refine regi_done (by decide +kernel) ?_
              gi_wp2
              go_ret
              obtain ⟨q, hq, hjx⟩ := h3.out
              exact .inr ⟨rfl, itemsF (k * 16) first (dm ma mb) ++ q, (List.prefix_append_right_inj _).2 hq |>.trans (by rw [← HXS.out]; exact itemsF_prefix (by omega)), by rw [← List.append_assoc]; exact hjx⟩
      | some ab =>
        obtain ⟨bb, rfl, -, -, -⟩ := NodeOk.block hnb
        have hne : ba ≠ bb := fun e => hab (by rw [e])
        have heq : (binOp .eql 78 (.pointer (some ⟨ba, 0, none⟩)) (.pointer (some ⟨bb, 0, none⟩))).run Tryz.prog W = .ok (.bool false) W := by
          obtain ⟨ca, h1⟩ := NodeV.cells (NodeV.of hna)
          obtain ⟨cb, h2⟩ := NodeV.cells (NodeV.of hnb)
          exact eql_other hne h1 h2
        obtain ⟨bz, hbz⟩ : ∃ b, b = W.heap.size := ⟨_, rfl⟩
        obtain ⟨W1, hW1⟩ : ∃ W1, W1 = W.alloc (.cells (nodeC 0 nils zers) TNode) := ⟨_, rfl⟩
        have hK1 : KeepT TNode n₀ W W1 := by rw [hW1]; exact (KeepT.refl _ _ W).alloc hsz _
        have hJ1 : J pre W1 := by rw [hW1]; exact hG _ _ _ hJ (World.grownBy_alloc W _ none)
        have hT1 : TabW W1 := hT.keep (hK1.bel.block 0 hn0)
        have hA1 := NodeV.keep hK1 (NodeV.of hna)
        have hB1 := NodeV.keep hK1 (NodeV.of hnb)
        have hs1 : n₀ ≤ W1.heap.size := Nat.le_trans hsz hK1.bel.size
        have HP := Lib.hid (And.intro hW1 (And.intro hK1 (And.intro hJ1 (And.intro hT1 (And.intro hA1 (And.intro hB1 (And.intro hs1 hbz)))))))
        have HYY := Lib.hid hY
        have HNN := Lib.hid hN
        have hor := u16_or_nat (hasS ma 0) (hasS mb 0) (hasS_lt ma 0) (hasS_lt mb 0)
        clear hna hnb hT hab hJ hY hN hW1 hK1 hJ1 hT1 hA1 hB1 hs1 hbz
        gi_wp2
        obtain ⟨hW1, hK1, hJ1, hT1, hA1, hB1, hs1, hbz⟩ := HP.out
        change Code.wpIn F n Tryz.prog _ _ _ (W.alloc (.cells (nodeC 0 nils zers) TNode))
        rw [← hW1, ← hbz]
        clear hW1 HP hbz
        obtain ⟨ka, la, ga, -⟩ := id hA1
        obtain ⟨kb, lb, gb, -⟩ := id hB1
        obtain ⟨a0, -, -⟩ := nodeC_at ga la
        obtain ⟨b0, -, -⟩ := nodeC_at gb lb
        clear ga gb la lb
        have hS : W1.drew.cell? ⟨ba, 0, none⟩ = some (.int .u16 ((hasS ma 0) : Int)) ∧ W1.drew.cell? ⟨bb, 0, none⟩ = some (.int .u16 ((hasS mb 0) : Int)) := ⟨a0, b0⟩
        refine regi_begin (fun w' => w'.cell? ⟨ba, 0, none⟩ = some (.int .u16 ((hasS ma 0) : Int)) ∧ w'.cell? ⟨bb, 0, none⟩ = some (.int .u16 ((hasS mb 0) : Int))) (by kernel_rfl) ?_
        (apply regi_take hF 0 rfl rfl (by decide +kernel) rfl); (rintro w' ⟨h1, h2⟩; go_simp; rfl); exact hS; simp only [List.setIfInBounds_toArray, List.set_cons_succ, List.set_cons_zero]
        (apply regi_take hF 1 rfl rfl (by decide +kernel) rfl); (rintro w' ⟨h1, h2⟩; go_simp; rfl); exact hS; simp only [List.setIfInBounds_toArray, List.set_cons_succ, List.set_cons_zero]
        (apply regi_take hF 2 rfl rfl (by decide +kernel) rfl); (rintro w' ⟨h1, h2⟩; go_simp; rfl); exact hS; simp only [List.setIfInBounds_toArray, List.set_cons_succ, List.set_cons_zero]
        (apply regi_take hF 3 rfl rfl (by decide +kernel) rfl); (rintro w' ⟨h1, h2⟩; go_simp; rfl); exact hS; simp only [List.setIfInBounds_toArray, List.set_cons_succ, List.set_cons_zero]
        (apply regi_take hF 4 rfl rfl (by decide +kernel) rfl); (rintro w' ⟨h1, h2⟩; go_simp; rfl); exact hS; simp only [List.setIfInBounds_toArray, List.set_cons_succ, List.set_cons_zero]
        (apply regi_take hF 5 rfl rfl (by decide +kernel) rfl); (rintro w' ⟨h1, h2⟩; go_simp; rfl); exact hS; simp only [List.setIfInBounds_toArray, List.set_cons_succ, List.set_cons_zero]
        (apply regi_take hF 6 rfl rfl (by decide +kernel) rfl); (rintro w' ⟨h1, h2⟩; go_simp; rfl); exact hS; simp only [List.setIfInBounds_toArray, List.set_cons_succ, List.set_cons_zero]
        (apply regi_take hF 7 rfl rfl (by decide +kernel) rfl); (rintro w' ⟨h1, h2⟩; go_simp; rfl); exact hS; simp only [List.setIfInBounds_toArray, List.set_cons_succ, List.set_cons_zero]
        (apply regi_take hF 8 rfl rfl (by decide +kernel) rfl); (rintro w' ⟨h1, h2⟩; go_simp; rfl); exact hS; simp only [List.setIfInBounds_toArray, List.set_cons_succ, List.set_cons_zero]
        (apply regi_take hF 9 rfl rfl (by decide +kernel) rfl); (rintro w' ⟨h1, h2⟩; go_simp; rfl); exact hS; simp only [List.setIfInBounds_toArray, List.set_cons_succ, List.set_cons_zero]
        refine regi_done (by decide +kernel) ?_
        clear hS a0 b0
        have hK2 : KeepT TNode n₀ W W1.drew := hK1.trans (KeepT.drew _ _ _)
        have hJ2 : J pre W1.drew := hG _ _ _ hJ1 ⟨rfl, rfl, rfl, Nat.le_refl _, fun _ _ _ => rfl⟩
        have hT2 : TabW W1.drew := hT1
        have hA2 : NodeV TNode (· < n₀) W1.drew 1 ba ma := NodeV.keep (KeepT.drew _ _ _) hA1
        have hB2 : NodeV TNode (· < n₀) W1.drew 1 bb mb := NodeV.keep (KeepT.drew _ _ _) hB1
        have hs2 : n₀ ≤ W1.drew.heap.size := hs1
        clear hK1 hJ1 hT1 hA1 hB1 hs1
        generalize W1.drew = W2 at *
        have hst : DiffSt n₀ J 16 first ((hasS ma 0) ||| (hasS mb 0)) (dm ma mb) pre W2 (.int .u16 (((hasS ma 0) ||| (hasS mb 0) : Nat) : Int)) W2 := ⟨⟨0, _, by omega, BitsFrom.start (Nat.or_lt_two_pow (n := 16) (hasS_lt ma 0) (hasS_lt mb 0)), rfl, by rw [Nat.zero_mul, itemsF_zero, List.append_nil]; exact hJ2, KeepT.refl _ _ _⟩⟩
        have HP := Lib.hid (And.intro hK2 (And.intro hT2 (And.intro hA2 (And.intro hB2 hs2))))
        have HST := Lib.hid hst
        clear hK2 hT2 hA2 hB2 hs2 hJ2 hst hor
        gi_wp2
        gi_loopw [12, 13, 14, 45, 66] (fun v _ _ _ _ wr => DiffSt n₀ J 16 first ((hasS ma 0) ||| (hasS mb 0)) (dm ma mb) pre W2 v wr) (fun v _ _ _ _ _ => (intOf v).toNat)
        case atStart => exact HST.out
        case round =>
          clear HST
          obtain ⟨j, both, hj, hbf, rfl, hJs, hkw⟩ := hrel.st
          clear hrel
          by_cases hb0 : both = 0
          · subst hb0
            have hz := hbf.zero
            have hx : itemsF 256 first (dm ma mb) = itemsF (j * 16) first (dm ma mb) := by
              have h := itemsF_skipS (m := dm ma mb) (first := first) (L := 0) (a := j) (16 - j) fun i h1 h2 => by
                have h3 := hz i h1
                rw [Nat.testBit_or, hasS_bit ma 0 (by omega), hasS_bit mb 0 (by omega), Bool.or_eq_false_iff] at h3
                rw [dm_sub]
                exact anyB_dm h3.1 h3.2
              rw [show j + (16 - j) = 16 by omega, show (16 : Nat) ^ (0 + 1) = 16 by decide] at h
              exact h
            have HX := Lib.hid hx
            have hdone := HP.out.1.trans hkw
            clear hz hx hbf
            gi_wp2
            go_ret
            exact .inl ⟨rfl, by rw [HX.out]; exact hJs, hdone⟩
          · have htz := tz16_any both hb0 hbf.lt wr (HP.out.2.1.keep (hkw.bel.block 0 hn0))
            obtain ⟨hjk, hk16, hbk, hskip, hnext⟩ := hbf.next hb0
            have hA3 := NodeV.keep hkw HP.out.2.2.1
            have hB3 := NodeV.keep hkw HP.out.2.2.2.1
            have hbl := hbf.lt
            generalize Lib.ctz 16 both = k at *
            have hand := u16_and_nat both (both - 1) hbl (by omega)
            have hsub : ((both - 1 : Nat) : Int) = (both : Int) - 1 := by omega
            rw [hsub] at hand
            have hxk : itemsF (k * 16) first (dm ma mb) = itemsF (j * 16) first (dm ma mb) := by
              have h := itemsF_skipS (m := dm ma mb) (first := first) (L := 0) (a := j) (k - j) fun i h1 h2 => by
                have h3 := hskip i h1 (by omega)
                rw [Nat.testBit_or, hasS_bit ma 0 (by omega), hasS_bit mb 0 (by omega), Bool.or_eq_false_iff] at h3
                rw [dm_sub]
                exact anyB_dm h3.1 h3.2
              rw [show j + (k - j) = k by omega, show (16 : Nat) ^ (0 + 1) = 16 by decide] at h
              exact h
            rw [← hxk] at hJs
            have HXK := Lib.hid hxk
            have HTZ := Lib.hid htz
            have HN := Lib.hid hnext
            have hki : (k : Int) < 16 := by omega
            have hbi : ((both : Int) == 0) = false := by simpa using hb0
            have hb1 : (1 : Int) ≤ (both : Int) := by omega
            obtain ⟨ka, la, ga, fa⟩ := hA3
            obtain ⟨kb, lb, gb, fb⟩ := hB3
            obtain ⟨-, a1, -⟩ := nodeC_at ga la
            obtain ⟨-, b1, -⟩ := nodeC_at gb lb
            obtain ⟨kda, hkda⟩ : ∃ kd, ka[k]? = some kd := ⟨_, List.getElem?_eq_getElem (by rw [la]; exact hk16)⟩
            obtain ⟨kdb, hkdb⟩ : ∃ kd, kb[k]? = some kd := ⟨_, List.getElem?_eq_getElem (by rw [lb]; exact hk16)⟩
            have a17 := a1 _ _ hkda
            have b17 := b1 _ _ hkdb
            have hna := fa _ _ hkda
            have hnb := fb _ _ hkdb
            obtain ⟨qa, rfl⟩ := NodeOk.ptr hna
            obtain ⟨qb, rfl⟩ := NodeOk.ptr hnb
            have hx : itemsF ((k + 1) * 16) first (dm ma mb) = itemsF (k * 16) first (dm ma mb) ++ itemsF 16 (first + k * 16) (dm (sub ma 0 k) (sub mb 0 k)) := by
              have h := itemsF_sub (dm ma mb) 0 k first
              rw [dm_sub] at h
              exact h
            have hlen := itemsF_lenle (m := dm ma mb) (first := first) (a := (k + 1) * 16) (b := 256) (by omega)
            have hJd : J (pre ++ itemsF (k * 16) first (dm ma mb)) wr.drew := hG _ _ _ hJs ⟨rfl, rfl, rfl, Nat.le_refl _, fun _ _ _ => rfl⟩
            have hC := HIH.out (n - 1) (.pointer qa) (.pointer qb) (sub ma 0 k) (sub mb 0 k) (first + k * 16) (pre ++ itemsF (k * 16) first (dm ma mb)) wr.drew (hna.keep fun _ _ _ => rfl) (hnb.keep fun _ _ _ => rfl) (HP.out.2.1.keep (hkw.bel.block 0 hn0)) (by rw [show (16 : Nat) ^ (0 + 1) = 16 from by decide]; omega)
              (Nat.le_trans HP.out.2.2.2.2 hkw.bel.size) hJd (by have := HNN.out; rw [hx] at hlen; rw [show (16 : Nat) ^ (0 + 1) = 16 from by decide]; simp at hlen ⊢; omega)
            rw [show (16 : Nat) ^ (0 + 1) = 16 from by decide, Int.natCast_add, Int.natCast_mul] at hC
            have HC := Lib.hid hC
            have HXS := Lib.hid hx
            clear hskip hnext hbf htz hsub a1 b1 hxk hx hlen hJd hC hna hnb ga gb fa fb hkda hkdb la lb hbk
            gi_upto_region 14 with (first | ((try refine ⟨hdd _, ?_⟩); gi_at_call 105; refine (hF.calls _ _ _ _ _ HTZ.out).mono ?_; rintro e w' ⟨rfl, rfl⟩))
            have hS : w'.drew.cell? ⟨ba, 1 + k, none⟩ = some (.pointer qa) ∧ w'.drew.cell? ⟨bb, 1 + k, none⟩ = some (.pointer qb) := ⟨a17, b17⟩
            refine regi_begin (fun w' => w'.cell? ⟨ba, 1 + k, none⟩ = some (.pointer qa) ∧ w'.cell? ⟨bb, 1 + k, none⟩ = some (.pointer qb)) (by kernel_rfl) ?_
            (apply regi_take hF 0 rfl rfl (by decide +kernel) rfl); (rintro w' ⟨h1, h2⟩; go_simp; rfl); exact hS; simp only [List.setIfInBounds_toArray, List.set_cons_succ, List.set_cons_zero]
            (apply regi_take hF 1 rfl rfl (by decide +kernel) rfl); (rintro w' ⟨h1, h2⟩; go_simp; rfl); exact hS; simp only [List.setIfInBounds_toArray, List.set_cons_succ, List.set_cons_zero]
            (apply regi_take hF 2 rfl rfl (by decide +kernel) rfl); (rintro w' ⟨h1, h2⟩; go_simp; rfl); exact hS; simp only [List.setIfInBounds_toArray, List.set_cons_succ, List.set_cons_zero]
            (apply regi_take hF 3 rfl rfl (by decide +kernel) rfl); (rintro w' ⟨h1, h2⟩; go_simp; rfl); exact hS; simp only [List.setIfInBounds_toArray, List.set_cons_succ, List.set_cons_zero]
            (apply regi_take hF 4 rfl rfl (by decide +kernel) rfl); (rintro w' ⟨h1, h2⟩; go_simp; rfl); exact hS; simp only [List.setIfInBounds_toArray, List.set_cons_succ, List.set_cons_zero]
            (apply regi_take hF 5 rfl rfl (by decide +kernel) rfl); (rintro w' ⟨h1, h2⟩; go_simp; rfl); exact hS; simp only [List.setIfInBounds_toArray, List.set_cons_succ, List.set_cons_zero]
            (apply regi_take hF 6 rfl rfl (by decide +kernel) rfl); (rintro w' ⟨h1, h2⟩; go_simp; rfl); exact hS; simp only [List.setIfInBounds_toArray, List.set_cons_succ, List.set_cons_zero]
            (apply regi_take hF 7 rfl rfl (by decide +kernel) rfl); (rintro w' ⟨h1, h2⟩; go_simp; rfl); exact hS; simp only [List.setIfInBounds_toArray, List.set_cons_succ, List.set_cons_zero]
            (apply regi_take hF 8 rfl rfl (by decide +kernel) rfl); (rintro w' ⟨h1, h2⟩; go_simp; rfl); exact hS; simp only [List.setIfInBounds_toArray, List.set_cons_succ, List.set_cons_zero]
            (apply regi_take hF 9 rfl rfl (by decide +kernel) rfl); (rintro w' ⟨h1, h2⟩; go_simp; rfl); exact hS; simp only [List.setIfInBounds_toArray, List.set_cons_succ, List.set_cons_zero]
            (apply regi_take hF 10 rfl rfl (by decide +kernel) rfl); (rintro w' ⟨h1, h2⟩; go_simp; rfl); exact hS; simp only [List.setIfInBounds_toArray, List.set_cons_succ, List.set_cons_zero]
            (apply regi_take hF 11 rfl rfl (by decide +kernel) rfl); (rintro w' ⟨h1, h2⟩; go_simp; rfl); exact hS; simp only [List.setIfInBounds_toArray, List.set_cons_succ, List.set_cons_zero]
            (apply regi_take hF 12 rfl rfl (by decide +kernel) rfl); (rintro w' ⟨h1, h2⟩; go_simp; rfl); exact hS; simp only [List.setIfInBounds_toArray, List.set_cons_succ, List.set_cons_zero]
            (apply regi_take hF 13 rfl rfl (by decide +kernel) rfl); (rintro w' ⟨h1, h2⟩; go_simp; rfl); exact hS; simp only [List.setIfInBounds_toArray, List.set_cons_succ, List.set_cons_zero]
            (apply regi_take hF 14 rfl rfl (by decide +kernel) rfl); (rintro w' ⟨h1, h2⟩; go_simp; rfl); exact hS; simp only [List.setIfInBounds_toArray, List.set_cons_succ, List.set_cons_zero]
            (apply regi_take hF 15 rfl rfl (by decide +kernel) rfl); (rintro w' ⟨h1, h2⟩; go_simp; rfl); exact hS; simp only [List.setIfInBounds_toArray, List.set_cons_succ, List.set_cons_zero]
            refine regi_callP hF 16 rfl rfl (by decide +kernel) (by decide +kernel) rfl (f := 99) (args := #[.pointer qa, .pointer qb, .int .i64 0, .int .i64 ((first : Int) + (k : Int) * 16), .func (.yield l) #[] #[]]) (R := fun v W3 => (v = .bool true ∧ Hid (J (pre ++ itemsF (k * 16) first (dm ma mb) ++ itemsF 16 (first + k * 16) (dm (sub ma 0 k) (sub mb 0 k))) W3 ∧ KeepT TNode n₀ w'.drew W3)) ∨ (v = .bool false ∧ Hid (∃ q, q <+: itemsF 16 (first + k * 16) (dm (sub ma 0 k) (sub mb 0 k)) ∧ Jx (pre ++ itemsF (k * 16) first (dm ma mb) ++ q) W3))) (by kernel_rfl) (HC.out.mono fun e W3 h => by
              rcases h with ⟨rfl, h1, h2⟩ | ⟨rfl, h1⟩
              · exact ⟨_, rfl, .inl ⟨rfl, Lib.hid ⟨h1, h2⟩⟩⟩
              · exact ⟨_, rfl, .inr ⟨rfl, Lib.hid h1⟩⟩) ?_
            have hkd : KeepT TNode n₀ W2 w'.drew := hkw.trans (KeepT.drew _ _ _)
            clear hS a17 b17 HC
            rintro _ W3 (⟨rfl, h3⟩ | ⟨rfl, h3⟩)
            · simp only [List.setIfInBounds_toArray, List.set_cons_succ, List.set_cons_zero]
              refine regi_runP hF 17 (.bool false) rfl rfl (by decide +kernel) (by decide +kernel) rfl (by kernel_rfl) ?_
              simp only [List.setIfInBounds_toArray, List.set_cons_succ, List.set_cons_zero]
              refine regi_done (by decide +kernel) ?_
              gi_wp2
              refine ⟨⟨⟨k + 1, _, by omega, HN.out, rfl, by rw [HXS.out, ← List.append_assoc]; exact h3.out.1, hkd.trans h3.out.2⟩⟩, ?_⟩
              simp only [intOf]
              have := Nat.and_le_right (n := both) (m := both - 1)
              omega
            · simp only [List.setIfInBounds_toArray, List.set_cons_succ, List.set_cons_zero]
              refine regi_runP hF 17 (.bool true) rfl rfl (by decide +kernel) (by decide +kernel) rfl (by kernel_rfl) ?_
              simp only [List.setIfInBounds_toArray, List.set_cons_succ, List.set_cons_zero]
              refine regi_done (by decide +kernel) ?_
              gi_wp2
              go_ret
              obtain ⟨q, hq, hjx⟩ := h3.out
              exact .inr ⟨rfl, itemsF (k * 16) first (dm ma mb) ++ q, (List.prefix_append_right_inj _).2 hq |>.trans (by rw [← HXS.out]; exact itemsF_prefix (by omega)), by rw [← List.append_assoc]; exact hjx⟩
end Go.Proofs.YtednjhlkhecihaaGreatDoor

/- tree.differ, level 2. Printed by ec.py. -/
namespace Go.Proofs.YtednjhlkhecihaaGreatDoor
open Go.RowKit Go.Vol Go.Shelf Go.Sl
attribute [local go_sem] Oper.semAt_some

set_option maxRecDepth 100000 in
set_option maxHeartbeats 4000000 in
theorem diff2_in (F : Fence) (hF : Free F Tryz.prog) (l n₀ N : Nat) (J Jx : List (Nat × Int) → World → Prop) (hG : Grows J) (hn0 : 0 < n₀) (hY : DAsks F l n₀ N J Jx) (ih : DWalks F l n₀ N J Jx 1) : DWalks F l n₀ N J Jx 2 := by
  intro n va vb ma mb first pre W hna hnb hT hfi hsz hJ hN
  have HIH := Lib.hid ih
  clear ih
  have hro := hF.round
  have hfn := hF.fn
  have hf := hF.fn 99
  have hdd : ∀ k : Nat, (F.depth.isSome = true → 1 ≤ k) := fun k h => by rw [hF.depth] at h; cases h
  have hQ : (16 : Nat) ^ (2 + 1) = 4096 := by decide
  rw [hQ] at hfi hN
  obtain ⟨qa, rfl⟩ := NodeOk.ptr hna
  obtain ⟨qb, rfl⟩ := NodeOk.ptr hnb
  refine callsIn_of_wp Tryz.func99 rfl hf ?_ hro
  simp only [Tryz.ntmps99, List.size_toArray, List.length_cons, List.length_nil, Nat.reduceAdd, Nat.reduceSub, Array.replicate_succ, Array.replicate_zero, List.push_toArray, List.append_toArray, List.nil_append, List.cons_append]
  by_cases hab : qa = qb
  · subst hab
    have hnil : itemsF 4096 first (dm ma mb) = [] := itemsF_nil first _ fun i hi => dm_none (NodeOk.inj hna hnb i (by rw [hQ]; exact hi))
    have HX := Lib.hid hnil
    clear hnil hdd hna hnb hT hY hQ
    cases qa with
    | none =>
      gi_wp2
      go_ret
      refine .inl ⟨rfl, ?_, KeepT.refl _ _ _⟩
      rw [HX.out, List.append_nil]; exact hJ
    | some ad =>
      have heq := eql_same ad W
      gi_wp2
      go_ret
      refine .inl ⟨rfl, ?_, KeepT.refl _ _ _⟩
      rw [HX.out, List.append_nil]; exact hJ
  · clear hQ
    cases qa with
    | none =>
      cases qb with
      | none => exact absurd rfl hab
      | some ab =>
        obtain ⟨bb, rfl, -, -, -⟩ := NodeOk.block hnb
        have heq := eql_nil_some ⟨bb, 0, none⟩ W
        obtain ⟨ba, hbz⟩ : ∃ b, b = W.heap.size := ⟨_, rfl⟩
        obtain ⟨W1, hW1⟩ : ∃ W1, W1 = W.alloc (.cells (nodeC 0 nils zers) TNode) := ⟨_, rfl⟩
        have hK1 : KeepT TNode n₀ W W1 := by rw [hW1]; exact (KeepT.refl _ _ W).alloc hsz _
        have hJ1 : J pre W1 := by rw [hW1]; exact hG _ _ _ hJ (World.grownBy_alloc W _ none)
        have hT1 : TabW W1 := hT.keep (hK1.bel.block 0 hn0)
        have hA1 : NodeV TNode (· < n₀) W1 2 ba ma := NodeV.none (by rw [hW1, hbz]; exact World.alloc_heap_new W _) (NodeOk.nil hna)
        have hB1 := NodeV.keep hK1 (NodeV.of hnb)
        have hs1 : n₀ ≤ W1.heap.size := Nat.le_trans hsz hK1.bel.size
        have HP := Lib.hid (And.intro hW1 (And.intro hK1 (And.intro hJ1 (And.intro hT1 (And.intro hA1 (And.intro hB1 (And.intro hs1 hbz)))))))
        have HYY := Lib.hid hY
        have HNN := Lib.hid hN
        have hor := u16_or_nat (hasS ma 1) (hasS mb 1) (hasS_lt ma 1) (hasS_lt mb 1)
        clear hna hnb hT hab hJ hY hN hW1 hK1 hJ1 hT1 hA1 hB1 hs1 hbz
        gi_wp2
        obtain ⟨hW1, hK1, hJ1, hT1, hA1, hB1, hs1, hbz⟩ := HP.out
        change Code.wpIn F n Tryz.prog _ _ _ (W.alloc (.cells (nodeC 0 nils zers) TNode))
        rw [← hW1, ← hbz]
        clear hW1 HP hbz
        obtain ⟨ka, la, ga, -⟩ := id hA1
        obtain ⟨kb, lb, gb, -⟩ := id hB1
        obtain ⟨a0, -, -⟩ := nodeC_at ga la
        obtain ⟨b0, -, -⟩ := nodeC_at gb lb
        clear ga gb la lb
        have hS : W1.drew.cell? ⟨ba, 0, none⟩ = some (.int .u16 ((hasS ma 1) : Int)) ∧ W1.drew.cell? ⟨bb, 0, none⟩ = some (.int .u16 ((hasS mb 1) : Int)) := ⟨a0, b0⟩
        refine regi_begin (fun w' => w'.cell? ⟨ba, 0, none⟩ = some (.int .u16 ((hasS ma 1) : Int)) ∧ w'.cell? ⟨bb, 0, none⟩ = some (.int .u16 ((hasS mb 1) : Int))) (by kernel_rfl) ?_
        (apply regi_take hF 0 rfl rfl (by decide +kernel) rfl); (rintro w' ⟨h1, h2⟩; go_simp; rfl); exact hS; simp only [List.setIfInBounds_toArray, List.set_cons_succ, List.set_cons_zero]
        (apply regi_take hF 1 rfl rfl (by decide +kernel) rfl); (rintro w' ⟨h1, h2⟩; go_simp; rfl); exact hS; simp only [List.setIfInBounds_toArray, List.set_cons_succ, List.set_cons_zero]
        (apply regi_take hF 2 rfl rfl (by decide +kernel) rfl); (rintro w' ⟨h1, h2⟩; go_simp; rfl); exact hS; simp only [List.setIfInBounds_toArray, List.set_cons_succ, List.set_cons_zero]
        (apply regi_take hF 3 rfl rfl (by decide +kernel) rfl); (rintro w' ⟨h1, h2⟩; go_simp; rfl); exact hS; simp only [List.setIfInBounds_toArray, List.set_cons_succ, List.set_cons_zero]
        (apply regi_take hF 4 rfl rfl (by decide +kernel) rfl); (rintro w' ⟨h1, h2⟩; go_simp; rfl); exact hS; simp only [List.setIfInBounds_toArray, List.set_cons_succ, List.set_cons_zero]
        (apply regi_take hF 5 rfl rfl (by decide +kernel) rfl); (rintro w' ⟨h1, h2⟩; go_simp; rfl); exact hS; simp only [List.setIfInBounds_toArray, List.set_cons_succ, List.set_cons_zero]
        (apply regi_take hF 6 rfl rfl (by decide +kernel) rfl); (rintro w' ⟨h1, h2⟩; go_simp; rfl); exact hS; simp only [List.setIfInBounds_toArray, List.set_cons_succ, List.set_cons_zero]
        (apply regi_take hF 7 rfl rfl (by decide +kernel) rfl); (rintro w' ⟨h1, h2⟩; go_simp; rfl); exact hS; simp only [List.setIfInBounds_toArray, List.set_cons_succ, List.set_cons_zero]
        (apply regi_take hF 8 rfl rfl (by decide +kernel) rfl); (rintro w' ⟨h1, h2⟩; go_simp; rfl); exact hS; simp only [List.setIfInBounds_toArray, List.set_cons_succ, List.set_cons_zero]
        (apply regi_take hF 9 rfl rfl (by decide +kernel) rfl); (rintro w' ⟨h1, h2⟩; go_simp; rfl); exact hS; simp only [List.setIfInBounds_toArray, List.set_cons_succ, List.set_cons_zero]
        refine regi_done (by decide +kernel) ?_
        clear hS a0 b0
        have hK2 : KeepT TNode n₀ W W1.drew := hK1.trans (KeepT.drew _ _ _)
        have hJ2 : J pre W1.drew := hG _ _ _ hJ1 ⟨rfl, rfl, rfl, Nat.le_refl _, fun _ _ _ => rfl⟩
        have hT2 : TabW W1.drew := hT1
        have hA2 : NodeV TNode (· < n₀) W1.drew 2 ba ma := NodeV.keep (KeepT.drew _ _ _) hA1
        have hB2 : NodeV TNode (· < n₀) W1.drew 2 bb mb := NodeV.keep (KeepT.drew _ _ _) hB1
        have hs2 : n₀ ≤ W1.drew.heap.size := hs1
        clear hK1 hJ1 hT1 hA1 hB1 hs1
        generalize W1.drew = W2 at *
        have hst : DiffSt n₀ J 256 first ((hasS ma 1) ||| (hasS mb 1)) (dm ma mb) pre W2 (.int .u16 (((hasS ma 1) ||| (hasS mb 1) : Nat) : Int)) W2 := ⟨⟨0, _, by omega, BitsFrom.start (Nat.or_lt_two_pow (n := 16) (hasS_lt ma 1) (hasS_lt mb 1)), rfl, by rw [Nat.zero_mul, itemsF_zero, List.append_nil]; exact hJ2, KeepT.refl _ _ _⟩⟩
        have HP := Lib.hid (And.intro hK2 (And.intro hT2 (And.intro hA2 (And.intro hB2 hs2))))
        have HST := Lib.hid hst
        clear hK2 hT2 hA2 hB2 hs2 hJ2 hst hor
        gi_wp2
        gi_loopw [12, 13, 14, 45, 66] (fun v _ _ _ _ wr => DiffSt n₀ J 256 first ((hasS ma 1) ||| (hasS mb 1)) (dm ma mb) pre W2 v wr) (fun v _ _ _ _ _ => (intOf v).toNat)
        case atStart => exact HST.out
        case round =>
          clear HST
          obtain ⟨j, both, hj, hbf, rfl, hJs, hkw⟩ := hrel.st
          clear hrel
          by_cases hb0 : both = 0
          · subst hb0
            have hz := hbf.zero
            have hx : itemsF 4096 first (dm ma mb) = itemsF (j * 256) first (dm ma mb) := by
              have h := itemsF_skipS (m := dm ma mb) (first := first) (L := 1) (a := j) (16 - j) fun i h1 h2 => by
                have h3 := hz i h1
                rw [Nat.testBit_or, hasS_bit ma 1 (by omega), hasS_bit mb 1 (by omega), Bool.or_eq_false_iff] at h3
                rw [dm_sub]
                exact anyB_dm h3.1 h3.2
              rw [show j + (16 - j) = 16 by omega, show (16 : Nat) ^ (1 + 1) = 256 by decide] at h
              exact h
            have HX := Lib.hid hx
            have hdone := HP.out.1.trans hkw
            clear hz hx hbf
            gi_wp2
            go_ret
            exact .inl ⟨rfl, by rw [HX.out]; exact hJs, hdone⟩
          · have htz := tz16_any both hb0 hbf.lt wr (HP.out.2.1.keep (hkw.bel.block 0 hn0))
            obtain ⟨hjk, hk16, hbk, hskip, hnext⟩ := hbf.next hb0
            have hA3 := NodeV.keep hkw HP.out.2.2.1
            have hB3 := NodeV.keep hkw HP.out.2.2.2.1
            have hbl := hbf.lt
            generalize Lib.ctz 16 both = k at *
            have hand := u16_and_nat both (both - 1) hbl (by omega)
            have hsub : ((both - 1 : Nat) : Int) = (both : Int) - 1 := by omega
            rw [hsub] at hand
            have hxk : itemsF (k * 256) first (dm ma mb) = itemsF (j * 256) first (dm ma mb) := by
              have h := itemsF_skipS (m := dm ma mb) (first := first) (L := 1) (a := j) (k - j) fun i h1 h2 => by
                have h3 := hskip i h1 (by omega)
                rw [Nat.testBit_or, hasS_bit ma 1 (by omega), hasS_bit mb 1 (by omega), Bool.or_eq_false_iff] at h3
                rw [dm_sub]
                exact anyB_dm h3.1 h3.2
              rw [show j + (k - j) = k by omega, show (16 : Nat) ^ (1 + 1) = 256 by decide] at h
              exact h
            rw [← hxk] at hJs
            have HXK := Lib.hid hxk
            have HTZ := Lib.hid htz
            have HN := Lib.hid hnext
            have hki : (k : Int) < 16 := by omega
            have hbi : ((both : Int) == 0) = false := by simpa using hb0
            have hb1 : (1 : Int) ≤ (both : Int) := by omega
            obtain ⟨ka, la, ga, fa⟩ := hA3
            obtain ⟨kb, lb, gb, fb⟩ := hB3
            obtain ⟨-, a1, -⟩ := nodeC_at ga la
            obtain ⟨-, b1, -⟩ := nodeC_at gb lb
            obtain ⟨kda, hkda⟩ : ∃ kd, ka[k]? = some kd := ⟨_, List.getElem?_eq_getElem (by rw [la]; exact hk16)⟩
            obtain ⟨kdb, hkdb⟩ : ∃ kd, kb[k]? = some kd := ⟨_, List.getElem?_eq_getElem (by rw [lb]; exact hk16)⟩
            have a17 := a1 _ _ hkda
            have b17 := b1 _ _ hkdb
            have hna := fa _ _ hkda
            have hnb := fb _ _ hkdb
            obtain ⟨qa, rfl⟩ := NodeOk.ptr hna
            obtain ⟨qb, rfl⟩ := NodeOk.ptr hnb
            have hx : itemsF ((k + 1) * 256) first (dm ma mb) = itemsF (k * 256) first (dm ma mb) ++ itemsF 256 (first + k * 256) (dm (sub ma 1 k) (sub mb 1 k)) := by
              have h := itemsF_sub (dm ma mb) 1 k first
              rw [dm_sub] at h
              exact h
            have hlen := itemsF_lenle (m := dm ma mb) (first := first) (a := (k + 1) * 256) (b := 4096) (by omega)
            have hJd : J (pre ++ itemsF (k * 256) first (dm ma mb)) wr.drew := hG _ _ _ hJs ⟨rfl, rfl, rfl, Nat.le_refl _, fun _ _ _ => rfl⟩
            have hC := HIH.out (n - 1) (.pointer qa) (.pointer qb) (sub ma 1 k) (sub mb 1 k) (first + k * 256) (pre ++ itemsF (k * 256) first (dm ma mb)) wr.drew (hna.keep fun _ _ _ => rfl) (hnb.keep fun _ _ _ => rfl) (HP.out.2.1.keep (hkw.bel.block 0 hn0)) (by rw [show (16 : Nat) ^ (1 + 1) = 256 from by decide]; omega)
              (Nat.le_trans HP.out.2.2.2.2 hkw.bel.size) hJd (by have := HNN.out; rw [hx] at hlen; rw [show (16 : Nat) ^ (1 + 1) = 256 from by decide]; simp at hlen ⊢; omega)
            rw [show (16 : Nat) ^ (1 + 1) = 256 from by decide, Int.natCast_add, Int.natCast_mul] at hC
            have HC := Lib.hid hC
            have HXS := Lib.hid hx
            clear hskip hnext hbf htz hsub a1 b1 hxk hx hlen hJd hC hna hnb ga gb fa fb hkda hkdb la lb hbk
            gi_upto_region 14 with (first | ((try refine ⟨hdd _, ?_⟩); gi_at_call 105; refine (hF.calls _ _ _ _ _ HTZ.out).mono ?_; rintro e w' ⟨rfl, rfl⟩))
            have hS : w'.drew.cell? ⟨ba, 1 + k, none⟩ = some (.pointer qa) ∧ w'.drew.cell? ⟨bb, 1 + k, none⟩ = some (.pointer qb) := ⟨a17, b17⟩
            refine regi_begin (fun w' => w'.cell? ⟨ba, 1 + k, none⟩ = some (.pointer qa) ∧ w'.cell? ⟨bb, 1 + k, none⟩ = some (.pointer qb)) (by kernel_rfl) ?_
            (apply regi_take hF 0 rfl rfl (by decide +kernel) rfl); (rintro w' ⟨h1, h2⟩; go_simp; rfl); exact hS; simp only [List.setIfInBounds_toArray, List.set_cons_succ, List.set_cons_zero]
            (apply regi_take hF 1 rfl rfl (by decide +kernel) rfl); (rintro w' ⟨h1, h2⟩; go_simp; rfl); exact hS; simp only [List.setIfInBounds_toArray, List.set_cons_succ, List.set_cons_zero]
            (apply regi_take hF 2 rfl rfl (by decide +kernel) rfl); (rintro w' ⟨h1, h2⟩; go_simp; rfl); exact hS; simp only [List.setIfInBounds_toArray, List.set_cons_succ, List.set_cons_zero]
            (apply regi_take hF 3 rfl rfl (by decide +kernel) rfl); (rintro w' ⟨h1, h2⟩; go_simp; rfl); exact hS; simp only [List.setIfInBounds_toArray, List.set_cons_succ, List.set_cons_zero]
            (apply regi_take hF 4 rfl rfl (by decide +kernel) rfl); (rintro w' ⟨h1, h2⟩; go_simp; rfl); exact hS; simp only [List.setIfInBounds_toArray, List.set_cons_succ, List.set_cons_zero]
            (apply regi_take hF 5 rfl rfl (by decide +kernel) rfl); (rintro w' ⟨h1, h2⟩; go_simp; rfl); exact hS; simp only [List.setIfInBounds_toArray, List.set_cons_succ, List.set_cons_zero]
            (apply regi_take hF 6 rfl rfl (by decide +kernel) rfl); (rintro w' ⟨h1, h2⟩; go_simp; rfl); exact hS; simp only [List.setIfInBounds_toArray, List.set_cons_succ, List.set_cons_zero]
            (apply regi_take hF 7 rfl rfl (by decide +kernel) rfl); (rintro w' ⟨h1, h2⟩; go_simp; rfl); exact hS; simp only [List.setIfInBounds_toArray, List.set_cons_succ, List.set_cons_zero]
            (apply regi_take hF 8 rfl rfl (by decide +kernel) rfl); (rintro w' ⟨h1, h2⟩; go_simp; rfl); exact hS; simp only [List.setIfInBounds_toArray, List.set_cons_succ, List.set_cons_zero]
            (apply regi_take hF 9 rfl rfl (by decide +kernel) rfl); (rintro w' ⟨h1, h2⟩; go_simp; rfl); exact hS; simp only [List.setIfInBounds_toArray, List.set_cons_succ, List.set_cons_zero]
            (apply regi_take hF 10 rfl rfl (by decide +kernel) rfl); (rintro w' ⟨h1, h2⟩; go_simp; rfl); exact hS; simp only [List.setIfInBounds_toArray, List.set_cons_succ, List.set_cons_zero]
            (apply regi_take hF 11 rfl rfl (by decide +kernel) rfl); (rintro w' ⟨h1, h2⟩; go_simp; rfl); exact hS; simp only [List.setIfInBounds_toArray, List.set_cons_succ, List.set_cons_zero]
            (apply regi_take hF 12 rfl rfl (by decide +kernel) rfl); (rintro w' ⟨h1, h2⟩; go_simp; rfl); exact hS; simp only [List.setIfInBounds_toArray, List.set_cons_succ, List.set_cons_zero]
            (apply regi_take hF 13 rfl rfl (by decide +kernel) rfl); (rintro w' ⟨h1, h2⟩; go_simp; rfl); exact hS; simp only [List.setIfInBounds_toArray, List.set_cons_succ, List.set_cons_zero]
            (apply regi_take hF 14 rfl rfl (by decide +kernel) rfl); (rintro w' ⟨h1, h2⟩; go_simp; rfl); exact hS; simp only [List.setIfInBounds_toArray, List.set_cons_succ, List.set_cons_zero]
            (apply regi_take hF 15 rfl rfl (by decide +kernel) rfl); (rintro w' ⟨h1, h2⟩; go_simp; rfl); exact hS; simp only [List.setIfInBounds_toArray, List.set_cons_succ, List.set_cons_zero]
            refine regi_callP hF 16 rfl rfl (by decide +kernel) (by decide +kernel) rfl (f := 99) (args := #[.pointer qa, .pointer qb, .int .i64 1, .int .i64 ((first : Int) + (k : Int) * 256), .func (.yield l) #[] #[]]) (R := fun v W3 => (v = .bool true ∧ Hid (J (pre ++ itemsF (k * 256) first (dm ma mb) ++ itemsF 256 (first + k * 256) (dm (sub ma 1 k) (sub mb 1 k))) W3 ∧ KeepT TNode n₀ w'.drew W3)) ∨ (v = .bool false ∧ Hid (∃ q, q <+: itemsF 256 (first + k * 256) (dm (sub ma 1 k) (sub mb 1 k)) ∧ Jx (pre ++ itemsF (k * 256) first (dm ma mb) ++ q) W3))) (by kernel_rfl) (HC.out.mono fun e W3 h => by
              rcases h with ⟨rfl, h1, h2⟩ | ⟨rfl, h1⟩
              · exact ⟨_, rfl, .inl ⟨rfl, Lib.hid ⟨h1, h2⟩⟩⟩
              · exact ⟨_, rfl, .inr ⟨rfl, Lib.hid h1⟩⟩) ?_
            have hkd : KeepT TNode n₀ W2 w'.drew := hkw.trans (KeepT.drew _ _ _)
            clear hS a17 b17 HC
            rintro _ W3 (⟨rfl, h3⟩ | ⟨rfl, h3⟩)
            · simp only [List.setIfInBounds_toArray, List.set_cons_succ, List.set_cons_zero]
              refine regi_runP hF 17 (.bool false) rfl rfl (by decide +kernel) (by decide +kernel) rfl (by kernel_rfl) ?_
              simp only [List.setIfInBounds_toArray, List.set_cons_succ, List.set_cons_zero]
              refine regi_done (by decide +kernel) ?_
              gi_wp2
              refine ⟨⟨⟨k + 1, _, by omega, HN.out, rfl, by rw [HXS.out, ← List.append_assoc]; exact h3.out.1, hkd.trans h3.out.2⟩⟩, ?_⟩
              simp only [intOf]
              have := Nat.and_le_right (n := both) (m := both - 1)
              omega
            · simp only [List.setIfInBounds_toArray, List.set_cons_succ, List.set_cons_zero]
              refine regi_runP hF 17 (.bool true) rfl rfl (by decide +kernel) (by decide +kernel) rfl (by kernel_rfl) ?_
              simp only [List.setIfInBounds_toArray, List.set_cons_succ, List.set_cons_zero]
              refine regi_done (by decide +kernel) ?_
              gi_wp2
              go_ret
              obtain ⟨q, hq, hjx⟩ := h3.out
              exact .inr ⟨rfl, itemsF (k * 256) first (dm ma mb) ++ q, (List.prefix_append_right_inj _).2 hq |>.trans (by rw [← HXS.out]; exact itemsF_prefix (by omega)), by rw [← List.append_assoc]; exact hjx⟩
    | some aa =>
      obtain ⟨ba, rfl, -, -, -⟩ := NodeOk.block hna
      cases qb with
      | none =>
        obtain ⟨bb, hbz⟩ : ∃ b, b = W.heap.size := ⟨_, rfl⟩
        obtain ⟨W1, hW1⟩ : ∃ W1, W1 = W.alloc (.cells (nodeC 0 nils zers) TNode) := ⟨_, rfl⟩
        have hK1 : KeepT TNode n₀ W W1 := by rw [hW1]; exact (KeepT.refl _ _ W).alloc hsz _
        have hJ1 : J pre W1 := by rw [hW1]; exact hG _ _ _ hJ (World.grownBy_alloc W _ none)
        have hT1 : TabW W1 := hT.keep (hK1.bel.block 0 hn0)
        have hA1 := NodeV.keep hK1 (NodeV.of hna)
        have hB1 : NodeV TNode (· < n₀) W1 2 bb mb := NodeV.none (by rw [hW1, hbz]; exact World.alloc_heap_new W _) (NodeOk.nil hnb)
        have hs1 : n₀ ≤ W1.heap.size := Nat.le_trans hsz hK1.bel.size
        have HP := Lib.hid (And.intro hW1 (And.intro hK1 (And.intro hJ1 (And.intro hT1 (And.intro hA1 (And.intro hB1 (And.intro hs1 hbz)))))))
        have HYY := Lib.hid hY
        have HNN := Lib.hid hN
        have hor := u16_or_nat (hasS ma 1) (hasS mb 1) (hasS_lt ma 1) (hasS_lt mb 1)
        clear hna hnb hT hab hJ hY hN hW1 hK1 hJ1 hT1 hA1 hB1 hs1 hbz
        gi_wp2
        obtain ⟨hW1, hK1, hJ1, hT1, hA1, hB1, hs1, hbz⟩ := HP.out
        change Code.wpIn F n Tryz.prog _ _ _ (W.alloc (.cells (nodeC 0 nils zers) TNode))
        rw [← hW1, ← hbz]
        clear hW1 HP hbz
        obtain ⟨ka, la, ga, -⟩ := id hA1
        obtain ⟨kb, lb, gb, -⟩ := id hB1
        obtain ⟨a0, -, -⟩ := nodeC_at ga la
        obtain ⟨b0, -, -⟩ := nodeC_at gb lb
        clear ga gb la lb
        have hS : W1.drew.cell? ⟨ba, 0, none⟩ = some (.int .u16 ((hasS ma 1) : Int)) ∧ W1.drew.cell? ⟨bb, 0, none⟩ = some (.int .u16 ((hasS mb 1) : Int)) := ⟨a0, b0⟩
        refine regi_begin (fun w' => w'.cell? ⟨ba, 0, none⟩ = some (.int .u16 ((hasS ma 1) : Int)) ∧ w'.cell? ⟨bb, 0, none⟩ = some (.int .u16 ((hasS mb 1) : Int))) (by kernel_rfl) ?_
        (apply regi_take hF 0 rfl rfl (by decide +kernel) rfl); (rintro w' ⟨h1, h2⟩; go_simp; rfl); exact hS; simp only [List.setIfInBounds_toArray, List.set_cons_succ, List.set_cons_zero]
        (apply regi_take hF 1 rfl rfl (by decide +kernel) rfl); (rintro w' ⟨h1, h2⟩; go_simp; rfl); exact hS; simp only [List.setIfInBounds_toArray, List.set_cons_succ, List.set_cons_zero]
        (apply regi_take hF 2 rfl rfl (by decide +kernel) rfl); (rintro w' ⟨h1, h2⟩; go_simp; rfl); exact hS; simp only [List.setIfInBounds_toArray, List.set_cons_succ, List.set_cons_zero]
        (apply regi_take hF 3 rfl rfl (by decide +kernel) rfl); (rintro w' ⟨h1, h2⟩; go_simp; rfl); exact hS; simp only [List.setIfInBounds_toArray, List.set_cons_succ, List.set_cons_zero]
        (apply regi_take hF 4 rfl rfl (by decide +kernel) rfl); (rintro w' ⟨h1, h2⟩; go_simp; rfl); exact hS; simp only [List.setIfInBounds_toArray, List.set_cons_succ, List.set_cons_zero]
        (apply regi_take hF 5 rfl rfl (by decide +kernel) rfl); (rintro w' ⟨h1, h2⟩; go_simp; rfl); exact hS; simp only [List.setIfInBounds_toArray, List.set_cons_succ, List.set_cons_zero]
        (apply regi_take hF 6 rfl rfl (by decide +kernel) rfl); (rintro w' ⟨h1, h2⟩; go_simp; rfl); exact hS; simp only [List.setIfInBounds_toArray, List.set_cons_succ, List.set_cons_zero]
        (apply regi_take hF 7 rfl rfl (by decide +kernel) rfl); (rintro w' ⟨h1, h2⟩; go_simp; rfl); exact hS; simp only [List.setIfInBounds_toArray, List.set_cons_succ, List.set_cons_zero]
        (apply regi_take hF 8 rfl rfl (by decide +kernel) rfl); (rintro w' ⟨h1, h2⟩; go_simp; rfl); exact hS; simp only [List.setIfInBounds_toArray, List.set_cons_succ, List.set_cons_zero]
        (apply regi_take hF 9 rfl rfl (by decide +kernel) rfl); (rintro w' ⟨h1, h2⟩; go_simp; rfl); exact hS; simp only [List.setIfInBounds_toArray, List.set_cons_succ, List.set_cons_zero]
        refine regi_done (by decide +kernel) ?_
        clear hS a0 b0
        have hK2 : KeepT TNode n₀ W W1.drew := hK1.trans (KeepT.drew _ _ _)
        have hJ2 : J pre W1.drew := hG _ _ _ hJ1 ⟨rfl, rfl, rfl, Nat.le_refl _, fun _ _ _ => rfl⟩
        have hT2 : TabW W1.drew := hT1
        have hA2 : NodeV TNode (· < n₀) W1.drew 2 ba ma := NodeV.keep (KeepT.drew _ _ _) hA1
        have hB2 : NodeV TNode (· < n₀) W1.drew 2 bb mb := NodeV.keep (KeepT.drew _ _ _) hB1
        have hs2 : n₀ ≤ W1.drew.heap.size := hs1
        clear hK1 hJ1 hT1 hA1 hB1 hs1
        generalize W1.drew = W2 at *
        have hst : DiffSt n₀ J 256 first ((hasS ma 1) ||| (hasS mb 1)) (dm ma mb) pre W2 (.int .u16 (((hasS ma 1) ||| (hasS mb 1) : Nat) : Int)) W2 := ⟨⟨0, _, by omega, BitsFrom.start (Nat.or_lt_two_pow (n := 16) (hasS_lt ma 1) (hasS_lt mb 1)), rfl, by rw [Nat.zero_mul, itemsF_zero, List.append_nil]; exact hJ2, KeepT.refl _ _ _⟩⟩
        have HP := Lib.hid (And.intro hK2 (And.intro hT2 (And.intro hA2 (And.intro hB2 hs2))))
        have HST := Lib.hid hst
        clear hK2 hT2 hA2 hB2 hs2 hJ2 hst hor
        gi_wp2
        gi_loopw [12, 13, 14, 45, 66] (fun v _ _ _ _ wr => DiffSt n₀ J 256 first ((hasS ma 1) ||| (hasS mb 1)) (dm ma mb) pre W2 v wr) (fun v _ _ _ _ _ => (intOf v).toNat)
        case atStart => exact HST.out
        case round =>
          clear HST
          obtain ⟨j, both, hj, hbf, rfl, hJs, hkw⟩ := hrel.st
          clear hrel
          by_cases hb0 : both = 0
          · subst hb0
            have hz := hbf.zero
            have hx : itemsF 4096 first (dm ma mb) = itemsF (j * 256) first (dm ma mb) := by
              have h := itemsF_skipS (m := dm ma mb) (first := first) (L := 1) (a := j) (16 - j) fun i h1 h2 => by
                have h3 := hz i h1
                rw [Nat.testBit_or, hasS_bit ma 1 (by omega), hasS_bit mb 1 (by omega), Bool.or_eq_false_iff] at h3
                rw [dm_sub]
                exact anyB_dm h3.1 h3.2
              rw [show j + (16 - j) = 16 by omega, show (16 : Nat) ^ (1 + 1) = 256 by decide] at h
              exact h
            have HX := Lib.hid hx
            have hdone := HP.out.1.trans hkw
            clear hz hx hbf
            gi_wp2
            go_ret
            exact .inl ⟨rfl, by rw [HX.out]; exact hJs, hdone⟩
          · have htz := tz16_any both hb0 hbf.lt wr (HP.out.2.1.keep (hkw.bel.block 0 hn0))
            obtain ⟨hjk, hk16, hbk, hskip, hnext⟩ := hbf.next hb0
            have hA3 := NodeV.keep hkw HP.out.2.2.1
            have hB3 := NodeV.keep hkw HP.out.2.2.2.1
            have hbl := hbf.lt
            generalize Lib.ctz 16 both = k at *
            have hand := u16_and_nat both (both - 1) hbl (by omega)
            have hsub : ((both - 1 : Nat) : Int) = (both : Int) - 1 := by omega
            rw [hsub] at hand
            have hxk : itemsF (k * 256) first (dm ma mb) = itemsF (j * 256) first (dm ma mb) := by
              have h := itemsF_skipS (m := dm ma mb) (first := first) (L := 1) (a := j) (k - j) fun i h1 h2 => by
                have h3 := hskip i h1 (by omega)
                rw [Nat.testBit_or, hasS_bit ma 1 (by omega), hasS_bit mb 1 (by omega), Bool.or_eq_false_iff] at h3
                rw [dm_sub]
                exact anyB_dm h3.1 h3.2
              rw [show j + (k - j) = k by omega, show (16 : Nat) ^ (1 + 1) = 256 by decide] at h
              exact h
            rw [← hxk] at hJs
            have HXK := Lib.hid hxk
            have HTZ := Lib.hid htz
            have HN := Lib.hid hnext
            have hki : (k : Int) < 16 := by omega
            have hbi : ((both : Int) == 0) = false := by simpa using hb0
            have hb1 : (1 : Int) ≤ (both : Int) := by omega
            obtain ⟨ka, la, ga, fa⟩ := hA3
            obtain ⟨kb, lb, gb, fb⟩ := hB3
            obtain ⟨-, a1, -⟩ := nodeC_at ga la
            obtain ⟨-, b1, -⟩ := nodeC_at gb lb
            obtain ⟨kda, hkda⟩ : ∃ kd, ka[k]? = some kd := ⟨_, List.getElem?_eq_getElem (by rw [la]; exact hk16)⟩
            obtain ⟨kdb, hkdb⟩ : ∃ kd, kb[k]? = some kd := ⟨_, List.getElem?_eq_getElem (by rw [lb]; exact hk16)⟩
            have a17 := a1 _ _ hkda
            have b17 := b1 _ _ hkdb
            have hna := fa _ _ hkda
            have hnb := fb _ _ hkdb
            obtain ⟨qa, rfl⟩ := NodeOk.ptr hna
            obtain ⟨qb, rfl⟩ := NodeOk.ptr hnb
            have hx : itemsF ((k + 1) * 256) first (dm ma mb) = itemsF (k * 256) first (dm ma mb) ++ itemsF 256 (first + k * 256) (dm (sub ma 1 k) (sub mb 1 k)) := by
              have h := itemsF_sub (dm ma mb) 1 k first
              rw [dm_sub] at h
              exact h
            have hlen := itemsF_lenle (m := dm ma mb) (first := first) (a := (k + 1) * 256) (b := 4096) (by omega)
            have hJd : J (pre ++ itemsF (k * 256) first (dm ma mb)) wr.drew := hG _ _ _ hJs ⟨rfl, rfl, rfl, Nat.le_refl _, fun _ _ _ => rfl⟩
            have hC := HIH.out (n - 1) (.pointer qa) (.pointer qb) (sub ma 1 k) (sub mb 1 k) (first + k * 256) (pre ++ itemsF (k * 256) first (dm ma mb)) wr.drew (hna.keep fun _ _ _ => rfl) (hnb.keep fun _ _ _ => rfl) (HP.out.2.1.keep (hkw.bel.block 0 hn0)) (by rw [show (16 : Nat) ^ (1 + 1) = 256 from by decide]; omega)
              (Nat.le_trans HP.out.2.2.2.2 hkw.bel.size) hJd (by have := HNN.out; rw [hx] at hlen; rw [show (16 : Nat) ^ (1 + 1) = 256 from by decide]; simp at hlen ⊢; omega)
            rw [show (16 : Nat) ^ (1 + 1) = 256 from by decide, Int.natCast_add, Int.natCast_mul] at hC
            have HC := Lib.hid hC
            have HXS := Lib.hid hx
            clear hskip hnext hbf htz hsub a1 b1 hxk hx hlen hJd hC hna hnb ga gb fa fb hkda hkdb la lb hbk
            gi_upto_region 14 with (first | ((try refine ⟨hdd _, ?_⟩); gi_at_call 105; refine (hF.calls _ _ _ _ _ HTZ.out).mono ?_; rintro e w' ⟨rfl, rfl⟩))
            have hS : w'.drew.cell? ⟨ba, 1 + k, none⟩ = some (.pointer qa) ∧ w'.drew.cell? ⟨bb, 1 + k, none⟩ = some (.pointer qb) := ⟨a17, b17⟩
            refine regi_begin (fun w' => w'.cell? ⟨ba, 1 + k, none⟩ = some (.pointer qa) ∧ w'.cell? ⟨bb, 1 + k, none⟩ = some (.pointer qb)) (by kernel_rfl) ?_
            (apply regi_take hF 0 rfl rfl (by decide +kernel) rfl); (rintro w' ⟨h1, h2⟩; go_simp; rfl); exact hS; simp only [List.setIfInBounds_toArray, List.set_cons_succ, List.set_cons_zero]
            (apply regi_take hF 1 rfl rfl (by decide +kernel) rfl); (rintro w' ⟨h1, h2⟩; go_simp; rfl); exact hS; simp only [List.setIfInBounds_toArray, List.set_cons_succ, List.set_cons_zero]
            (apply regi_take hF 2 rfl rfl (by decide +kernel) rfl); (rintro w' ⟨h1, h2⟩; go_simp; rfl); exact hS; simp only [List.setIfInBounds_toArray, List.set_cons_succ, List.set_cons_zero]
            (apply regi_take hF 3 rfl rfl (by decide +kernel) rfl); (rintro w' ⟨h1, h2⟩; go_simp; rfl); exact hS; simp only [List.setIfInBounds_toArray, List.set_cons_succ, List.set_cons_zero]
            (apply regi_take hF 4 rfl rfl (by decide +kernel) rfl); (rintro w' ⟨h1, h2⟩; go_simp; rfl); exact hS; simp only [List.setIfInBounds_toArray, List.set_cons_succ, List.set_cons_zero]
            (apply regi_take hF 5 rfl rfl (by decide +kernel) rfl); (rintro w' ⟨h1, h2⟩; go_simp; rfl); exact hS; simp only [List.setIfInBounds_toArray, List.set_cons_succ, List.set_cons_zero]
            (apply regi_take hF 6 rfl rfl (by decide +kernel) rfl); (rintro w' ⟨h1, h2⟩; go_simp; rfl); exact hS; simp only [List.setIfInBounds_toArray, List.set_cons_succ, List.set_cons_zero]
            (apply regi_take hF 7 rfl rfl (by decide +kernel) rfl); (rintro w' ⟨h1, h2⟩; go_simp; rfl); exact hS; simp only [List.setIfInBounds_toArray, List.set_cons_succ, List.set_cons_zero]
            (apply regi_take hF 8 rfl rfl (by decide +kernel) rfl); (rintro w' ⟨h1, h2⟩; go_simp; rfl); exact hS; simp only [List.setIfInBounds_toArray, List.set_cons_succ, List.set_cons_zero]
            (apply regi_take hF 9 rfl rfl (by decide +kernel) rfl); (rintro w' ⟨h1, h2⟩; go_simp; rfl); exact hS; simp only [List.setIfInBounds_toArray, List.set_cons_succ, List.set_cons_zero]
            (apply regi_take hF 10 rfl rfl (by decide +kernel) rfl); (rintro w' ⟨h1, h2⟩; go_simp; rfl); exact hS; simp only [List.setIfInBounds_toArray, List.set_cons_succ, List.set_cons_zero]
            (apply regi_take hF 11 rfl rfl (by decide +kernel) rfl); (rintro w' ⟨h1, h2⟩; go_simp; rfl); exact hS; simp only [List.setIfInBounds_toArray, List.set_cons_succ, List.set_cons_zero]
            (apply regi_take hF 12 rfl rfl (by decide +kernel) rfl); (rintro w' ⟨h1, h2⟩; go_simp; rfl); exact hS; simp only [List.setIfInBounds_toArray, List.set_cons_succ, List.set_cons_zero]
            (apply regi_take hF 13 rfl rfl (by decide +kernel) rfl); (rintro w' ⟨h1, h2⟩; go_simp; rfl); exact hS; simp only [List.setIfInBounds_toArray, List.set_cons_succ, List.set_cons_zero]
            (apply regi_take hF 14 rfl rfl (by decide +kernel) rfl); (rintro w' ⟨h1, h2⟩; go_simp; rfl); exact hS; simp only [List.setIfInBounds_toArray, List.set_cons_succ, List.set_cons_zero]
            (apply regi_take hF 15 rfl rfl (by decide +kernel) rfl); (rintro w' ⟨h1, h2⟩; go_simp; rfl); exact hS; simp only [List.setIfInBounds_toArray, List.set_cons_succ, List.set_cons_zero]
            refine regi_callP hF 16 rfl rfl (by decide +kernel) (by decide +kernel) rfl (f := 99) (args := #[.pointer qa, .pointer qb, .int .i64 1, .int .i64 ((first : Int) + (k : Int) * 256), .func (.yield l) #[] #[]]) (R := fun v W3 => (v = .bool true ∧ Hid (J (pre ++ itemsF (k * 256) first (dm ma mb) ++ itemsF 256 (first + k * 256) (dm (sub ma 1 k) (sub mb 1 k))) W3 ∧ KeepT TNode n₀ w'.drew W3)) ∨ (v = .bool false ∧ Hid (∃ q, q <+: itemsF 256 (first + k * 256) (dm (sub ma 1 k) (sub mb 1 k)) ∧ Jx (pre ++ itemsF (k * 256) first (dm ma mb) ++ q) W3))) (by kernel_rfl) (HC.out.mono fun e W3 h => by
              rcases h with ⟨rfl, h1, h2⟩ | ⟨rfl, h1⟩
              · exact ⟨_, rfl, .inl ⟨rfl, Lib.hid ⟨h1, h2⟩⟩⟩
              · exact ⟨_, rfl, .inr ⟨rfl, Lib.hid h1⟩⟩) ?_
            have hkd : KeepT TNode n₀ W2 w'.drew := hkw.trans (KeepT.drew _ _ _)
            clear hS a17 b17 HC
            rintro _ W3 (⟨rfl, h3⟩ | ⟨rfl, h3⟩)
            · simp only [List.setIfInBounds_toArray, List.set_cons_succ, List.set_cons_zero]
              refine regi_runP hF 17 (.bool false) rfl rfl (by decide +kernel) (by decide +kernel) rfl (by kernel_rfl) ?_
              simp only [List.setIfInBounds_toArray, List.set_cons_succ, List.set_cons_zero]
              refine regi_done (by decide +kernel) ?_
              gi_wp2
              refine ⟨⟨⟨k + 1, _, by omega, HN.out, rfl, by rw [HXS.out, ← List.append_assoc]; exact h3.out.1, hkd.trans h3.out.2⟩⟩, ?_⟩
              simp only [intOf]
              have := Nat.and_le_right (n := both) (m := both - 1)
              omega
            · simp only [List.setIfInBounds_toArray, List.set_cons_succ, List.set_cons_zero]
              refine regi_runP hF 17 (.bool true) rfl rfl (by decide +kernel) (by decide +kernel) rfl (by kernel_rfl) ?_
              simp only [List.setIfInBounds_toArray, List.set_cons_succ, List.set_cons_zero]
              refine regi_done (by decide +kernel) ?_
              gi_wp2
              go_ret
              obtain ⟨q, hq, hjx⟩ := h3.out
              exact .inr ⟨rfl, itemsF (k * 256) first (dm ma mb) ++ q, (List.prefix_append_right_inj _).2 hq |>.trans (by rw [← HXS.out]; exact itemsF_prefix (by omega)), by rw [← List.append_assoc]; exact hjx⟩
      | some ab =>
        obtain ⟨bb, rfl, -, -, -⟩ := NodeOk.block hnb
        have hne : ba ≠ bb := fun e => hab (by rw [e])
        have heq : (binOp .eql 78 (.pointer (some ⟨ba, 0, none⟩)) (.pointer (some ⟨bb, 0, none⟩))).run Tryz.prog W = .ok (.bool false) W := by
          obtain ⟨ca, h1⟩ := NodeV.cells (NodeV.of hna)
          obtain ⟨cb, h2⟩ := NodeV.cells (NodeV.of hnb)
          exact eql_other hne h1 h2
        obtain ⟨bz, hbz⟩ : ∃ b, b = W.heap.size := ⟨_, rfl⟩
        obtain ⟨W1, hW1⟩ : ∃ W1, W1 = W.alloc (.cells (nodeC 0 nils zers) TNode) := ⟨_, rfl⟩
        have hK1 : KeepT TNode n₀ W W1 := by rw [hW1]; exact (KeepT.refl _ _ W).alloc hsz _
        have hJ1 : J pre W1 := by rw [hW1]; exact hG _ _ _ hJ (World.grownBy_alloc W _ none)
        have hT1 : TabW W1 := hT.keep (hK1.bel.block 0 hn0)
        have hA1 := NodeV.keep hK1 (NodeV.of hna)
        have hB1 := NodeV.keep hK1 (NodeV.of hnb)
        have hs1 : n₀ ≤ W1.heap.size := Nat.le_trans hsz hK1.bel.size
        have HP := Lib.hid (And.intro hW1 (And.intro hK1 (And.intro hJ1 (And.intro hT1 (And.intro hA1 (And.intro hB1 (And.intro hs1 hbz)))))))
        have HYY := Lib.hid hY
        have HNN := Lib.hid hN
        have hor := u16_or_nat (hasS ma 1) (hasS mb 1) (hasS_lt ma 1) (hasS_lt mb 1)
        clear hna hnb hT hab hJ hY hN hW1 hK1 hJ1 hT1 hA1 hB1 hs1 hbz
        gi_wp2
        obtain ⟨hW1, hK1, hJ1, hT1, hA1, hB1, hs1, hbz⟩ := HP.out
        change Code.wpIn F n Tryz.prog _ _ _ (W.alloc (.cells (nodeC 0 nils zers) TNode))
        rw [← hW1, ← hbz]
        clear hW1 HP hbz
        obtain ⟨ka, la, ga, -⟩ := id hA1
        obtain ⟨kb, lb, gb, -⟩ := id hB1
        obtain ⟨a0, -, -⟩ := nodeC_at ga la
        obtain ⟨b0, -, -⟩ := nodeC_at gb lb
        clear ga gb la lb
        have hS : W1.drew.cell? ⟨ba, 0, none⟩ = some (.int .u16 ((hasS ma 1) : Int)) ∧ W1.drew.cell? ⟨bb, 0, none⟩ = some (.int .u16 ((hasS mb 1) : Int)) := ⟨a0, b0⟩
        refine regi_begin (fun w' => w'.cell? ⟨ba, 0, none⟩ = some (.int .u16 ((hasS ma 1) : Int)) ∧ w'.cell? ⟨bb, 0, none⟩ = some (.int .u16 ((hasS mb 1) : Int))) (by kernel_rfl) ?_
        (apply regi_take hF 0 rfl rfl (by decide +kernel) rfl); (rintro w' ⟨h1, h2⟩; go_simp; rfl); exact hS; simp only [List.setIfInBounds_toArray, List.set_cons_succ, List.set_cons_zero]
        (apply regi_take hF 1 rfl rfl (by decide +kernel) rfl); (rintro w' ⟨h1, h2⟩; go_simp; rfl); exact hS; simp only [List.setIfInBounds_toArray, List.set_cons_succ, List.set_cons_zero]
        (apply regi_take hF 2 rfl rfl (by decide +kernel) rfl); (rintro w' ⟨h1, h2⟩; go_simp; rfl); exact hS; simp only [List.setIfInBounds_toArray, List.set_cons_succ, List.set_cons_zero]
        (apply regi_take hF 3 rfl rfl (by decide +kernel) rfl); (rintro w' ⟨h1, h2⟩; go_simp; rfl); exact hS; simp only [List.setIfInBounds_toArray, List.set_cons_succ, List.set_cons_zero]
        (apply regi_take hF 4 rfl rfl (by decide +kernel) rfl); (rintro w' ⟨h1, h2⟩; go_simp; rfl); exact hS; simp only [List.setIfInBounds_toArray, List.set_cons_succ, List.set_cons_zero]
        (apply regi_take hF 5 rfl rfl (by decide +kernel) rfl); (rintro w' ⟨h1, h2⟩; go_simp; rfl); exact hS; simp only [List.setIfInBounds_toArray, List.set_cons_succ, List.set_cons_zero]
        (apply regi_take hF 6 rfl rfl (by decide +kernel) rfl); (rintro w' ⟨h1, h2⟩; go_simp; rfl); exact hS; simp only [List.setIfInBounds_toArray, List.set_cons_succ, List.set_cons_zero]
        (apply regi_take hF 7 rfl rfl (by decide +kernel) rfl); (rintro w' ⟨h1, h2⟩; go_simp; rfl); exact hS; simp only [List.setIfInBounds_toArray, List.set_cons_succ, List.set_cons_zero]
        (apply regi_take hF 8 rfl rfl (by decide +kernel) rfl); (rintro w' ⟨h1, h2⟩; go_simp; rfl); exact hS; simp only [List.setIfInBounds_toArray, List.set_cons_succ, List.set_cons_zero]
        (apply regi_take hF 9 rfl rfl (by decide +kernel) rfl); (rintro w' ⟨h1, h2⟩; go_simp; rfl); exact hS; simp only [List.setIfInBounds_toArray, List.set_cons_succ, List.set_cons_zero]
        refine regi_done (by decide +kernel) ?_
        clear hS a0 b0
        have hK2 : KeepT TNode n₀ W W1.drew := hK1.trans (KeepT.drew _ _ _)
        have hJ2 : J pre W1.drew := hG _ _ _ hJ1 ⟨rfl, rfl, rfl, Nat.le_refl _, fun _ _ _ => rfl⟩
        have hT2 : TabW W1.drew := hT1
        have hA2 : NodeV TNode (· < n₀) W1.drew 2 ba ma := NodeV.keep (KeepT.drew _ _ _) hA1
        have hB2 : NodeV TNode (· < n₀) W1.drew 2 bb mb := NodeV.keep (KeepT.drew _ _ _) hB1
        have hs2 : n₀ ≤ W1.drew.heap.size := hs1
        clear hK1 hJ1 hT1 hA1 hB1 hs1
        generalize W1.drew = W2 at *
        have hst : DiffSt n₀ J 256 first ((hasS ma 1) ||| (hasS mb 1)) (dm ma mb) pre W2 (.int .u16 (((hasS ma 1) ||| (hasS mb 1) : Nat) : Int)) W2 := ⟨⟨0, _, by omega, BitsFrom.start (Nat.or_lt_two_pow (n := 16) (hasS_lt ma 1) (hasS_lt mb 1)), rfl, by rw [Nat.zero_mul, itemsF_zero, List.append_nil]; exact hJ2, KeepT.refl _ _ _⟩⟩
        have HP := Lib.hid (And.intro hK2 (And.intro hT2 (And.intro hA2 (And.intro hB2 hs2))))
        have HST := Lib.hid hst
        clear hK2 hT2 hA2 hB2 hs2 hJ2 hst hor
        gi_wp2
        gi_loopw [12, 13, 14, 45, 66] (fun v _ _ _ _ wr => DiffSt n₀ J 256 first ((hasS ma 1) ||| (hasS mb 1)) (dm ma mb) pre W2 v wr) (fun v _ _ _ _ _ => (intOf v).toNat)
        case atStart => exact HST.out
        case round =>
          clear HST
          obtain ⟨j, both, hj, hbf, rfl, hJs, hkw⟩ := hrel.st
          clear hrel
          by_cases hb0 : both = 0
          · subst hb0
            have hz := hbf.zero
            have hx : itemsF 4096 first (dm ma mb) = itemsF (j * 256) first (dm ma mb) := by
              have h := itemsF_skipS (m := dm ma mb) (first := first) (L := 1) (a := j) (16 - j) fun i h1 h2 => by
                have h3 := hz i h1
                rw [Nat.testBit_or, hasS_bit ma 1 (by omega), hasS_bit mb 1 (by omega), Bool.or_eq_false_iff] at h3
                rw [dm_sub]
                exact anyB_dm h3.1 h3.2
              rw [show j + (16 - j) = 16 by omega, show (16 : Nat) ^ (1 + 1) = 256 by decide] at h
              exact h
            have HX := Lib.hid hx
            have hdone := HP.out.1.trans hkw
            clear hz hx hbf
            gi_wp2
            go_ret
            exact .inl ⟨rfl, by rw [HX.out]; exact hJs, hdone⟩
          · have htz := tz16_any both hb0 hbf.lt wr (HP.out.2.1.keep (hkw.bel.block 0 hn0))
            obtain ⟨hjk, hk16, hbk, hskip, hnext⟩ := hbf.next hb0
            have hA3 := NodeV.keep hkw HP.out.2.2.1
            have hB3 := NodeV.keep hkw HP.out.2.2.2.1
            have hbl := hbf.lt
            generalize Lib.ctz 16 both = k at *
            have hand := u16_and_nat both (both - 1) hbl (by omega)
            have hsub : ((both - 1 : Nat) : Int) = (both : Int) - 1 := by omega
            rw [hsub] at hand
            have hxk : itemsF (k * 256) first (dm ma mb) = itemsF (j * 256) first (dm ma mb) := by
              have h := itemsF_skipS (m := dm ma mb) (first := first) (L := 1) (a := j) (k - j) fun i h1 h2 => by
                have h3 := hskip i h1 (by omega)
                rw [Nat.testBit_or, hasS_bit ma 1 (by omega), hasS_bit mb 1 (by omega), Bool.or_eq_false_iff] at h3
                rw [dm_sub]
                exact anyB_dm h3.1 h3.2
              rw [show j + (k - j) = k by omega, show (16 : Nat) ^ (1 + 1) = 256 by decide] at h
              exact h
            rw [← hxk] at hJs
            have HXK := Lib.hid hxk
            have HTZ := Lib.hid htz
            have HN := Lib.hid hnext
            have hki : (k : Int) < 16 := by omega
            have hbi : ((both : Int) == 0) = false := by simpa using hb0
            have hb1 : (1 : Int) ≤ (both : Int) := by omega
            obtain ⟨ka, la, ga, fa⟩ := hA3
            obtain ⟨kb, lb, gb, fb⟩ := hB3
            obtain ⟨-, a1, -⟩ := nodeC_at ga la
            obtain ⟨-, b1, -⟩ := nodeC_at gb lb
            obtain ⟨kda, hkda⟩ : ∃ kd, ka[k]? = some kd := ⟨_, List.getElem?_eq_getElem (by rw [la]; exact hk16)⟩
            obtain ⟨kdb, hkdb⟩ : ∃ kd, kb[k]? = some kd := ⟨_, List.getElem?_eq_getElem (by rw [lb]; exact hk16)⟩
            have a17 := a1 _ _ hkda
            have b17 := b1 _ _ hkdb
            have hna := fa _ _ hkda
            have hnb := fb _ _ hkdb
            obtain ⟨qa, rfl⟩ := NodeOk.ptr hna
            obtain ⟨qb, rfl⟩ := NodeOk.ptr hnb
            have hx : itemsF ((k + 1) * 256) first (dm ma mb) = itemsF (k * 256) first (dm ma mb) ++ itemsF 256 (first + k * 256) (dm (sub ma 1 k) (sub mb 1 k)) := by
              have h := itemsF_sub (dm ma mb) 1 k first
              rw [dm_sub] at h
              exact h
            have hlen := itemsF_lenle (m := dm ma mb) (first := first) (a := (k + 1) * 256) (b := 4096) (by omega)
            have hJd : J (pre ++ itemsF (k * 256) first (dm ma mb)) wr.drew := hG _ _ _ hJs ⟨rfl, rfl, rfl, Nat.le_refl _, fun _ _ _ => rfl⟩
            have hC := HIH.out (n - 1) (.pointer qa) (.pointer qb) (sub ma 1 k) (sub mb 1 k) (first + k * 256) (pre ++ itemsF (k * 256) first (dm ma mb)) wr.drew (hna.keep fun _ _ _ => rfl) (hnb.keep fun _ _ _ => rfl) (HP.out.2.1.keep (hkw.bel.block 0 hn0)) (by rw [show (16 : Nat) ^ (1 + 1) = 256 from by decide]; omega)
              (Nat.le_trans HP.out.2.2.2.2 hkw.bel.size) hJd (by have := HNN.out; rw [hx] at hlen; rw [show (16 : Nat) ^ (1 + 1) = 256 from by decide]; simp at hlen ⊢; omega)
            rw [show (16 : Nat) ^ (1 + 1) = 256 from by decide, Int.natCast_add, Int.natCast_mul] at hC
            have HC := Lib.hid hC
            have HXS := Lib.hid hx
            clear hskip hnext hbf htz hsub a1 b1 hxk hx hlen hJd hC hna hnb ga gb fa fb hkda hkdb la lb hbk
            gi_upto_region 14 with (first | ((try refine ⟨hdd _, ?_⟩); gi_at_call 105; refine (hF.calls _ _ _ _ _ HTZ.out).mono ?_; rintro e w' ⟨rfl, rfl⟩))
            have hS : w'.drew.cell? ⟨ba, 1 + k, none⟩ = some (.pointer qa) ∧ w'.drew.cell? ⟨bb, 1 + k, none⟩ = some (.pointer qb) := ⟨a17, b17⟩
            refine regi_begin (fun w' => w'.cell? ⟨ba, 1 + k, none⟩ = some (.pointer qa) ∧ w'.cell? ⟨bb, 1 + k, none⟩ = some (.pointer qb)) (by kernel_rfl) ?_
            (apply regi_take hF 0 rfl rfl (by decide +kernel) rfl); (rintro w' ⟨h1, h2⟩; go_simp; rfl); exact hS; simp only [List.setIfInBounds_toArray, List.set_cons_succ, List.set_cons_zero]
            (apply regi_take hF 1 rfl rfl (by decide +kernel) rfl); (rintro w' ⟨h1, h2⟩; go_simp; rfl); exact hS; simp only [List.setIfInBounds_toArray, List.set_cons_succ, List.set_cons_zero]
            (apply regi_take hF 2 rfl rfl (by decide +kernel) rfl); (rintro w' ⟨h1, h2⟩; go_simp; rfl); exact hS; simp only [List.setIfInBounds_toArray, List.set_cons_succ, List.set_cons_zero]
            (apply regi_take hF 3 rfl rfl (by decide +kernel) rfl); (rintro w' ⟨h1, h2⟩; go_simp; rfl); exact hS; simp only [List.setIfInBounds_toArray, List.set_cons_succ, List.set_cons_zero]
            (apply regi_take hF 4 rfl rfl (by decide +kernel) rfl); (rintro w' ⟨h1, h2⟩; go_simp; rfl); exact hS; simp only [List.setIfInBounds_toArray, List.set_cons_succ, List.set_cons_zero]
            (apply regi_take hF 5 rfl rfl (by decide +kernel) rfl); (rintro w' ⟨h1, h2⟩; go_simp; rfl); exact hS; simp only [List.setIfInBounds_toArray, List.set_cons_succ, List.set_cons_zero]
            (apply regi_take hF 6 rfl rfl (by decide +kernel) rfl); (rintro w' ⟨h1, h2⟩; go_simp; rfl); exact hS; simp only [List.setIfInBounds_toArray, List.set_cons_succ, List.set_cons_zero]
            (apply regi_take hF 7 rfl rfl (by decide +kernel) rfl); (rintro w' ⟨h1, h2⟩; go_simp; rfl); exact hS; simp only [List.setIfInBounds_toArray, List.set_cons_succ, List.set_cons_zero]
            (apply regi_take hF 8 rfl rfl (by decide +kernel) rfl); (rintro w' ⟨h1, h2⟩; go_simp; rfl); exact hS; simp only [List.setIfInBounds_toArray, List.set_cons_succ, List.set_cons_zero]
            (apply regi_take hF 9 rfl rfl (by decide +kernel) rfl); (rintro w' ⟨h1, h2⟩; go_simp; rfl); exact hS; simp only [List.setIfInBounds_toArray, List.set_cons_succ, List.set_cons_zero]
            (apply regi_take hF 10 rfl rfl (by decide +kernel) rfl); (rintro w' ⟨h1, h2⟩; go_simp; rfl); exact hS; simp only [List.setIfInBounds_toArray, List.set_cons_succ, List.set_cons_zero]
            (apply regi_take hF 11 rfl rfl (by decide +kernel) rfl); (rintro w' ⟨h1, h2⟩; go_simp; rfl); exact hS; simp only [List.setIfInBounds_toArray, List.set_cons_succ, List.set_cons_zero]
            (apply regi_take hF 12 rfl rfl (by decide +kernel) rfl); (rintro w' ⟨h1, h2⟩; go_simp; rfl); exact hS; simp only [List.setIfInBounds_toArray, List.set_cons_succ, List.set_cons_zero]
            (apply regi_take hF 13 rfl rfl (by decide +kernel) rfl); (rintro w' ⟨h1, h2⟩; go_simp; rfl); exact hS; simp only [List.setIfInBounds_toArray, List.set_cons_succ, List.set_cons_zero]
            (apply regi_take hF 14 rfl rfl (by decide +kernel) rfl); (rintro w' ⟨h1, h2⟩; go_simp; rfl); exact hS; simp only [List.setIfInBounds_toArray, List.set_cons_succ, List.set_cons_zero]
            (apply regi_take hF 15 rfl rfl (by decide +kernel) rfl); (rintro w' ⟨h1, h2⟩; go_simp; rfl); exact hS; simp only [List.setIfInBounds_toArray, List.set_cons_succ, List.set_cons_zero]
            refine regi_callP hF 16 rfl rfl (by decide +kernel) (by decide +kernel) rfl (f := 99) (args := #[.pointer qa, .pointer qb, .int .i64 1, .int .i64 ((first : Int) + (k : Int) * 256), .func (.yield l) #[] #[]]) (R := fun v W3 => (v = .bool true ∧ Hid (J (pre ++ itemsF (k * 256) first (dm ma mb) ++ itemsF 256 (first + k * 256) (dm (sub ma 1 k) (sub mb 1 k))) W3 ∧ KeepT TNode n₀ w'.drew W3)) ∨ (v = .bool false ∧ Hid (∃ q, q <+: itemsF 256 (first + k * 256) (dm (sub ma 1 k) (sub mb 1 k)) ∧ Jx (pre ++ itemsF (k * 256) first (dm ma mb) ++ q) W3))) (by kernel_rfl) (HC.out.mono fun e W3 h => by
              rcases h with ⟨rfl, h1, h2⟩ | ⟨rfl, h1⟩
              · exact ⟨_, rfl, .inl ⟨rfl, Lib.hid ⟨h1, h2⟩⟩⟩
              · exact ⟨_, rfl, .inr ⟨rfl, Lib.hid h1⟩⟩) ?_
            have hkd : KeepT TNode n₀ W2 w'.drew := hkw.trans (KeepT.drew _ _ _)
            clear hS a17 b17 HC
            rintro _ W3 (⟨rfl, h3⟩ | ⟨rfl, h3⟩)
            · simp only [List.setIfInBounds_toArray, List.set_cons_succ, List.set_cons_zero]
              refine regi_runP hF 17 (.bool false) rfl rfl (by decide +kernel) (by decide +kernel) rfl (by kernel_rfl) ?_
              simp only [List.setIfInBounds_toArray, List.set_cons_succ, List.set_cons_zero]
              refine regi_done (by decide +kernel) ?_
              gi_wp2
              refine ⟨⟨⟨k + 1, _, by omega, HN.out, rfl, by rw [HXS.out, ← List.append_assoc]; exact h3.out.1, hkd.trans h3.out.2⟩⟩, ?_⟩
              simp only [intOf]
              have := Nat.and_le_right (n := both) (m := both - 1)
              omega
            · simp only [List.setIfInBounds_toArray, List.set_cons_succ, List.set_cons_zero]
              refine regi_runP hF 17 (.bool true) rfl rfl (by decide +kernel) (by decide +kernel) rfl (by kernel_rfl) ?_
              simp only [List.setIfInBounds_toArray, List.set_cons_succ, List.set_cons_zero]
              refine regi_done (by decide +kernel) ?_
              gi_wp2
              go_ret
              obtain ⟨q, hq, hjx⟩ := h3.out
              exact .inr ⟨rfl, itemsF (k * 256) first (dm ma mb) ++ q, (List.prefix_append_right_inj _).2 hq |>.trans (by rw [← HXS.out]; exact itemsF_prefix (by omega)), by rw [← List.append_assoc]; exact hjx⟩
end Go.Proofs.YtednjhlkhecihaaGreatDoor
