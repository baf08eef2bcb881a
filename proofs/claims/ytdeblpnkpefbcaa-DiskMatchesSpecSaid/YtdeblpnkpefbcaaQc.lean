/- solventref16.Pending. -/
import Derived.Test.YtdeblpnkpefbcaaQb
namespace Go.Proofs.Ytdeblpnkpefbcaa
open Go.RowKit Go.Sl Go.ChangeMaps

/-- The disk with its sectors in hand, be there any or none. -/
def refA (p : Nat) (ao : Option Addr) (n cap : Nat) (L : List SecV) (F : HProp) : HProp := pts p (.cells #[.slice ao n cap] TRk (0, 0)) * (ownAt TRs 4 (.slice ao n cap) L.length (L.flatMap secE) * (secsT TU8 L * F))
theorem refA_refD {p : Nat} {ao : Option Addr} {n cap : Nat} {L : List SecV} {F : HProp} {D : DiskM} {w : World} (hwf : D.WF) (hr : RefOf D L) (h : Sat w (refA p ao n cap L F)) : Sat w (refD RT p D * F) := refD_iff.2 ⟨.slice ao n cap, L, ⟨hwf, hr⟩, h⟩
def penK (D : DiskM) (k : Nat) : List Nat := (List.range k).filter fun i => (D.cache i).isSome
theorem penK_succ (D : DiskM) (k : Nat) : penK D (k + 1) = penK D k ++ (if (D.cache k).isSome = true then [k] else []) := by
  unfold penK; rw [List.range_succ, List.filter_append]; congr 1
  cases h : (D.cache k).isSome <;> simp [h]
theorem penK_le (D : DiskM) (k : Nat) : (penK D k).length ≤ k := by
  unfold penK
  refine Nat.le_trans (List.length_filter_le _ _) ?_
  rw [List.length_range]; exact Nat.le_refl _
def intV (j : Nat) : Value := .int .i64 (j : Int)
abbrev TIn : TypeId := 3
structure PenSt (w : World) (p : Nat) (ao : Option Addr) (n cap : Nat) (D : DiskM) (L : List SecV) (F : HProp) (o i : Value) (wr : World) : Prop where
  st : ∃ k : Nat, k ≤ n ∧ i = .int .i64 (k : Int) ∧ Hid (Same w wr ∧ Sat wr (ownAt TIn 1 o (penK D k).length ((penK D k).map intV) * refA p ao n cap L F))
theorem info_In : (Try.prog.info? TIn).map (fun i => (i.zero, i.size, i.bytes)) = some (some (.int .i64 0), 1, 8) := by kernel_rfl
theorem one_newQ (w : World) (c : Int) : ∀ j u, [Value.int .i64 c][j]? = some u → (w.alloc (.cells #[.int .i64 c] TIn)).cell? ((⟨w.heap.size, 0, none⟩ : Addr).add j) = some u := by
  intro j u hu
  match j, hu with
  | 0, hu => rw [Addr.add_mid, cells_at (heap_alloc_new _ _)]; simpa using hu
set_option maxRecDepth 20000 in
set_option maxHeartbeats 4000000 in
theorem rpendingA_any (p : Nat) (D : DiskM) (F : HProp) (ao : Option Addr) (n cap : Nat) (L : List SecV) (w : World) (hwf : D.WF) (hr : RefOf D L) (hn0 : L.length = n) (h0 : Sat w (refA p ao n cap L F)) :
    Calls Try.prog 33 #[.pointer (some ⟨p, 0, none⟩)] w fun e w' => ∃ v, e = .returned v ∧ Hid (Same w w' ∧ Sat w' (ownAt TIn 1 v D.pending.length (D.pending.map intV) * refA p ao n cap L F)) := by
  have hn := Lib.hid hn0
  clear hn0
  have hn6 : n ≤ 65536 := by rw [← hn.out, hr.len]; exact hwf.small
  have HR := Lib.hid (And.intro hwf hr)
  have H0 := Lib.hid h0
  clear h0 hwf hr
  go_enter Try.func33, Try.ntmps33
  go_upto_region 3 with (fail)
  go_loopw [3, 4] (fun o i wr => PenSt w p ao n cap D L F o i wr) (fun _ i _ => n - (intOf i).toNat)
  case atStart => exact ⟨⟨0, Nat.zero_le _, rfl, Same.refl w, ownAt_nil.2 H0.out⟩⟩
  case round =>
    clear H0
    obtain ⟨k, hk, rfl, H1⟩ := hrel.st
    clear hrel
    have c0 : wr.cell? ⟨p, 0, none⟩ = some (.slice ao n cap) := cells_at (H1.out.2.right.block) 0
    obtain ⟨ro, rc, rfl⟩ := ownAt_slice H1.out.2
    have hpl := penK_le D k
    obtain ⟨m, hm⟩ : ∃ m, Hid ((penK D k).length = m) := ⟨_, Lib.hid rfl⟩
    rw [hm.out] at hpl H1 ⊢
    by_cases hlt : k < n
    · have hltd : decide ((k : Int) < (n : Int)) = true := decide_eq_true (by omega)
      have hki : (k : Int) < (n : Int) := by omega
      have hk0 : (0 : Int) ≤ (k : Int) := by omega
      have hk6 : (k : Int) ≤ 65536 := by omega
      have hw1 : IntKind.i64.wrap ((k : Int) + 1) = (k : Int) + 1 := IntWalk.i64_in _ (by omega)
      obtain ⟨x, hx⟩ : ∃ x, L[k]? = some x := ⟨_, List.getElem?_eq_getElem (by rw [hn.out]; exact hlt)⟩
      obtain ⟨g, rfl, -, -, e2, -⟩ := sec_cells (H1.out.2.right.right) hx
      have hpe := HR.out.2.pend k x hx
      have HL := Lib.hid (And.intro hk hlt)
      cases hp : x.1.pend
      · rw [hp] at e2 hpe
        have HS := Lib.hid (show penK D (k + 1) = penK D k from by rw [penK_succ, if_neg (by rw [← hpe]; decide), List.append_nil])
        clear hp hpe hx hlt hk
        go_wp2
        go_roundw
        case rel => exact ⟨⟨k + 1, HL.out.2, rfl, by rw [HS.out, hm.out]; exact H1.out⟩⟩
        case measure => have := HL.out; simp only [intOf]; omega
      · rw [hp] at e2 hpe
        have HS := Lib.hid (show penK D (k + 1) = penK D k ++ [k] from by rw [penK_succ, if_pos (by rw [← hpe])])
        clear hp hpe hx hlt hk
        obtain ⟨ti, hti, hz0, hts, hz2⟩ := info_parts info_In
        go_wp2_with (at_builtin; refine wpList_append_ownAt rfl _ _ 30 TIn rfl ti _ Try.underlying30 hti hz0 hts hz2 rfl (H1.out.2.allocKeep _) [.int .i64 (k : Int)] rfl rfl rfl (one_newQ _ _) (by simp [Value.oneCell']) (by unfold maxLen; omega) (by omega) ?_; intro v8 w8 h8)
        go_roundw
        case rel => exact ⟨⟨k + 1, HL.out.2, rfl, (H1.out.1.alloc _).trans h8.out.1, by rw [HS.out, List.length_append, hm.out, List.map_append]; exact h8.out.2⟩⟩
        case measure => have := HL.out; simp only [intOf]; omega
    · obtain rfl : k = n := by omega
      have hltd : decide (k < k) = false := decide_eq_false (by omega)
      have HF := Lib.hid (show D.pending = penK D k from by
        have : D.n = k := by rw [← HR.out.2.len, hn.out]
        unfold DiskM.pending penK; rw [this])
      clear hlt hk
      go_wp2
      go_ret
      refine ⟨_, rfl, H1.out.1, ?_⟩
      rw [HF.out, hm.out]
      exact H1.out.2
theorem rpending_any (p : Nat) (D : DiskM) (F : HProp) (w : World) (hS : Sat w (refD RT p D * F)) :
    Calls Try.prog 33 #[.pointer (some ⟨p, 0, none⟩)] w fun e w' => ∃ v, e = .returned v ∧ Hid (Same w w' ∧ Sat w' (ownAt TIn 1 v D.pending.length (D.pending.map intV) * (refD RT p D * F))) := by
  obtain ⟨v, L, ⟨hwf, hr⟩, hs⟩ := refD_iff.1 hS
  obtain ⟨ao, cap, rfl⟩ := ownAt_slice hs.right
  refine (rpendingA_any p D F ao L.length cap L w hwf hr rfl hs).mono fun e w' h => ?_
  obtain ⟨v, he, h2⟩ := h
  refine ⟨v, he, h2.out.1, ?_⟩
  have h3 := refA_refD hwf hr (h2.out.2.perm (show _ = refA p ao L.length cap L (ownAt TIn 1 v D.pending.length (D.pending.map intV) * F) from by unfold refA; ac_rfl))
  exact h3.perm (by ac_rfl)
end Go.Proofs.Ytdeblpnkpefbcaa
