/- The scripts that the laws of layer 16 are handed. -/
import Derived.Test.YtdeblpnkpefbcaaLd
import Derived.Test.YtdeblpnkpefbcaaLe
import Derived.Test.YtdeblpnkpefbcaaZl
namespace Go.Proofs.Ytdeblpnkpefbcaa
open Go.RowKit Go.Sl Go.ChangeMaps

theorem rd_ints {w : World} {cs : List Value} (h : Rd Try.prog w 30 cs) : ∃ v l, cs = [v] ∧ IntsAt w v l ∧ l.length ≤ maxLen := by
  obtain ⟨ao, len, cap, rfl, hm, hc⟩ := Rd.slice (sz := 1) Try.underlying30 (by kernel_rfl) (by decide) h
  by_cases h0 : len = 0
  · subst h0
    exact ⟨_, [], rfl, ⟨ao, cap, rfl, fun h => absurd rfl h⟩, Nat.zero_le _⟩
  · obtain ⟨b, off, rfl, hi⟩ := hc (by omega)
    obtain ⟨l, hl, hp⟩ := list_of (p := fun i (n : Int) => w.cell? ⟨b, off + i * 1, none⟩ = some (.int .i64 n)) len (by
      intro i hlt
      obtain ⟨es, _, hr, hcell⟩ := hi i hlt
      obtain ⟨n, rfl, _⟩ := Rd.int Try.underlying3 hr
      exact ⟨n, hcell 0 _ rfl⟩)
    subst hl
    exact ⟨_, l, rfl, ⟨some ⟨b, off, none⟩, cap, rfl, fun _ => ⟨b, off, rfl, hp⟩⟩, hm⟩

set_option maxRecDepth 20000 in
theorem rd_op {w : World} {cs : List Value} (h : Rd Try.prog w TOp cs) : ∃ o v, cs = (opA o v).toList ∧ IntsAt w v o.picks := by
  obtain ⟨hl, hf⟩ := Rd.struct Try.underlying32 h
  rw [show Try.prog.cellsOf TOp = 6 by kernel_rfl] at hl
  have k1 : Try.prog.cellsOf 3 = 1 := by kernel_rfl
  have k2 : Try.prog.cellsOf 5 = 1 := by kernel_rfl
  have k3 : Try.prog.cellsOf 30 = 1 := by kernel_rfl
  match cs, hl with
  | [a0, a1, a2, a3, a4, a5], _ =>
    simp only [List.mem_cons, List.not_mem_nil, or_false, forall_eq_or_imp, forall_eq, k1, k2, k3, List.drop_zero, List.drop_succ_cons, List.take_succ_cons, List.take_zero] at hf
    obtain ⟨h0, h1, h2, h3, h4, h5⟩ := hf
    obtain ⟨n0, e0, _⟩ := Rd.int Try.underlying3 h0
    obtain ⟨n1, e1, _⟩ := Rd.int Try.underlying3 h1
    obtain ⟨n2, e2, _⟩ := Rd.int Try.underlying3 h2
    obtain ⟨n3, e3, w3⟩ := Rd.int Try.underlying5 h3
    obtain ⟨n4, e4, _⟩ := Rd.int Try.underlying3 h4
    obtain ⟨v, l, e5, hi, _⟩ := rd_ints h5
    have hb := bounds_u8 w3
    obtain ⟨m, rfl⟩ := Int.eq_ofNat_of_zero_le hb.1
    refine ⟨⟨n0, n1, n2, UInt8.ofNat m, n4, l⟩, v, ?_, hi⟩
    simp at e0 e1 e2 e3 e4 e5
    subst e0 e1 e2 e3 e4 e5
    have : (UInt8.ofNat m).toNat = m := by simp; omega
    simp [opA, this]

/-- A script: its operations lie one behind the other. -/
def ScrAt (w : World) (v : Value) (l : List OpM) : Prop := ∃ ao cap, v = .slice ao l.length cap ∧ (l ≠ [] → ∃ b off, ao = some ⟨b, off, none⟩ ∧ ∀ j o, l[j]? = some o → ∃ pv, w.rangeAt b (off + j * 6) (opA o pv).toList ∧ IntsAt w pv o.picks)

theorem rd_script {w : World} {cs : List Value} (h : Rd Try.prog w 22 cs) : ∃ v l, cs = [v] ∧ ScrAt w v l := by
  obtain ⟨ao, len, cap, rfl, hm, hc⟩ := Rd.slice (sz := 6) Try.underlying22 (by kernel_rfl) (by decide) h
  by_cases h0 : len = 0
  · subst h0
    exact ⟨_, [], rfl, ⟨ao, cap, rfl, fun h => absurd rfl h⟩⟩
  · obtain ⟨b, off, rfl, hi⟩ := hc (by omega)
    obtain ⟨l, hl, hp⟩ := list_of (p := fun j (o : OpM) => ∃ pv, w.rangeAt b (off + j * 6) (opA o pv).toList ∧ IntsAt w pv o.picks) len (by
      intro i hlt
      obtain ⟨es, _, hr, hcell⟩ := hi i hlt
      obtain ⟨o, v, rfl, hio⟩ := rd_op hr
      exact ⟨o, v, hcell, hio⟩)
    subst hl
    exact ⟨_, l, rfl, ⟨some ⟨b, off, none⟩, cap, rfl, fun _ => ⟨b, off, rfl, hp⟩⟩⟩

theorem ScrAt.old {w w' : World} {v : Value} {l : List OpM} {P : HProp} (h : ScrAt w v l) (hs : Sat w' (P * old w)) : ScrAt w' v l := by
  have hk := hs.of_old
  have hcell : ∀ (a : Addr) u, w.cell? a = some u → w'.cell? a = some u := fun a u hu => (World.cell?_of_block (hk a.block (World.block_lt_of_cell? _ _ hu))).trans hu
  obtain ⟨ao, cap, rfl, hc⟩ := h
  refine ⟨ao, cap, rfl, fun hne => ?_⟩
  obtain ⟨b, off, rfl, hp⟩ := hc hne
  refine ⟨b, off, rfl, fun j o hj => ?_⟩
  obtain ⟨pv, h1, ai, ci, rfl, h2⟩ := hp j o hj
  refine ⟨_, fun i u hu => hcell _ _ (h1 i u hu), ai, ci, rfl, fun hn => ?_⟩
  obtain ⟨b', off', rfl, h3⟩ := h2 hn
  exact ⟨b', off', rfl, fun i x hx => hcell _ _ (h3 i x hx)⟩
theorem IntsAt.old {w w' : World} {v : Value} {l : List Int} {P : HProp} (h : IntsAt w v l) (hs : Sat w' (P * Sl.old w)) : IntsAt w' v l := by
  have hk := hs.of_old
  have hcell : ∀ (a : Addr) u, w.cell? a = some u → w'.cell? a = some u := fun a u hu => (World.cell?_of_block (hk a.block (World.block_lt_of_cell? _ _ hu))).trans hu
  obtain ⟨ai, ci, rfl, h2⟩ := h
  refine ⟨ai, ci, rfl, fun hn => ?_⟩
  obtain ⟨b', off', rfl, h3⟩ := h2 hn
  exact ⟨b', off', rfl, fun i x hx => hcell _ _ (h3 i x hx)⟩

theorem trod_rd {H : Type} {enc : TypeId × Value → H} {w : World} {t : TypeId} {v : Value} {d : DataW H} {ps : List MemPlace} (h : DataW.Trod enc Try.prog w 0 (fun _ => true) true t v d ps) : Rd Try.prog w t v.cells.toList := by
  obtain ⟨fuel, h⟩ := h
  exact ⟨H, enc, fuel, d, ps, h⟩

end Go.Proofs.Ytdeblpnkpefbcaa
