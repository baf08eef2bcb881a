/- The walks over package disk: has, Len, Lose, Misdirect, Write, Read: what each call returns and what it does to the disk, in terms of the plain model. -/
import Derived.Test.YtdeblpnkpefbcaaRows
import Derived.Test.YtdeblpnkpefbcaaDm
import Derived.Test.YtdeblpnkpefbcaaAp
import Derived.WalkSpells
import Derived.WalkLawsBesides
import Derived.Deep.QuietTactic
import Derived.BigQuiet
import Derived.Deep.RegionHeld3
import Derived.Lib.Hide
import Derived.Outline
namespace Go.Proofs.Ytdeblpnkpefbcaa
open Go.RowKit Go.Sl Go.ChangeMaps

abbrev TD : TypeId := 65
abbrev TS : TypeId := 72

theorem disk_cells {w : World} {p : Nat} {x y z : Value} {F : HProp} (h : Sat w (pts p (.cells #[x, y, z] TD (0, 0)) * F)) :
    w.cell? ⟨p, 0, none⟩ = some x ∧ w.cell? ⟨p, 1, none⟩ = some y ∧ w.cell? ⟨p, 2, none⟩ = some z :=
  ⟨cells_at h.block 0, cells_at h.block 1, cells_at h.block 2⟩

set_option maxHeartbeats 400000 in
theorem has_any (p : Nat) (b : Option Addr) (n c : Nat) (i : Int) (w : World) (c0 : w.cell? ⟨p, 0, none⟩ = some (.slice b n c)) :
    Calls Try.prog 41 #[.pointer (some ⟨p, 0, none⟩), .int .i64 i] w fun e w' => e = .returned (.bool (decide (0 ≤ i) && decide (i < (n : Int)))) ∧ w = w' := by
  by_cases h : 0 ≤ i
  · go_enter Try.func41, Try.ntmps41
    go_wp2
    go_ret
    exact ⟨by simp [h], rfl⟩
  · go_enter Try.func41, Try.ntmps41
    go_wp2
    go_ret
    exact ⟨by rw [show decide (0 ≤ i) = false from decide_eq_false (by omega)]; rfl, rfl⟩

theorem zeroTS (w : World) : (zeroValue TS).run Try.prog w = .ok (secV zsec) w := by kernel_rfl
theorem infoTS {s : List UInt8} (h : s.length = 64) : (Try.prog.info? TS).map (·.size) = some (secA s).size := by
  rw [secA_size, h]; kernel_rfl

section
variable {ops : Array Oper} {rest : List Oper} {o : Oper} {a : Act} {w : World} {Q : Exit → Act → World → Prop}
theorem wp_store_sec {z s : List UInt8} (hz : z.length = 64) (hs : s.length = 64) (hg : o.guard = none) (x y : Operand) (ho : o.op = .store TS x y)
    (hx : a.eval x = .pointer (some ⟨w.heap.size, 0, none⟩)) (hy : a.eval y = secV s) (k : wpList Try.prog ops Q rest (a.put o.dst undef) (w.alloc (.cells (secA s) TS))) :
    wpList Try.prog ops Q (o :: rest) a (w.alloc (.cells (secA z) TS)) :=
  wpList_store_fresh hg TS x y ho TS _ (secA s) hx hy (infoTS hs) (by rw [secA_size, secA_size, hs, hz]) (by rw [secA_toList]; exact secL_one) k
theorem wp_load_sec {s : List UInt8} (hs : s.length = 64) (hg : o.guard = none) (x : Operand) (ho : o.op = .load TS x)
    (hx : a.eval x = .pointer (some ⟨w.heap.size, 0, none⟩)) (k : wpList Try.prog ops Q rest (a.put o.dst (secV s)) (w.alloc (.cells (secA s) TS))) :
    wpList Try.prog ops Q (o :: rest) a (w.alloc (.cells (secA s) TS)) :=
  wpList_load_fresh hg TS x ho TS _ _ hx _ Try.underlying72 rfl (infoTS hs) k
theorem wp_str_sec {s : List UInt8} (hs : s.length = 64) {T : TypeId} {c : Nat} {fr : Nat × Nat} (hg : o.guard = none) (x : Operand) (ho : o.op = .convert 56 9 x)
    (hx : a.eval x = .slice (some ⟨w.heap.size, 0, none⟩) 64 c) (k : wpList Try.prog ops Q rest (a.put o.dst (.string ⟨s.toArray⟩)) (w.alloc (.cells (secA s) T fr))) :
    wpList Try.prog ops Q (o :: rest) a (w.alloc (.cells (secA s) T fr)) := by
  refine wpList_run hg (v := .string ⟨s.toArray⟩) (w' := w.alloc (.cells (secA s) T fr)) ?_ k
  have := run_convert_bytes_back (P := Try.prog) (w.alloc (.cells (secA s) T fr)) 56 9 5 ⟨w.heap.size, 0, none⟩ c s Try.underlying56 Try.underlying5 Try.underlying9 (by
    intro j hj
    have hb : (w.alloc (.cells (secA s) T fr)).heap[w.heap.size]? = some (.cells (secA s) T fr) := heap_alloc_new w _
    rw [Addr.add_mid, cells_at hb]
    simp [secA, secL, byteV, hj])
  rw [hs] at this
  unfold execOp
  simp [ho, hx, this]
theorem wp_load_dur {s : List UInt8} {b off : Nat} (hs : s.length = 64) (hr : w.rangeAt b off (secL s)) (hg : o.guard = none) (x : Operand) (ho : o.op = .load TS x)
    (hx : a.eval x = .pointer (some ⟨b, off, none⟩)) (k : wpList Try.prog ops Q rest (a.put o.dst (secV s)) w) : wpList Try.prog ops Q (o :: rest) a w :=
  wpList_load_mid hg TS x ho b off hx (secL s) _ hr Try.underlying72 rfl (by rw [infoTS hs, secA_size, secL_length]) k
end

/-- '[]byte(s)' of a string as long as a sector. -/
theorem conv_sec {s : List UInt8} (hs : s.length = 64) (W : World) : ∃ W' cap, (convert 9 56 (.string ⟨s.toArray⟩)).run Try.prog W = .ok (.slice (some ⟨W.heap.size, 0, none⟩) 64 cap) W' ∧
    W'.rangeAt W.heap.size 0 (secL s) ∧ Below W.heap.size W W' := by
  have h := run_bytes_of_string (P := Try.prog) W 9 56 5 ⟨s.toArray⟩ Try.underlying9 Try.underlying56 Try.underlying5
  have hsz : (⟨s.toArray⟩ : ByteArray).size = 64 := by show s.toArray.size = 64; simpa using hs
  rw [hsz] at h
  refine ⟨_, _, h, ?_, ((Below.refl W.heap.size W).drew).alloc (Nat.le_refl _) _⟩
  intro j u hu
  have hb : ∀ ob : Obj, (W.drew.alloc ob).heap[W.heap.size]? = some ob := fun ob => heap_alloc_new W.drew ob
  rw [cells_at (hb _)]
  have hj : j < s.length := by have := (List.getElem?_eq_some_iff.1 hu).1; simpa [secL] using this
  simp only [secL, List.getElem?_map] at hu
  have hu' : (s.map fun b => Value.int .u8 b.toNat)[j]? = some u := by simpa [byteV] using hu
  rw [Nat.zero_add]
  unfold bytesRow
  rw [Array.getElem?_append_left (by simpa using hj)]
  simpa using hu'

set_option maxHeartbeats 400000 in
theorem read_any (p : Nat) (D : DiskM) (F : HProp) (i : Int) (w : World) (hS : Sat w (diskAt TD TS p D * F)) :
    Calls Try.prog 18 #[.pointer (some ⟨p, 0, none⟩), .int .i64 i] w fun e w' =>
      e = .returned (.tuple #[.string ⟨(D.read i).1.toArray⟩, .int .i64 (D.read i).2]) ∧ Below w.heap.size w w' := by
  obtain ⟨v, cb, ab, es, c, l, es2, c2, l2, ⟨hwf, hM, hK, hM2, hK2⟩, hs⟩ := diskAt_iff.1 hS
  have hsd := hs.right
  have hcb : w.heap[cb]? = some (.map es c) := (hs.right.right).block
  by_cases h : D.has i = true
  · have h2 := DiskM.has_iff.1 h
    obtain ⟨k, rfl⟩ := Int.eq_ofNat_of_zero_le h2.1
    have hkn : k < D.n := by omega
    have hd : (decide (0 ≤ (k : Int)) && decide ((k : Int) < (D.n : Int))) = true := h
    obtain ⟨b, cap, dc, ⟨rfl, hcap, hdc, hD⟩, hsb⟩ := (durAt_iff (by omega)).1 hsd
    obtain ⟨q0, q1, q2⟩ := disk_cells hs
    have hb := cells_at hsb.block
    have hlen := DiskM.content_length hwf hkn
    have hr : D.read (k : Int) = (D.content k, 0) := by unfold DiskM.read; rw [if_pos h]; rfl
    have hl0 := run_lookup_ok (P := Try.prog) (w := w) Try.underlying62 Try.underlying3 (zeroTS w) hcb hM (k : Int)
    have hlk0 := hK (k : Int)
    rw [if_pos h2.1] at hlk0
    simp only [Int.toNat_natCast] at hlk0
    rw [hr]
    clear hr
    unfold DiskM.content at hlen ⊢
    cases hca : D.cache k with
    | some s =>
      rw [hca] at hlk0 hlen
      rw [hlk0] at hl0
      simp only [Option.map_some, Option.getD_some, Option.isSome_some] at hl0 hlen ⊢
      clear hlk0 hca hD hK hM hM2 hK2 hwf hs hsd hsb hS h
      go_enter Try.func18, Try.ntmps18
      go_wp2_with (first
        | (go_at_call 41; refine (has_any _ _ _ _ _ _ q0).mono ?_; rintro e w' ⟨rfl, rfl⟩)
        | ((with_reducible (refine wpList_alloc_zero ?_ TS ?_ _ (zeroTS _) ?_)); rfl; rfl)
        | ((with_reducible (apply wp_store_sec zsec_length hlen)); rfl; rfl; rfl; rfl)
        | ((with_reducible (apply wp_str_sec hlen)); rfl; rfl; rfl))
      go_ret2
      exact ⟨rfl, (Below.refl _ _).alloc (Nat.le_refl _) _⟩
    | none =>
      rw [hca] at hlk0 hlen
      rw [hlk0] at hl0
      simp only [Option.map_none, Option.getD_none, Option.isSome_none] at hl0 hlen ⊢
      have hblt := hsb.lt
      have hplt := hs.lt
      have hra : ∀ ob, (w.alloc ob).rangeAt b (k * 64) (secL (D.dur k)) := by
        intro ob j u hu
        rw [World.cell?_alloc_lt _ _ _ hblt, hb]
        exact hD k hkn j u hu
      clear hlk0 hca hD hK hM hM2 hK2 hwf hs hsd hsb hS h
      go_enter Try.func18, Try.ntmps18
      go_wp2_with (first
        | (go_at_call 41; refine (has_any _ _ _ _ _ _ q0).mono ?_; rintro e w' ⟨rfl, rfl⟩)
        | ((with_reducible (refine wpList_alloc_zero ?_ TS ?_ _ (zeroTS _) ?_)); rfl; rfl)
        | ((with_reducible (apply wp_load_dur hlen (hra _))); rfl; rfl; rfl)
        | ((with_reducible (apply wp_store_sec zsec_length zsec_length)); rfl; rfl; rfl; rfl)
        | ((with_reducible (apply wp_store_sec zsec_length hlen)); rfl; rfl; rfl; rfl)
        | ((with_reducible (apply wp_str_sec hlen)); rfl; rfl; rfl))
      go_ret2
      exact ⟨rfl, (Below.refl _ _).alloc (Nat.le_refl _) _⟩
  · have hd : (decide (0 ≤ i) && decide (i < (D.n : Int))) = false := by simpa [DiskM.has] using h
    obtain ⟨b, cap, rfl⟩ := durAt_slice hs.right
    obtain ⟨q0, q1, q2⟩ := disk_cells hs
    have hr : D.read i = ([], 1) := by unfold DiskM.read; rw [if_neg h]
    rw [hr]
    clear hS hs hM hK hM2 hK2 hwf hr hcb hsd
    go_enter Try.func18, Try.ntmps18
    go_wp2_with (go_at_call 41; refine (has_any _ _ _ _ _ _ q0).mono ?_; rintro e w' ⟨rfl, rfl⟩)
    go_ret2
    exact ⟨rfl, Below.refl _ _⟩


end Go.Proofs.Ytdeblpnkpefbcaa
