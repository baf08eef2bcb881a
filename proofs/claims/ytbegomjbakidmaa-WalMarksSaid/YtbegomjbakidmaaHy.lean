/- What the laws about a power failure share: what they are handed, a configuration of any size, New for every configuration. -/
import Derived.Test.YtbegomjbakidmaaHq
import Derived.Test.YtbegomjbakidmaaHp
import Derived.Test.YtbegomjbakidmaaSx
import Derived.Test.YtbegomjbakidmaaRe
namespace Go.Proofs.Ytbegomjbakidmaa
open Go.RowKit Go.Sl Go.ChangeMaps

def BoolsAt (w : World) (v : Value) (l : List Bool) : Prop := ∃ ao cap, v = .slice ao l.length cap ∧ (l ≠ [] → ∃ b off, ao = some ⟨b, off, none⟩ ∧ ∀ j x, l[j]? = some x → w.cell? ⟨b, off + j * 1, none⟩ = some (.bool x))
theorem kept_cell {w w' : World} {P : HProp} (hs : Sat w' (P * Sl.old w)) {b o : Nat} {u : Value} (h : w.cell? ⟨b, o, none⟩ = some u) : w'.cell? ⟨b, o, none⟩ = some u := by
  have hb : b < w.heap.size := by
    rcases Nat.lt_or_ge b w.heap.size with h2 | h2
    · exact h2
    · simp [World.cell?, Array.getElem?_eq_none h2] at h
  rw [← h]
  simp [World.cell?, hs.of_old b hb]
theorem BoolsAt.old {w w' : World} {v : Value} {l : List Bool} {P : HProp} (h : BoolsAt w v l) (hs : Sat w' (P * Sl.old w)) : BoolsAt w' v l := by
  obtain ⟨ao, cap, rfl, h⟩ := h
  refine ⟨ao, cap, rfl, fun hl => ?_⟩
  obtain ⟨b, off, rfl, hc⟩ := h hl
  exact ⟨b, off, rfl, fun j x hx => kept_cell hs (hc j x hx)⟩
theorem ints_old {w w' : World} {v : Value} {l : List Int} {P : HProp} (h : IntsC w v l) (hs : Sat w' (P * Sl.old w)) : IntsC w' v l := by
  obtain ⟨ao, cap, rfl, hc, h⟩ := h
  refine ⟨ao, cap, rfl, hc, fun hl => ?_⟩
  obtain ⟨b, off, rfl, hc⟩ := h hl
  exact ⟨b, off, rfl, fun j x hx => kept_cell hs (hc j x hx)⟩
theorem rd_bools {w : World} {cs : List Value} (h : Rd Try.prog w 48 cs) : ∃ v l, cs = [v] ∧ BoolsAt w v l ∧ l.length ≤ maxLen := by
  obtain ⟨ao, len, cap, rfl, hm, hc⟩ := Rd.slice (sz := 1) Try.underlying48 (by kernel_rfl) (by decide) h
  by_cases h0 : len = 0
  · subst h0
    exact ⟨_, [], rfl, ⟨ao, cap, rfl, fun h => absurd rfl h⟩, Nat.zero_le _⟩
  · obtain ⟨b, off, rfl, hi⟩ := hc (by omega)
    obtain ⟨l, hl, hp⟩ := list_of (p := fun i (n : Bool) => w.cell? ⟨b, off + i * 1, none⟩ = some (.bool n)) len (by
      intro i hlt
      obtain ⟨es, _, hr, hcell⟩ := hi i hlt
      obtain ⟨n, rfl⟩ := Rd.bool Try.underlying4 hr
      exact ⟨n, hcell 0 _ rfl⟩)
    subst hl
    exact ⟨_, l, rfl, ⟨some ⟨b, off, none⟩, cap, rfl, fun _ => ⟨b, off, rfl, hp⟩⟩, hm⟩
theorem rd_intsC {w : World} {cs : List Value} (h : Rd Try.prog w 49 cs) : ∃ v l, cs = [v] ∧ IntsC w v l ∧ l.length ≤ maxLen := by
  obtain ⟨ao, len, cap, rfl, ⟨hm, hlc⟩, hc⟩ := Rd.sliceC (sz := 1) Try.underlying49 (by kernel_rfl) (by decide) h
  by_cases h0 : len = 0
  · subst h0
    exact ⟨_, [], rfl, ⟨ao, cap, rfl, Nat.zero_le _, fun h => absurd rfl h⟩, Nat.zero_le _⟩
  · obtain ⟨b, off, rfl, hi⟩ := hc (by omega)
    obtain ⟨l, hl, hp⟩ := list_of (p := fun i (n : Int) => w.cell? ⟨b, off + i * 1, none⟩ = some (.int .i64 n)) len (by
      intro i hlt
      obtain ⟨es, _, hr, hcell⟩ := hi i hlt
      obtain ⟨n, rfl, _⟩ := Rd.int Try.underlying3 hr
      exact ⟨n, hcell 0 _ rfl⟩)
    subst hl
    exact ⟨_, l, rfl, ⟨some ⟨b, off, none⟩, cap, rfl, hlc, fun _ => ⟨b, off, rfl, hp⟩⟩, hm⟩
/-- Strings handed in, the capacity said. -/
theorem rd_strsC {w : World} {cs : List Value} (h : Rd Try.prog w 22 cs) : ∃ ao cap l, cs = [.slice ao l.length cap] ∧ l.length ≤ cap ∧ StrsAt w (.slice ao l.length cap) (List.map strB l) ∧ ∀ r ∈ l, r.length ≤ 9223372036854775807 := by
  obtain ⟨v, l, rfl, hs, _, hm⟩ := rd_strs h
  obtain ⟨ao, len, cap, e, ⟨_, hlc⟩, _⟩ := Rd.sliceC (sz := 1) Try.underlying22 (by kernel_rfl) (by decide) h
  obtain ⟨ao', cap', rfl, _⟩ := id hs
  rw [List.length_map] at *
  simp only [List.cons.injEq, Value.slice.injEq, and_true] at e
  obtain ⟨rfl, rfl, rfl⟩ := e
  exact ⟨ao', cap', l, rfl, hlc, hs, hm⟩
/-- The configuration of a log of any size: the addition wraps. -/
def cfgAny (n : Int) : CfgM := ⟨2, 1, 1, 0, wrap64 (n + 3), 1⟩
set_option maxRecDepth 20000 in
theorem config18_w (n : Int) (w : World) : Calls Try.prog 19 #[.int .i64 n] w fun e w' => e = .returned (.agg (cfgA (cfgAny n))) ∧ Below w.heap.size w w' := by
  go_enter Try.func19, Try.ntmps19
  go_wp2
  refine bodyPost_ret (v := .agg (cfgA (cfgAny n))) (results_cell_row Try.results19 _ _ w.heap.size TCfg (cfgA (cfgAny n)) (0, 0) _ rfl (heap_alloc_new w _) Try.underlying53 rfl (infoTCfg _)) rfl ⟨rfl, (Below.refl _ _).alloc (Nat.le_refl _) _⟩
/-- A configuration that is valid, but too great for a disk. -/
theorem snew_big (c : CfgM) (F : HProp) (w : World) (hF : Sat w F) (hok : c.ok = true) (hsm : 65536 < c.sectors) :
    Calls Try.prog 18 #[.agg (cfgA c)] w fun e w' => e = .returned (.tuple #[.pointer none, .int .i64 2]) ∧ Hid (Same w w' ∧ Sat w' F) := by
  have hc := check_any c (w.alloc (.cells (cfgA c) TCfg))
  rw [if_pos hok] at hc
  have hb : (1 ≤ c.rows ∧ c.rows ≤ 4096) ∧ (1 ≤ c.log ∧ c.log ≤ 65536) ∧ 1 ≤ c.image ∧ c.image ≤ 65536 := by
    unfold CfgM.ok inB at hok
    simp only [Bool.and_eq_true, decide_eq_true_eq] at hok
    omega
  have hsec := fun w' => sectors_any c w' (by omega) (by omega) (by omega)
  have hlim : decide (65536 < c.sectors) = true := decide_eq_true hsm
  obtain ⟨sc, hsc⟩ : ∃ sc, c.sectors = sc := ⟨_, rfl⟩
  rw [hsc] at hsec hlim
  have HF := Lib.hid (And.intro ((Same.refl w).alloc (.cells (cfgA c) TCfg)) (hF.alloc (.cells (cfgA c) TCfg)))
  have HSEC := Lib.hid hsec
  clear hF hok hsm hsc hsec hb
  go_enter Try.func18, Try.ntmps18
  go_wp2_with (first
    | (go_at_call 38; refine hc.mono ?_; rintro e w1 ⟨rfl, hb⟩; replace HF := Lib.hid (And.intro (HF.out.1.below hb) (HF.out.2.below hb)); obtain ⟨⟨b0, b1, b2⟩, ⟨b3, b4, b5⟩, bl, br⟩ := cfg_cells HF.out.2; clear hb hc br)
    | (go_at_call 39; refine (HSEC.out _).mono ?_; rintro e w2 ⟨rfl, hb⟩; replace HF := Lib.hid (And.intro (HF.out.1.below hb) (HF.out.2.below hb)); clear b0 b1 b2 b3 b4 b5 bl; obtain ⟨⟨b0, b1, b2⟩, ⟨b3, b4, b5⟩, bl, br⟩ := cfg_cells HF.out.2; clear hb br))
  go_ret2
  exact ⟨rfl, HF.out.1, HF.out.2.right⟩
theorem scan_fine0 {p : Nat} {c : CfgM} {S : ShelfM} {F : HProp} {d : Int} {N : Nat} (hf : FineS c S) (hN : (N : Int) = logN c) (hd : 0 ≤ d ∧ d < c.disks) {t : TailM} (ht : tailV t = true) {l : List (List UInt8)} {t' : TailM} (hsc : ScanL (conL S d) N d t l t') (hll : l.length ≤ 100000) {w : World} (hS : Sat w (shelfAt SH p S * F)) :
    Calls Try.prog 12 #[.pointer (some ⟨p, 0, none⟩), .int .i64 d, .agg (tailA t)] w fun e w' => ∃ v, e = .returned (.tuple #[v, .agg (tailA t'), .int .i64 0]) ∧ Hid (Same w w' ∧ Sat w' (ownS v l * (shelfAt SH p S * F))) := by
  have hl := hf.wf.cfg.log
  rw [hf.cfg] at hl
  have hNl : (N : Int) ≤ c.log := by rw [hN]; unfold logN; omega
  refine scan_any p S F d N (conL S d) (by rw [hf.cfg]; exact hN) (by rw [hf.cfg]; exact hd) (hf.reads hd.1 hd.2 hNl) (fun j hj => con_len hS (hf.st d hd.1 hd.2) (by rw [hf.cfg]; omega)) t ht l t' hsc hll w hS
/-- New, whatever the size. -/
theorem new_any18 (size : Int) (F : HProp) (w : World) (hF : Sat w F) :
    Calls Try.prog 18 #[.agg (cfgA (cfgAny size))] w fun e w' => (∃ p, (cfgAny size).WF ∧ e = .returned (.tuple #[.pointer (some ⟨p, 0, none⟩), .int .i64 0]) ∧ Hid (Same w w' ∧ Sat w' (shelfAt SH p (ShelfM.new (cfgAny size)) * F))) ∨ (∃ er : Int, er ≠ 0 ∧ e = .returned (.tuple #[.pointer none, .int .i64 er]) ∧ Hid (Same w w' ∧ Sat w' F)) := by
  cases hok : (cfgAny size).ok
  · exact (snew_bad _ F w hF hok).mono fun e w' h => .inr ⟨1, by decide, h.1, h.2⟩
  · by_cases hs : (cfgAny size).sectors ≤ 65536
    · exact (snew_ok _ F w hF hok hs).mono fun e w' ⟨p, h1, h2⟩ => .inl ⟨p, ok_wf hok hs, h1, h2⟩
    · exact (snew_big _ F w hF hok (by omega)).mono fun e w' h => .inr ⟨2, by decide, h.1, h.2⟩
theorem size_small {size : Int} (h0 : -9223372036854775808 ≤ size) (h1 : size ≤ 9223372036854775807) (h : (cfgAny size).WF) (h2 : size ≤ 40) : cfgAny size = cfgW size := by
  have h3 : 1 ≤ wrap64 (size + 3) ∧ wrap64 (size + 3) ≤ 65536 := h.log
  have h4 : wrap64 (size + 3) = size + 3 := by unfold wrap64 at h3 ⊢; omega
  unfold cfgAny cfgW
  rw [h4]
end Go.Proofs.Ytbegomjbakidmaa
