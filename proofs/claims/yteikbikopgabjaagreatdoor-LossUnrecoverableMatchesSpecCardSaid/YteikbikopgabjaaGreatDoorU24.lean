import Derived.Test.YteikbikopgabjaaGreatDoorU21
import Derived.Test.YteikbikopgabjaaGreatDoorU23
import Derived.Test.YteikbikopgabjaaGreatDoorU01
import Derived.RegionTactic
import Derived.BigRegion
/- Part 24 of a proof; the last part says what is proved. -/
namespace Go.Sl
open Go Go.RowKit Go.GF
def bigs : Nat → (Nat → HProp) → HProp
  | 0, _ => emp
  | n + 1, P => P n * bigs n P
def hole (P : Nat → HProp) (i : Nat) : Nat → HProp := fun k => if k = i then emp else P k
theorem bigs_congr : ∀ {n : Nat} {P Q : Nat → HProp}, (∀ k, k < n → P k = Q k) → bigs n P = bigs n Q
  | 0, _, _, _ => rfl
  | n + 1, P, Q, h => by
    unfold bigs
    rw [h n (by omega), bigs_congr fun k hk => h k (by omega)]
theorem bigs_pick : ∀ {n i : Nat} (_ : i < n) (P : Nat → HProp), bigs n P = P i * bigs n (hole P i)
  | n + 1, i, h, P => by
    by_cases e : i = n
    · subst e
      show P i * bigs i P = P i * (hole P i i * bigs i (hole P i))
      rw [show hole P i i = emp by unfold hole; rw [if_pos rfl], emp_star, bigs_congr (Q := P) (P := hole P i) fun k hk => by unfold hole; rw [if_neg (by omega)]]
    · show P n * bigs n P = P i * (hole P i n * bigs n (hole P i))
      rw [bigs_pick (show i < n by omega) P, show hole P i n = P n by unfold hole; rw [if_neg (Ne.symm e)]]
      ac_rfl
theorem bigs_upd {n i : Nat} (h : i < n) {P Q : Nat → HProp} (hq : ∀ k, k ≠ i → Q k = P k) : bigs n Q = Q i * bigs n (hole P i) := by
  rw [bigs_pick h Q, bigs_congr (P := hole Q i) (Q := hole P i) fun k _ => by
    unfold hole
    by_cases e : k = i
    · rw [if_pos e, if_pos e]
    · rw [if_neg e, if_neg e, hq k e]]
theorem bigs_swap {n a b : Nat} (ha : a < n) (hb : b < n) (P : Nat → HProp) : bigs n (fun k => P (if k = a then b else if k = b then a else k)) = bigs n P := by
  by_cases e : a = b
  · subst e
    refine bigs_congr fun k _ => ?_
    by_cases h : k = a
    · rw [if_pos h, h]
    · rw [if_neg h, if_neg h]
  · obtain ⟨Q, hQ⟩ : ∃ Q : Nat → HProp, Q = fun k => P (if k = a then b else if k = b then a else k) := ⟨_, rfl⟩
    rw [← hQ, bigs_pick ha Q, bigs_pick hb (hole Q a), bigs_pick ha P, bigs_pick hb (hole P a)]
    have e1 : Q a = P b := by rw [hQ]; simp
    have e2 : hole Q a b = P a := by unfold hole; rw [hQ]; simp [Ne.symm e]
    have e3 : hole P a b = P b := by unfold hole; rw [if_neg (Ne.symm e)]
    rw [e1, e2, e3, bigs_congr (P := hole (hole Q a) b) (Q := hole (hole P a) b) fun k _ => by
      unfold hole
      by_cases h1 : k = b
      · rw [if_pos h1, if_pos h1]
      · rw [if_neg h1, if_neg h1]
        by_cases h2 : k = a
        · rw [if_pos h2, if_pos h2]
        · rw [if_neg h2, if_neg h2, hQ]
          simp [h1, h2]]
    ac_rfl
def hdrV (C : Nat) (g : Nat × Nat) : Value := .slice (some ⟨g.1, 0, none⟩) C g.2
def rowS (T : TypeId) (g : Nat × Nat) (C : Nat) (f : Nat → Nat) : HProp :=
  ex fun c : Array Value => lift (C ≤ g.2 ∧ g.2 ≤ maxLen ∧ c.size = g.2 ∧ ∀ j, j < C → c[j]? = some (.int .i64 ((f j : Nat) : Int))) * pts g.1 (.cells c T (0, 0))
def hdrS (T : TypeId) (ga cap R C : Nat) (g : Nat → Nat × Nat) : HProp :=
  ex fun c : Array Value => lift (R ≤ cap ∧ cap ≤ maxLen ∧ c.size = cap ∧ ∀ i, i < R → c[i]? = some (hdrV C (g i))) * pts ga (.cells c T (0, 0))
def sysS (TS TR TI : TypeId) (gs m ga cap R C : Nat) (g : Nat → Nat × Nat) (M : Mat) : HProp :=
  pts gs (.cells #[.int .i64 (m : Int), .slice (some ⟨ga, 0, none⟩) R cap] TS (0, 0)) * (hdrS TR ga cap R C g * bigs R fun i => rowS TI (g i) C (M i))
section
variable {w : World} {F : HProp} {T TS TR TI : TypeId} {gs m ga cap R C : Nat} {g : Nat → Nat × Nat} {M : Mat}
theorem rowS_iff {g : Nat × Nat} {f : Nat → Nat} : Sat w (rowS T g C f * F) ↔ ∃ c : Array Value, (C ≤ g.2 ∧ g.2 ≤ maxLen ∧ c.size = g.2 ∧ ∀ j, j < C → c[j]? = some (.int .i64 ((f j : Nat) : Int))) ∧ Sat w (pts g.1 (.cells c T (0, 0)) * F) := by
  unfold rowS
  rw [Sat.ex]
  refine exists_congr fun c => ?_
  rw [star_assoc, Sat.lift]
theorem hdrS_iff : Sat w (hdrS T ga cap R C g * F) ↔ ∃ c : Array Value, (R ≤ cap ∧ cap ≤ maxLen ∧ c.size = cap ∧ ∀ i, i < R → c[i]? = some (hdrV C (g i))) ∧ Sat w (pts ga (.cells c T (0, 0)) * F) := by
  unfold hdrS
  rw [Sat.ex]
  refine exists_congr fun c => ?_
  rw [star_assoc, Sat.lift]
theorem rowS_congr {g : Nat × Nat} {f f' : Nat → Nat} (h : ∀ j, j < C → f j = f' j) : rowS T g C f = rowS T g C f' := by
  unfold rowS
  congr 1
  funext c
  congr 2
  apply propext
  refine and_congr_right fun _ => and_congr_right fun _ => and_congr_right fun _ => forall_congr' fun j => forall_congr' fun hj => by rw [h j hj]
theorem sysS_congr {M' : Mat} (h : ∀ i, i < R → ∀ j, j < C → M i j = M' i j) : sysS TS TR TI gs m ga cap R C g M = sysS TS TR TI gs m ga cap R C g M' := by
  unfold sysS
  rw [bigs_congr fun k hk => rowS_congr (h k hk)]
theorem sys_pick {i : Nat} (hi : i < R) : sysS TS TR TI gs m ga cap R C g M * F = rowS TI (g i) C (M i) * (pts gs (.cells #[.int .i64 (m : Int), .slice (some ⟨ga, 0, none⟩) R cap] TS (0, 0)) * (hdrS TR ga cap R C g * (bigs R (hole (fun i => rowS TI (g i) C (M i)) i) * F))) := by
  unfold sysS
  rw [bigs_pick hi]
  ac_rfl
theorem sys_box (h : Sat w (sysS TS TR TI gs m ga cap R C g M * F)) : w.cell? ⟨gs, 0, none⟩ = some (.int .i64 (m : Int)) ∧ w.cell? ⟨gs, 1, none⟩ = some (.slice (some ⟨ga, 0, none⟩) R cap) := by
  have := (h.perm (show _ = pts gs (.cells #[.int .i64 (m : Int), .slice (some ⟨ga, 0, none⟩) R cap] TS (0, 0)) * (hdrS TR ga cap R C g * (bigs R fun i => rowS TI (g i) C (M i)) * F) by unfold sysS; ac_rfl)).block
  exact ⟨cells_at this 0, cells_at this 1⟩
theorem sys_hdr (h : Sat w (sysS TS TR TI gs m ga cap R C g M * F)) : ∃ c : Array Value, (R ≤ cap ∧ cap ≤ maxLen ∧ c.size = cap ∧ ∀ i, i < R → c[i]? = some (hdrV C (g i))) ∧
    Sat w (pts ga (.cells c TR (0, 0)) * (pts gs (.cells #[.int .i64 (m : Int), .slice (some ⟨ga, 0, none⟩) R cap] TS (0, 0)) * ((bigs R fun i => rowS TI (g i) C (M i)) * F))) :=
  hdrS_iff.1 (h.perm (by unfold sysS; ac_rfl))
theorem sys_head (h : Sat w (sysS TS TR TI gs m ga cap R C g M * F)) {i : Nat} (hi : i < R) : w.cell? ⟨ga, i, none⟩ = some (.slice (some ⟨(g i).1, 0, none⟩) C (g i).2) := by
  obtain ⟨c, ⟨-, -, -, h4⟩, hs⟩ := sys_hdr h
  rw [cells_at hs.block]
  exact h4 i hi
theorem sys_cell (h : Sat w (sysS TS TR TI gs m ga cap R C g M * F)) {i j : Nat} (hi : i < R) (hj : j < C) : w.cell? ⟨(g i).1, j, none⟩ = some (.int .i64 ((M i j : Nat) : Int)) ∧ w.frozen? ⟨(g i).1, j, none⟩ = false := by
  obtain ⟨c, ⟨-, -, -, h4⟩, hs⟩ := rowS_iff.1 (h.perm (sys_pick hi))
  exact ⟨by rw [cells_at hs.block]; exact h4 j hj, thawed_at hs.block j⟩
theorem sys_set (h : Sat w (sysS TS TR TI gs m ga cap R C g M * F)) {i j : Nat} (hi : i < R) (hj : j < C) (x : Nat) : Sat (w.setCell ⟨(g i).1, j, none⟩ (.int .i64 (x : Int))) (sysS TS TR TI gs m ga cap R C g (setM M i j x) * F) := by
  obtain ⟨c, ⟨h1, h2, h3, h4⟩, hs⟩ := rowS_iff.1 (h.perm (sys_pick hi))
  refine Sat.perm (rowS_iff.2 ⟨_, ⟨h1, h2, by simpa using h3, fun j' hj' => ?_⟩, hs.setCell (i := j) (.int .i64 (x : Int))⟩) (show rowS TI (g i) C (setM M i j x i) * _ = _ from ?_)
  · unfold setM
    by_cases e : j' = j
    · subst e
      rw [if_pos ⟨rfl, rfl⟩, Array.getElem?_setIfInBounds_self_of_lt (by omega)]
    · rw [if_neg (fun h => e h.2), Array.getElem?_setIfInBounds_ne (Ne.symm e)]
      exact h4 j' hj'
  · unfold sysS
    rw [bigs_upd (Q := fun k => rowS TI (g k) C (setM M i j x k)) (P := fun k => rowS TI (g k) C (M k)) hi fun k hk => by
      show rowS TI (g k) C (setM M i j x k) = rowS TI (g k) C (M k)
      congr 1
      funext j'
      unfold setM
      rw [if_neg (fun h => hk h.1)]]
    ac_rfl
def swG (g : Nat → Nat × Nat) (a b : Nat) : Nat → Nat × Nat := fun k => g (if k = a then b else if k = b then a else k)
theorem sys_swap (h : Sat w (sysS TS TR TI gs m ga cap R C g M * F)) {a b : Nat} (ha : a < R) (hb : b < R) :
    (w.frozen? ⟨ga, a, none⟩ = false) ∧ (w.setCell ⟨ga, a, none⟩ (hdrV C (g b))).cell? ⟨gs, 1, none⟩ = some (.slice (some ⟨ga, 0, none⟩) R cap) ∧
    (∃ v, (w.setCell ⟨ga, a, none⟩ (hdrV C (g b))).cell? ⟨ga, b, none⟩ = some v) ∧ (w.setCell ⟨ga, a, none⟩ (hdrV C (g b))).frozen? ⟨ga, b, none⟩ = false ∧
    Sat ((w.setCell ⟨ga, a, none⟩ (hdrV C (g b))).setCell ⟨ga, b, none⟩ (hdrV C (g a))) (sysS TS TR TI gs m ga cap R C (swG g a b) (swapM M a b) * F) := by
  obtain ⟨c, ⟨h1, h2, h3, h4⟩, hs⟩ := sys_hdr h
  have hs1 := hs.setCell (i := a) (hdrV C (g b))
  have hs2 := hs1.setCell (i := b) (hdrV C (g a))
  have hp := (hs1.perm (show _ = pts gs (.cells #[.int .i64 (m : Int), .slice (some ⟨ga, 0, none⟩) R cap] TS (0, 0)) * (pts ga (.cells (c.setIfInBounds a (hdrV C (g b))) TR (0, 0)) * ((bigs R fun i => rowS TI (g i) C (M i)) * F)) by ac_rfl)).block
  refine ⟨thawed_at hs.block a, cells_at hp 1, ⟨if b = a then hdrV C (g b) else hdrV C (g b), ?_⟩, thawed_at hs1.block b, ?_⟩
  · rw [cells_at hs1.block]
    by_cases e : b = a
    · rw [if_pos e, e, Array.getElem?_setIfInBounds_self_of_lt (by omega)]
    · rw [if_neg e, Array.getElem?_setIfInBounds_ne (Ne.symm e)]
      exact h4 b hb
  · have hx := hdrS_iff.2 ⟨_, ⟨h1, h2, (by simpa using h3), fun i hi => (show ((c.setIfInBounds a (hdrV C (g b))).setIfInBounds b (hdrV C (g a)))[i]? = some (hdrV C (swG g a b i)) from ?_)⟩, hs2⟩
    · refine hx.perm ?_
      unfold sysS
      rw [show (bigs R fun i => rowS TI (swG g a b i) C (swapM M a b i)) = bigs R fun i => rowS TI (g i) C (M i) from bigs_swap ha hb fun i => rowS TI (g i) C (M i)]
      ac_rfl
    · unfold swG
      by_cases e : i = b
      · subst e
        rw [Array.getElem?_setIfInBounds_self_of_lt (by simp; omega)]
        by_cases e2 : i = a
        · rw [if_pos e2, e2]
        · rw [if_neg e2, if_pos rfl]
      · rw [Array.getElem?_setIfInBounds_ne (Ne.symm e)]
        by_cases e2 : i = a
        · subst e2
          rw [Array.getElem?_setIfInBounds_self_of_lt (by omega), if_pos rfl]
        · rw [Array.getElem?_setIfInBounds_ne (Ne.symm e2), if_neg e2, if_neg e]
          exact h4 i hi
end
end Go.Sl
namespace Go.GF
open Go
def elimM (mul : Nat → Nat → Nat) (inv : Nat → Nat) (R k r : Nat) (M : Mat) : Mat :=
  match findR M R r k with
  | none => M
  | some i => pivM mul inv R k i r M
theorem elimM_none {mul : Nat → Nat → Nat} {inv : Nat → Nat} {R k r : Nat} {M : Mat} (h : findR M R r k = none) : elimM mul inv R k r M = M := by unfold elimM; rw [h]
theorem elimM_some {mul : Nat → Nat → Nat} {inv : Nat → Nat} {R k r i : Nat} {M : Mat} (h : findR M R r k = some i) : elimM mul inv R k r M = pivM mul inv R k i r M := by unfold elimM; rw [h]
theorem addK_at (mul : Nat → Nat → Nat) (M : Mat) (i r f k a : Nat) : addK mul M i r f k a k = M a k := by unfold addK; rw [if_neg (by omega)]
theorem clear_none {q : Nat} {mul : Nat → Nat → Nat} {inv : Nat → Nat} (h : Ops q mul inv) {R C r jc n : Nat} {M : Mat} (hB : Bnd q R C M) (hr : r < R) (h0 : M n jc = 0) : ∀ i, i < R → ∀ j, j < C → clearM mul M r jc n i j = clearM mul M r jc (n + 1) i j := by
  intro i hi j hj
  unfold clearM
  by_cases e : i = n
  · subst e
    rw [if_neg (by omega)]
    by_cases e2 : i = r
    · rw [if_neg (by omega)]
    · rw [if_pos ⟨by omega, e2⟩, h0, h.zl (hB r hr j hj), Nat.xor_zero]
  · by_cases e2 : i < n ∧ i ≠ r
    · rw [if_pos e2, if_pos ⟨by omega, e2.2⟩]
    · rw [if_neg e2, if_neg (fun h => e2 ⟨by omega, h.2⟩)]
end Go.GF
namespace Go.Proofs.YteikbikopgabjaaGreatDoor
open Go.RowKit Go.GF Go.Sl
abbrev TSy : TypeId := 234
abbrev TRo : TypeId := 36
structure SysW (w0 : World) (gs m ga cap R C : Nat) (g : Nat → Nat × Nat) (M : Mat) (F : HProp) (w : World) : Prop where
  same : Same w0 w
  sat : Sat w (sysS TSy TRo TI gs m ga cap R C g M * F)
section
variable {w0 w w' : World} {gs m ga cap R C : Nat} {g : Nat → Nat × Nat} {M : Mat} {F : HProp}
theorem SysW.below (h : SysW w0 gs m ga cap R C g M F w) (hb : Below w.heap.size w w') : SysW w0 gs m ga cap R C g M F w' := ⟨h.same.below hb, h.sat.below hb⟩
theorem SysW.drew (h : SysW w0 gs m ga cap R C g M F w) : SysW w0 gs m ga cap R C g M F w.drew := ⟨h.same.drew, h.sat.drew⟩
theorem SysW.congr {M' : Mat} (h : SysW w0 gs m ga cap R C g M F w) (he : ∀ i, i < R → ∀ j, j < C → M i j = M' i j) : SysW w0 gs m ga cap R C g M' F w := ⟨h.same, h.sat.perm (by rw [sysS_congr he])⟩
theorem SysW.set (h : SysW w0 gs m ga cap R C g M F w) {i j : Nat} (hi : i < R) (hj : j < C) (x : Nat) : SysW w0 gs m ga cap R C g (setM M i j x) F (w.setCell ⟨(g i).1, j, none⟩ (.int .i64 (x : Int))) := ⟨h.same.setCell _ _, sys_set h.sat hi hj x⟩
end
theorem info_row1 : (Tryz.prog.info? TRo).map (·.size) = some 1 := by kernel_rfl
theorem exec_ixR {a : Act} {o : Oper} {w : World} {n c b off i : Nat} {x y : Operand} (ho : o.op = .indexAddr 44 x y) (hx : a.eval x = .slice (some ⟨b, off, none⟩) n c) (hy : a.eval y = .int .i64 (i : Int)) (hi : i < n) :
    (execOp a.eval o).run Tryz.prog w = .ok (.value (.pointer (some ⟨b, off + i, none⟩))) w := by
  obtain ⟨ti, hti, hts⟩ := Option.map_eq_some_iff.1 info_row1
  have h := exec_index_slice (P := Tryz.prog) (w := w) ho hx hy Tryz.underlying44 hti hts hi
  rwa [Nat.mul_one] at h
structure ElF (w : World) (R r k : Nat) (M : Mat) (v : Value) (wr : World) : Prop where
  st : ∃ p : Nat, r ≤ p ∧ p ≤ R ∧ v = .int .i64 (p : Int) ∧ (∀ i', r ≤ i' → i' < p → M i' k = 0) ∧ w = wr
structure ElS (w : World) (gs m ga cap R C : Nat) (g : Nat → Nat × Nat) (M : Mat) (F : HProp) (r f : Nat) (v : Value) (wr : World) : Prop where
  st : ∃ n : Nat, n ≤ C ∧ v = .int .i64 (n : Int) ∧ SysW w gs m ga cap R C g (scK (mulC m) M r f n) F wr
structure ElCf (w : World) (gs m ga cap R C : Nat) (g : Nat → Nat × Nat) (M : Mat) (F : HProp) (r k : Nat) (v : Value) (wr : World) : Prop where
  st : ∃ n : Nat, n ≤ R ∧ v = .int .i64 (n : Int) ∧ SysW w gs m ga cap R C g (clearM (mulC m) M r k n) F wr
structure ElA (w : World) (gs m ga cap R C : Nat) (g : Nat → Nat × Nat) (M : Mat) (F : HProp) (q r f : Nat) (v : Value) (wr : World) : Prop where
  st : ∃ n : Nat, n ≤ C ∧ v = .int .i64 (n : Int) ∧ SysW w gs m ga cap R C g (addK (mulC m) M q r f n) F wr
set_option maxRecDepth 20000 in
set_option maxHeartbeats 4000000 in
theorem elim_any (m : Nat) (hm : isF m) (R C gs ga cap : Nat) (hR : R ≤ 64) (hC : C ≤ 64) (g : Nat → Nat × Nat) (M0 : Mat) (hB : Bnd (2 ^ m) R C M0) (k r : Nat) (hk : k < C) (hr : r ≤ R) (F : HProp) (w : World) (hS : Sat w (sysS TSy TRo TI gs m ga cap R C g M0 * F)) :
    Calls Tryz.prog 148 #[.pointer (some ⟨gs, 0, none⟩), .int .i64 (k : Int), .int .i64 (r : Int)] w fun e w' =>
      e = .returned (.bool (findR M0 R r k).isSome) ∧ ∃ g', SysW w gs m ga cap R C g' (elimM (mulC m) (invC m) R k r M0) F w' := by
  have HIV := Lib.hid (fun a (ha : a < 2 ^ m) (h0 : a ≠ 0) W => r8inverse_any m hm a ha h0 W)
  have HTM := Lib.hid (fun f x (hf : f < 2 ^ m) (hx : x < 2 ^ m) W => r8times_any m hm f x hf hx W)
  have HQ := Lib.hid (opsC hm)
  have HM62 := Lib.hid (show m ≤ 62 by rcases hm with rfl | rfl <;> omega)
  have HB := Lib.hid hB
  have H0 := Lib.hid (show SysW w gs m ga cap R C g M0 F w from ⟨Same.refl w, hS⟩)
  obtain ⟨b0, b1⟩ := sys_box hS
  clear hm hB hS
  go_enter Tryz.func148, Tryz.ntmps148
  go_wp2
  go_loopw [7] (fun v wr => ElF w R r k M0 v wr) (fun v _ => R - (intOf v).toNat)
  case atStart => exact ⟨⟨r, Nat.le_refl _, hr, rfl, fun i' h1 h2 => by omega, rfl⟩⟩
  case round =>
    obtain ⟨p, hrp, hpR, rfl, hz, rfl⟩ := hrel.st
    clear hrel
    have HZ := Lib.hid (And.intro hrp hz)
    clear hrp hz
    by_cases hp : p < R
    · have hpd : decide ((p : Int) < (R : Int)) = true := decide_eq_true (by omega)
      have hwp : IntKind.i64.wrap ((p : Int) + 1) = (p : Int) + 1 := IntWalk.i64_in _ (by omega)
      have c1 := sys_head H0.out.sat hp
      have c2 := (sys_cell H0.out.sat hp hk).1
      by_cases h0 : M0 p k = 0
      · rw [h0] at c2
        have HZ2 := Lib.hid (show ∀ i', r ≤ i' → i' < p + 1 → M0 i' k = 0 from fun i' h1 h2 => by
          by_cases e : i' = p
          · rw [e]; exact h0
          · exact HZ.out.2 i' h1 (by omega))
        clear h0
        go_wp2
        go_roundw
        case rel => exact ⟨⟨p + 1, by have := HZ.out.1; omega, hp, rfl, HZ2.out, rfl⟩⟩
        case measure => simp only [intOf]; omega
      · have h0d : (((M0 p k : Nat) : Int) == 0) = false := by simpa using h0
        have hpn : ((p : Int) == (R : Int)) = false := by simp; omega
        have hrR : r < R := by have := HZ.out.1; omega
        have c3 := sys_head H0.out.sat hrR
        have HF := Lib.hid (findR_is HZ.out.1 hp h0 HZ.out.2)
        obtain ⟨f1, f2, ⟨v3, f3⟩, f4, f5⟩ := sys_swap H0.out.sat hp hrR
        have HS1 := Lib.hid (show SysW w gs m ga cap R C (swG g p r) (swapM M0 p r) F ((w.setCell ⟨ga, p, none⟩ (.slice (some ⟨(g r).1, 0, none⟩) C (g r).2)).setCell ⟨ga, r, none⟩ (.slice (some ⟨(g p).1, 0, none⟩) C (g p).2)).drew from ⟨(((Same.refl w).setCell _ _).setCell _ _).drew, f5⟩)
        have f2' : ((w.setCell ⟨ga, p, none⟩ (.slice (some ⟨(g r).1, 0, none⟩) C (g r).2)).drew.cell? ⟨gs, 1, none⟩) = _ := f2
        have f3' : ((w.setCell ⟨ga, p, none⟩ (.slice (some ⟨(g r).1, 0, none⟩) C (g r).2)).drew.cell? ⟨ga, r, none⟩) = _ := f3
        have f4' : ((w.setCell ⟨ga, p, none⟩ (.slice (some ⟨(g r).1, 0, none⟩) C (g r).2)).drew.frozen? ⟨ga, r, none⟩) = _ := f4
        have HB1 := Lib.hid (bnd_swap HB.out hp hrR)
        have HX1 := Lib.hid (show swapM M0 p r r k ≠ 0 by
          unfold swapM
          by_cases e : r = p
          · rw [if_pos e, e]; exact h0
          · rw [if_neg e, if_pos rfl]; exact h0)
        have HG := Lib.hid (show (g p) = swG g p r r by
          unfold swG
          by_cases e : r = p
          · rw [if_pos e, e]
          · rw [if_neg e, if_pos rfl])
        clear f2 f3 f4 f5 h0 hpR
        go_upto_region 7 with (fail)
        go_region
        clear c3 f1 c1 c2
        go_upto_region 9 with (fail)
        have HG2 := Lib.hid (show g r = swG g p r p by unfold swG; rw [if_pos rfl])
        generalize ((w.setCell ⟨ga, p, none⟩ (.slice (some ⟨(g r).1, 0, none⟩) C (g r).2)).setCell ⟨ga, r, none⟩ (.slice (some ⟨(g p).1, 0, none⟩) C (g p).2)).drew = w1 at *
        rw [HG.out]
        clear f2' f3' f4' hpd hpn hwp HG HG2 b0 b1 h0d HZ
        have HNX := Lib.hid (show elimM (mulC m) (invC m) R k r M0 = clearM (mulC m) (scaleM (mulC m) (swapM M0 p r) r (invC m (swapM M0 p r r k))) r k R from elimM_some HF.out)
        generalize swG g p r = g1 at *
        generalize swapM M0 p r = M1 at *
        refine regU_begin (fun w' => SysW w gs m ga cap R C g1 M1 F w') (by kernel_rfl) HS1.out.drew ?_
        (apply regU_take 0 rfl rfl (by decide +kernel) rfl); (intro w' hw'; go_simp; rfl); simp only [List.setIfInBounds_toArray, List.set_cons_succ, List.set_cons_zero]
        (apply regU_take 1 rfl rfl (by decide +kernel) rfl); (intro w' hw'; go_simp; rfl); simp only [List.setIfInBounds_toArray, List.set_cons_succ, List.set_cons_zero]
        (apply regU_take 2 rfl rfl (by decide +kernel) rfl); (intro w' hw'; go_simp; rfl); simp only [List.setIfInBounds_toArray, List.set_cons_succ, List.set_cons_zero]
        refine regU_take 3 (v := .int .i64 (m : Int)) rfl rfl (by decide +kernel) rfl (fun w' h => exec_load_cell rfl rfl Tryz.underlying3 rfl (sys_box h.sat).1) ?_; simp only [List.setIfInBounds_toArray, List.set_cons_succ, List.set_cons_zero]
        (apply regU_take 4 rfl rfl (by decide +kernel) rfl); (intro w' hw'; go_simp; rfl); simp only [List.setIfInBounds_toArray, List.set_cons_succ, List.set_cons_zero]
        (apply regU_take 5 rfl rfl (by decide +kernel) rfl); (intro w' hw'; go_simp; rfl); simp only [List.setIfInBounds_toArray, List.set_cons_succ, List.set_cons_zero]
        refine regU_take 6 (v := .pointer (some ⟨(g1 r).1, 0 + k, none⟩)) rfl rfl (by decide +kernel) rfl (fun w' h => exec_ixI rfl rfl rfl hk) ?_; simp only [List.setIfInBounds_toArray, List.set_cons_succ, List.set_cons_zero]
        refine regU_take 7 (v := .int .i64 ((M1 r k : Nat) : Int)) rfl rfl (by decide +kernel) rfl (fun w' h => exec_load_cell rfl rfl Tryz.underlying3 rfl (by rw [Nat.zero_add]; exact (sys_cell h.sat hrR hk).1)) ?_; simp only [List.setIfInBounds_toArray, List.set_cons_succ, List.set_cons_zero]
        refine regU_call 8 (f := 160) (args := #[.int .i64 (m : Int), .int .i64 ((M1 r k : Nat) : Int)]) (v := .int .i64 ((invC m (M1 r k) : Nat) : Int)) rfl rfl (by decide +kernel) rfl (fun w' => by kernel_rfl) (fun w' h => (HIV.out (M1 r k) (HB1.out r hrR k hk) HX1.out w').mono fun e w'' h2 => ⟨h2.1, h.below h2.2⟩) ?_
        simp only [List.setIfInBounds_toArray, List.set_cons_succ, List.set_cons_zero]
        (apply regU_take 9 rfl rfl (by decide +kernel) rfl); (intro w' hw'; go_simp; rfl); simp only [List.setIfInBounds_toArray, List.set_cons_succ, List.set_cons_zero]
        refine regU_done (by decide +kernel) ?_
        intro w2 h2
        have HF2 := Lib.hid h2
        have HFI := Lib.hid (HQ.out.invs _ (HB1.out r hrR k hk) HX1.out)
        clear h2 HS1
        generalize hf : invC m (M1 r k) = f at *
        clear hf
        go_wp2
        go_loopw [10] (fun v wr => ElS w gs m ga cap R C g1 M1 F r f v wr) (fun v _ => C - (intOf v).toNat)
        case atStart => exact ⟨⟨0, Nat.zero_le _, rfl, by rw [scK_zero]; exact HF2.out⟩⟩
        case round =>
          clear HF2
          obtain ⟨n, hn, rfl, hF⟩ := hrel.st
          clear hrel
          have HF3 := Lib.hid hF
          clear hF
          by_cases hnC : n < C
          · have hnd : decide ((n : Int) < (C : Int)) = true := decide_eq_true (by omega)
            have hwn : IntKind.i64.wrap ((n : Int) + 1) = (n : Int) + 1 := IntWalk.i64_in _ (by omega)
            go_wp2
            refine regU_begin (fun w' => SysW w gs m ga cap R C g1 (scK (mulC m) M1 r f n) F w') (by kernel_rfl) HF3.out.drew ?_
            (apply regU_take 0 rfl rfl (by decide +kernel) rfl); (intro w' hw'; go_simp; rfl); simp only [List.setIfInBounds_toArray, List.set_cons_succ, List.set_cons_zero]
            (apply regU_take 1 rfl rfl (by decide +kernel) rfl); (intro w' hw'; go_simp; rfl); simp only [List.setIfInBounds_toArray, List.set_cons_succ, List.set_cons_zero]
            (apply regU_take 2 rfl rfl (by decide +kernel) rfl); (intro w' hw'; go_simp; rfl); simp only [List.setIfInBounds_toArray, List.set_cons_succ, List.set_cons_zero]
            (apply regU_take 3 rfl rfl (by decide +kernel) rfl); (intro w' hw'; go_simp; rfl); simp only [List.setIfInBounds_toArray, List.set_cons_succ, List.set_cons_zero]
            (apply regU_take 4 rfl rfl (by decide +kernel) rfl); (intro w' hw'; go_simp; rfl); simp only [List.setIfInBounds_toArray, List.set_cons_succ, List.set_cons_zero]
            refine regU_take 5 (v := .int .i64 (m : Int)) rfl rfl (by decide +kernel) rfl (fun w' h => exec_load_cell rfl rfl Tryz.underlying3 rfl (sys_box h.sat).1) ?_; simp only [List.setIfInBounds_toArray, List.set_cons_succ, List.set_cons_zero]
            (apply regU_take 6 rfl rfl (by decide +kernel) rfl); (intro w' hw'; go_simp; rfl); simp only [List.setIfInBounds_toArray, List.set_cons_succ, List.set_cons_zero]
            (apply regU_take 7 rfl rfl (by decide +kernel) rfl); (intro w' hw'; go_simp; rfl); simp only [List.setIfInBounds_toArray, List.set_cons_succ, List.set_cons_zero]
            (apply regU_take 8 rfl rfl (by decide +kernel) rfl); (intro w' hw'; go_simp; rfl); simp only [List.setIfInBounds_toArray, List.set_cons_succ, List.set_cons_zero]
            refine regU_take 9 (v := .pointer (some ⟨(g1 r).1, 0 + n, none⟩)) rfl rfl (by decide +kernel) rfl (fun w' h => exec_ixI rfl rfl rfl hnC) ?_; simp only [List.setIfInBounds_toArray, List.set_cons_succ, List.set_cons_zero]
            refine regU_take 10 (v := .int .i64 ((M1 r n : Nat) : Int)) rfl rfl (by decide +kernel) rfl (fun w' h => exec_load_cell rfl rfl Tryz.underlying3 rfl (by rw [Nat.zero_add, ← scK_at (mulC m) M1 r f n r]; exact (sys_cell h.sat hrR hnC).1)) ?_; simp only [List.setIfInBounds_toArray, List.set_cons_succ, List.set_cons_zero]
            refine regU_call 11 (f := 161) (args := #[.int .i64 (m : Int), .int .i64 (f : Int), .int .i64 ((M1 r n : Nat) : Int)]) (v := .int .i64 ((mulC m f (M1 r n) : Nat) : Int)) rfl rfl (by decide +kernel) rfl (fun w' => by kernel_rfl) (fun w' h => (HTM.out f (M1 r n) HFI.out.1 (HB1.out r hrR n hnC) w').mono fun e w'' h2 => ⟨h2.1, h.below h2.2⟩) ?_
            simp only [List.setIfInBounds_toArray, List.set_cons_succ, List.set_cons_zero]
            refine regU_take 12 (v := .pointer (some ⟨(g1 r).1, 0 + n, none⟩)) rfl rfl (by decide +kernel) rfl (fun w' h => exec_ixI rfl rfl rfl hnC) ?_; simp only [List.setIfInBounds_toArray, List.set_cons_succ, List.set_cons_zero]
            refine regU_alone (S' := fun _ => True) 13 (by decide +kernel) ?_
            intro w7 h7
            have HF8 := Lib.hid (show SysW w gs m ga cap R C g1 (scK (mulC m) M1 r f (n + 1)) F (w7.setCell ⟨(g1 r).1, 0 + n, none⟩ (.int .i64 ((mulC m f (M1 r n) : Nat) : Int))) by rw [Nat.zero_add, ← scK_set]; exact h7.set hrR hnC _)
            have h8 := sys_cell h7.sat hrR hnC
            rw [← Nat.zero_add n] at h8
            refine reg_do_last 13 (w7.setCell ⟨(g1 r).1, 0 + n, none⟩ (.int .i64 ((mulC m f (M1 r n) : Nat) : Int))) rfl rfl (by decide +kernel) rfl (exec_stI rfl rfl rfl h8.1 h8.2) ?_
            generalize w7.setCell ⟨(g1 r).1, 0 + n, none⟩ (.int .i64 ((mulC m f (M1 r n) : Nat) : Int)) = w8 at *
            clear h7 h8 HF3
            go_wp2
            go_roundw
            case rel => exact ⟨⟨n + 1, hnC, rfl, HF8.out⟩⟩
            case measure => simp only [intOf]; omega
          · have hne : n = C := by omega
            have hnd : decide ((n : Int) < (C : Int)) = false := decide_eq_false (by omega)
            have HF4 := Lib.hid (show SysW w gs m ga cap R C g1 (scaleM (mulC m) M1 r f) F wr by have h := HF3.out; rw [hne] at h; exact h.congr fun a _ j hj => scK_all _ _ _ _ _ a j hj)
            have HB2 := Lib.hid (bnd_scale HQ.out hrR HFI.out.1 HB1.out)
            clear HF3 hne
            generalize scaleM (mulC m) M1 r f = M2 at *
            go_wp2
            obtain ⟨wo2, rfl⟩ : ∃ wo2 : World, wo2 = wr := ⟨_, rfl⟩
            go_loopw [11] (fun v wr => ElCf w gs m ga cap R C g1 M2 F r k v wr) (fun v _ => R - (intOf v).toNat)
            case atStart => exact ⟨⟨0, Nat.zero_le _, rfl, by rw [clear_zero]; exact HF4.out⟩⟩
            case round =>
              clear HF4
              obtain ⟨q, hq, rfl, hF⟩ := hrel.st
              clear hrel
              have HF5 := Lib.hid hF
              clear hF
              obtain ⟨b0, b1⟩ := sys_box HF5.out.sat
              by_cases hqR : q < R
              · have hqd : decide ((q : Int) < (R : Int)) = true := decide_eq_true (by omega)
                have hwq : IntKind.i64.wrap ((q : Int) + 1) = (q : Int) + 1 := IntWalk.i64_in _ (by omega)
                have c1 := sys_head HF5.out.sat hqR
                have c2 := (sys_cell HF5.out.sat hqR hk).1
                rw [clearM_at] at c2
                by_cases hqr : q = r
                · have hqr' : ((q : Int) == (r : Int)) = true := by simp [hqr]
                  have HF6 := Lib.hid (show SysW w gs m ga cap R C g1 (clearM (mulC m) M2 r k (q + 1)) F wr by rw [hqr, clear_skip, ← hqr]; have := HF5.out; rw [hqr] at this ⊢; exact this)
                  clear HF5 hqr
                  go_wp2
                  go_roundw
                  case rel => exact ⟨⟨q + 1, hqR, rfl, HF6.out⟩⟩
                  case measure => simp only [intOf]; omega
                · have hqr' : ((q : Int) == (r : Int)) = false := by simp; omega
                  by_cases h0 : M2 q k = 0
                  · have HF6 := Lib.hid (HF5.out.congr (clear_none HQ.out HB2.out hrR h0))
                    rw [h0] at c2
                    clear HF5 h0 hqr
                    go_wp2
                    go_roundw
                    case rel => exact ⟨⟨q + 1, hqR, rfl, HF6.out⟩⟩
                    case measure => simp only [intOf]; omega
                  · have h0d : (((M2 q k : Nat) : Int) == 0) = false := by simpa using h0
                    have HM := Lib.hid (show ∀ a, a < C → clearM (mulC m) M2 r k q q a < 2 ^ m ∧ clearM (mulC m) M2 r k q r a < 2 ^ m ∧ M2 q k < 2 ^ m from fun a ha => ⟨(clear_ok HQ.out hrR hk HB2.out q hq).1 q hqR a ha, (clear_ok HQ.out hrR hk HB2.out q hq).1 r hrR a ha, HB2.out q hqR k hk⟩)
                    have HST := Lib.hid (clear_step (mul := mulC m) M2 (r := r) (jc := k) (n := q) hqr)
                    have HNR := Lib.hid hqr
                    generalize hfq : M2 q k = fq at *
                    clear h0 hqr hfq
                    generalize hMq : clearM (mulC m) M2 r k q = Mq at *
                    clear hMq
                    go_wp2
                    obtain ⟨wo3, rfl⟩ : ∃ wo3 : World, wo3 = wr := ⟨_, rfl⟩
                    clear b0 b1 c1 c2
                    go_loopw [13] (fun v wr => ElA w gs m ga cap R C g1 Mq F q r fq v wr) (fun v _ => C - (intOf v).toNat)
                    case atStart => exact ⟨⟨0, Nat.zero_le _, rfl, by rw [addK_zero]; exact HF5.out⟩⟩
                    case round =>
                      clear HF5
                      obtain ⟨n, hn, rfl, hF⟩ := hrel.st
                      clear hrel
                      have HF6 := Lib.hid hF
                      clear hF
                      by_cases hnC : n < C
                      · have hnd : decide ((n : Int) < (C : Int)) = true := decide_eq_true (by omega)
                        have hwn : IntKind.i64.wrap ((n : Int) + 1) = (n : Int) + 1 := IntWalk.i64_in _ (by omega)
                        obtain ⟨m1, m2, m3⟩ := HM.out n hnC
                        have x1 := lt62 m1 HM62.out
                        have x2 := lt62 (HQ.out.lt _ _ m3 m2) HM62.out
                        have HMM := Lib.hid (And.intro m1 (And.intro m2 (And.intro m3 (And.intro x1 x2))))
                        clear m1 m2 m3 x1 x2
                        go_wp2
                        refine regU_begin (fun w' => SysW w gs m ga cap R C g1 (addK (mulC m) Mq q r fq n) F w') (by kernel_rfl) HF6.out.drew ?_
                        (apply regU_take 0 rfl rfl (by decide +kernel) rfl); (intro w' hw'; go_simp; rfl); simp only [List.setIfInBounds_toArray, List.set_cons_succ, List.set_cons_zero]
                        (apply regU_take 1 rfl rfl (by decide +kernel) rfl); (intro w' hw'; go_simp; rfl); simp only [List.setIfInBounds_toArray, List.set_cons_succ, List.set_cons_zero]
                        (apply regU_take 2 rfl rfl (by decide +kernel) rfl); (intro w' hw'; go_simp; rfl); simp only [List.setIfInBounds_toArray, List.set_cons_succ, List.set_cons_zero]
                        refine regU_take 3 (v := .slice (some ⟨ga, 0, none⟩) R cap) rfl rfl (by decide +kernel) rfl (fun w' h => exec_load_cell rfl rfl Tryz.underlying44 rfl (sys_box h.sat).2) ?_; simp only [List.setIfInBounds_toArray, List.set_cons_succ, List.set_cons_zero]
                        (apply regU_take 4 rfl rfl (by decide +kernel) rfl); (intro w' hw'; go_simp; rfl); simp only [List.setIfInBounds_toArray, List.set_cons_succ, List.set_cons_zero]
                        refine regU_take 5 (v := .pointer (some ⟨ga, 0 + q, none⟩)) rfl rfl (by decide +kernel) rfl (fun w' h => exec_ixR rfl rfl rfl hqR) ?_; simp only [List.setIfInBounds_toArray, List.set_cons_succ, List.set_cons_zero]
                        refine regU_take 6 (v := .slice (some ⟨(g1 q).1, 0, none⟩) C (g1 q).2) rfl rfl (by decide +kernel) rfl (fun w' h => exec_load_cell rfl rfl Tryz.underlying36 rfl (by rw [Nat.zero_add]; exact sys_head h.sat hqR)) ?_; simp only [List.setIfInBounds_toArray, List.set_cons_succ, List.set_cons_zero]
                        (apply regU_take 7 rfl rfl (by decide +kernel) rfl); (intro w' hw'; go_simp; rfl); simp only [List.setIfInBounds_toArray, List.set_cons_succ, List.set_cons_zero]
                        (apply regU_take 8 rfl rfl (by decide +kernel) rfl); (intro w' hw'; go_simp; rfl); simp only [List.setIfInBounds_toArray, List.set_cons_succ, List.set_cons_zero]
                        (apply regU_take 9 rfl rfl (by decide +kernel) rfl); (intro w' hw'; go_simp; rfl); simp only [List.setIfInBounds_toArray, List.set_cons_succ, List.set_cons_zero]
                        (apply regU_take 10 rfl rfl (by decide +kernel) rfl); (intro w' hw'; go_simp; rfl); simp only [List.setIfInBounds_toArray, List.set_cons_succ, List.set_cons_zero]
                        refine regU_take 11 (v := .slice (some ⟨ga, 0, none⟩) R cap) rfl rfl (by decide +kernel) rfl (fun w' h => exec_load_cell rfl rfl Tryz.underlying44 rfl (sys_box h.sat).2) ?_; simp only [List.setIfInBounds_toArray, List.set_cons_succ, List.set_cons_zero]
                        (apply regU_take 12 rfl rfl (by decide +kernel) rfl); (intro w' hw'; go_simp; rfl); simp only [List.setIfInBounds_toArray, List.set_cons_succ, List.set_cons_zero]
                        refine regU_take 13 (v := .pointer (some ⟨ga, 0 + q, none⟩)) rfl rfl (by decide +kernel) rfl (fun w' h => exec_ixR rfl rfl rfl hqR) ?_; simp only [List.setIfInBounds_toArray, List.set_cons_succ, List.set_cons_zero]
                        refine regU_take 14 (v := .slice (some ⟨(g1 q).1, 0, none⟩) C (g1 q).2) rfl rfl (by decide +kernel) rfl (fun w' h => exec_load_cell rfl rfl Tryz.underlying36 rfl (by rw [Nat.zero_add]; exact sys_head h.sat hqR)) ?_; simp only [List.setIfInBounds_toArray, List.set_cons_succ, List.set_cons_zero]
                        (apply regU_take 15 rfl rfl (by decide +kernel) rfl); (intro w' hw'; go_simp; rfl); simp only [List.setIfInBounds_toArray, List.set_cons_succ, List.set_cons_zero]
                        refine regU_take 16 (v := .pointer (some ⟨(g1 q).1, 0 + n, none⟩)) rfl rfl (by decide +kernel) rfl (fun w' h => exec_ixI rfl rfl rfl hnC) ?_; simp only [List.setIfInBounds_toArray, List.set_cons_succ, List.set_cons_zero]
                        refine regU_take 17 (v := .int .i64 ((Mq q n : Nat) : Int)) rfl rfl (by decide +kernel) rfl (fun w' h => exec_load_cell rfl rfl Tryz.underlying3 rfl (by rw [Nat.zero_add, ← addK_at (mulC m) Mq q r fq n q]; exact (sys_cell h.sat hqR hnC).1)) ?_; simp only [List.setIfInBounds_toArray, List.set_cons_succ, List.set_cons_zero]
                        (apply regU_take 18 rfl rfl (by decide +kernel) rfl); (intro w' hw'; go_simp; rfl); simp only [List.setIfInBounds_toArray, List.set_cons_succ, List.set_cons_zero]
                        (apply regU_take 19 rfl rfl (by decide +kernel) rfl); (intro w' hw'; go_simp; rfl); simp only [List.setIfInBounds_toArray, List.set_cons_succ, List.set_cons_zero]
                        (apply regU_take 20 rfl rfl (by decide +kernel) rfl); (intro w' hw'; go_simp; rfl); simp only [List.setIfInBounds_toArray, List.set_cons_succ, List.set_cons_zero]
                        refine regU_take 21 (v := .int .i64 (m : Int)) rfl rfl (by decide +kernel) rfl (fun w' h => exec_load_cell rfl rfl Tryz.underlying3 rfl (sys_box h.sat).1) ?_; simp only [List.setIfInBounds_toArray, List.set_cons_succ, List.set_cons_zero]
                        (apply regU_take 22 rfl rfl (by decide +kernel) rfl); (intro w' hw'; go_simp; rfl); simp only [List.setIfInBounds_toArray, List.set_cons_succ, List.set_cons_zero]
                        (apply regU_take 23 rfl rfl (by decide +kernel) rfl); (intro w' hw'; go_simp; rfl); simp only [List.setIfInBounds_toArray, List.set_cons_succ, List.set_cons_zero]
                        (apply regU_take 24 rfl rfl (by decide +kernel) rfl); (intro w' hw'; go_simp; rfl); simp only [List.setIfInBounds_toArray, List.set_cons_succ, List.set_cons_zero]
                        refine regU_take 25 (v := .pointer (some ⟨(g1 r).1, 0 + n, none⟩)) rfl rfl (by decide +kernel) rfl (fun w' h => exec_ixI rfl rfl rfl hnC) ?_; simp only [List.setIfInBounds_toArray, List.set_cons_succ, List.set_cons_zero]
                        refine regU_take 26 (v := .int .i64 ((Mq r n : Nat) : Int)) rfl rfl (by decide +kernel) rfl (fun w' h => exec_load_cell rfl rfl Tryz.underlying3 rfl (by rw [Nat.zero_add, ← addK_at (mulC m) Mq q r fq n r]; exact (sys_cell h.sat hrR hnC).1)) ?_; simp only [List.setIfInBounds_toArray, List.set_cons_succ, List.set_cons_zero]
                        refine regU_call 27 (f := 161) (args := #[.int .i64 (m : Int), .int .i64 (fq : Int), .int .i64 ((Mq r n : Nat) : Int)]) (v := .int .i64 ((mulC m fq (Mq r n) : Nat) : Int)) rfl rfl (by decide +kernel) rfl (fun w' => by kernel_rfl) (fun w' h => (HTM.out fq (Mq r n) HMM.out.2.2.1 HMM.out.2.1 w').mono fun e w'' h2 => ⟨h2.1, h.below h2.2⟩) ?_
                        simp only [List.setIfInBounds_toArray, List.set_cons_succ, List.set_cons_zero]
                        refine regU_take 28 (v := .int .i64 ((xorN (Mq q n) (mulC m fq (Mq r n)) : Nat) : Int)) rfl rfl (by decide +kernel) rfl (fun w' h => exec_binop (vx := .int .i64 ((Mq q n : Nat) : Int)) (vy := .int .i64 ((mulC m fq (Mq r n) : Nat) : Int)) rfl rfl rfl rfl (by rw [b_xor _ _ _ HMM.out.2.2.2.1 HMM.out.2.2.2.2]; rfl)) ?_; simp only [List.setIfInBounds_toArray, List.set_cons_succ, List.set_cons_zero]
                        refine regU_take 29 (v := .pointer (some ⟨(g1 q).1, 0 + n, none⟩)) rfl rfl (by decide +kernel) rfl (fun w' h => exec_ixI rfl rfl rfl hnC) ?_; simp only [List.setIfInBounds_toArray, List.set_cons_succ, List.set_cons_zero]
                        refine regU_alone (S' := fun _ => True) 30 (by decide +kernel) ?_
                        intro w7 h7
                        have HF8 := Lib.hid (show SysW w gs m ga cap R C g1 (addK (mulC m) Mq q r fq (n + 1)) F (w7.setCell ⟨(g1 q).1, 0 + n, none⟩ (.int .i64 ((xorN (Mq q n) (mulC m fq (Mq r n)) : Nat) : Int))) by rw [Nat.zero_add, ← addK_set]; exact h7.set hqR hnC _)
                        have h8 := sys_cell h7.sat hqR hnC
                        rw [← Nat.zero_add n] at h8
                        refine reg_do_last 30 (w7.setCell ⟨(g1 q).1, 0 + n, none⟩ (.int .i64 ((xorN (Mq q n) (mulC m fq (Mq r n)) : Nat) : Int))) rfl rfl (by decide +kernel) rfl (exec_stI rfl rfl rfl h8.1 h8.2) ?_
                        generalize w7.setCell ⟨(g1 q).1, 0 + n, none⟩ (.int .i64 ((xorN (Mq q n) (mulC m fq (Mq r n)) : Nat) : Int)) = w8 at *
                        clear h7 h8 HF6 HMM
                        go_wp2
                        go_roundw
                        case rel => exact ⟨⟨n + 1, hnC, rfl, HF8.out⟩⟩
                        case measure => simp only [intOf]; omega
                      · have hne : n = C := by omega
                        have hnd : decide ((n : Int) < (C : Int)) = false := decide_eq_false (by omega)
                        have HF7 := Lib.hid (show SysW w gs m ga cap R C g1 (clearM (mulC m) M2 r k (q + 1)) F wr by rw [HST.out]; have h := HF6.out; rw [hne] at h; exact h.congr fun a _ j hj => addK_all _ _ _ _ _ _ a j hj)
                        clear HF6 hne
                        go_wp2
                        go_roundw
                        case rel => exact ⟨⟨q + 1, hqR, rfl, HF7.out⟩⟩
                        case measure => simp only [intOf]; omega
              · have hqe : q = R := by omega
                have hqd : decide ((q : Int) < (R : Int)) = false := decide_eq_false (by omega)
                have HF6 := Lib.hid (show SysW w gs m ga cap R C g1 (clearM (mulC m) M2 r k R) F wr by have h := HF5.out; rw [hqe] at h; exact h)
                clear HF5 hqe
                go_wp2
                go_ret
                rw [HF.out, HNX.out]
                exact ⟨rfl, _, HF6.out⟩
    · have hpe : p = R := by omega
      have hpd : decide ((p : Int) < (R : Int)) = false := decide_eq_false (by omega)
      have HN := Lib.hid (findR_isNone (M := M0) (R := R) (r := r) (j := k) fun i' h1 h2 => HZ.out.2 i' h1 (by omega))
      have hpe2 : ((p : Int) == (R : Int)) = true := by simp [hpe]
      clear hpe
      go_wp2
      go_ret
      rw [elimM_none HN.out, HN.out]
      exact ⟨rfl, _, H0.out⟩
end Go.Proofs.YteikbikopgabjaaGreatDoor
