import Derived.Test.YteikbikopgabjaaGreatDoorH22
import Derived.Scope
/- Part 23 of a proof; the last part says what is proved. -/
namespace Go.GF
open Go Go.RowKit
def scK (mul : Nat → Nat → Nat) (M : Mat) (r f k : Nat) : Mat := fun a j => if a = r ∧ j < k then mul f (M r j) else M a j
theorem scK_zero (mul : Nat → Nat → Nat) (M : Mat) (r f : Nat) : scK mul M r f 0 = M := by funext a j; unfold scK; rw [if_neg (by omega)]
theorem scK_at (mul : Nat → Nat → Nat) (M : Mat) (r f k a : Nat) : scK mul M r f k a k = M a k := by unfold scK; rw [if_neg (by omega)]
theorem scK_set (mul : Nat → Nat → Nat) (M : Mat) (r f k : Nat) : setM (scK mul M r f k) r k (mul f (M r k)) = scK mul M r f (k + 1) := by
 funext a j
 unfold setM scK
 by_cases h : a = r ∧ j = k
 ·obtain ⟨rfl, rfl⟩ := h
  simp
 ·rw [if_neg h]
  by_cases h1 : a = r ∧ j < k
  ·rw [if_pos h1, if_pos ⟨h1.1, by omega⟩]
  ·rw [if_neg h1, if_neg (fun h2 => by
    rcases Nat.lt_or_ge j k with h3 | h3
    ·exact h1 ⟨h2.1, h3⟩
    ·exact h ⟨h2.1, by omega⟩)]
theorem scK_all (mul : Nat → Nat → Nat) (M : Mat) (r f C : Nat) : ∀ a, ∀ j, j < C → scK mul M r f C a j = scaleM mul M r f a j := by
 intro a j hj
 unfold scK scaleM
 by_cases h : a = r
 ·rw [if_pos ⟨h, hj⟩, if_pos h]
 ·rw [if_neg (fun h' => h h'.1), if_neg h]
theorem clearM_at (mul : Nat → Nat → Nat) (M : Mat) (r jc n : Nat) : clearM mul M r jc n n = M n := by
 funext j; unfold clearM; rw [if_neg (by omega)]
theorem findR_is {M : Mat} {R r j i : Nat} (h1 : r ≤ i) (h2 : i < R) (h3 : M i j ≠ 0) (h4 : ∀ i', r ≤ i' → i' < i → M i' j = 0) : findR M R r j = some i := by
 unfold findR
 rw [List.find?_range_eq_some]
 refine ⟨by simp [h1, h3], List.mem_range.2 h2, fun k hk => ?_⟩
 by_cases h : r ≤ k
 ·simp [h4 k h hk]
 ·simp [h]
theorem findR_isNone {M : Mat} {R r j : Nat} (h4 : ∀ i', r ≤ i' → i' < R → M i' j = 0) : findR M R r j = none := by
 unfold findR
 rw [List.find?_range_eq_none]
 intro k hk
 by_cases h : r ≤ k
 ·simp [h4 k h hk]
 ·simp [h]
def natsI (l : List Nat) : List Int := l.map fun p : Nat => (p : Int)
theorem natsI_len (l : List Nat) : (natsI l).length = l.length := List.length_map _
theorem natsI_app (l : List Nat) (j : Nat) : natsI (l ++ [j]) = natsI l ++ [(j : Int)] := by unfold natsI; simp
end Go.GF
namespace Go.Proofs.YteikbikopgabjaaGreatDoor
open Go.RowKit Go.GF Go.Sl
attribute [local go_sem high] b_nz
structure RdF (w0 : World) (b R C m cap base gA : Nat) (M : Mat) (ps : List Nat) (v : Value) (wr : World) : Prop where
 re : ReB w0 b R C m cap M gA wr
 own : OwnI base wr v (natsI ps)
 sz : base ≤ wr.heap.size
 ne : b < base ∧ gA < base ∧ gA ≠ b
section
variable {w0 wr wr' : World} {b R C m cap base gA : Nat} {M : Mat} {ps : List Nat} {v : Value}
theorem RdF.below (h : RdF w0 b R C m cap base gA M ps v wr) (hb : Below wr.heap.size wr wr') : RdF w0 b R C m cap base gA M ps v wr' :=
 ⟨h.re.below hb, h.own.below hb, Nat.le_trans h.sz hb.size, h.ne⟩
theorem RdF.drew (h : RdF w0 b R C m cap base gA M ps v wr) : RdF w0 b R C m cap base gA M ps v wr.drew :=
 ⟨h.re.drew, h.own.keep (fun _ _ _ => rfl), h.sz, h.ne⟩
theorem RdF.but {M' : Mat} (h : RdF w0 b R C m cap base gA M ps v wr) (hb : But b wr wr') (hM : MatB wr' b R C M') : RdF w0 b R C m cap base gA M' ps v wr' :=
 ⟨⟨hM, h.re.bA.but hb h.ne.2.2, h.re.bt.trans hb⟩, h.own.but hb h.ne.1, Nat.le_trans h.sz hb.size, h.ne⟩
theorem RdF.congr {M' : Mat} (h : RdF w0 b R C m cap base gA M ps v wr) (he : ∀ i, i < R → ∀ j, j < C → M i j = M' i j) : RdF w0 b R C m cap base gA M' ps v wr :=
 ⟨⟨h.re.bM.congr he, h.re.bA, h.re.bt⟩, h.own, h.sz, h.ne⟩
end
theorem RdF.app {w0 wr w9 : World} {b R C m cap base gA j : Nat} {M : Mat} {ps : List Nat} {v v' : Value} {o : Obj} (h : RdF w0 b R C m cap base gA M ps v wr) (hs : w0.heap.size ≤ base) (h9 : OwnI base w9 v' (natsI ps ++ [(j : Int)])) (h10 : Below base (wr.alloc o) w9) :
  RdF w0 b R C m cap base gA M (ps ++ [j]) v' w9 := by
 have h1 := al_below wr o
 have hz := h.sz
 have hz1 := h1.size
 have hk : ∀ k, k < base → w9.heap[k]? = wr.heap[k]? := fun k hk => (h10.block k hk).trans (h1.block k (by omega))
 exact ⟨⟨h.re.bM.keep (hk b h.ne.1), h.re.bA.keep (hk gA h.ne.2.1), ⟨h10.os.trans h.re.bt.os, h10.tape.trans h.re.bt.tape, h10.output.trans h.re.bt.output, Nat.le_trans h.re.bt.size (Nat.le_trans hz1 h10.size), fun k h2 h3 => (hk k (by omega)).trans (h.re.bt.block k h2 h3)⟩⟩,
  by rw [natsI_app]; exact h9, Nat.le_trans hz (Nat.le_trans hz1 h10.size), h.ne⟩
structure RdO (w0 : World) (b R C m cap base gA : Nat) (M0 : Mat) (v k : Value) (wr : World) : Prop where
 st : ∃ n : Nat, n ≤ C ∧ k = .int .i64 (n : Int) ∧ RdF w0 b R C m cap base gA (redM (mulC m) (invC m) R n M0).2 (redM (mulC m) (invC m) R n M0).1 v wr
structure RdI (w0 : World) (b R C m cap base gA : Nat) (M : Mat) (ps : List Nat) (v : Value) (j : Nat) (k : Value) (wr : World) : Prop where
 st : ∃ n : Nat, n ≤ R ∧ ps.length ≤ n ∧ k = .int .i64 (n : Int) ∧ (∀ i', ps.length ≤ i' → i' < n → M i' j = 0) ∧ RdF w0 b R C m cap base gA M ps v wr
structure RdS (w0 : World) (b R C m cap base gA : Nat) (M : Mat) (ps : List Nat) (v : Value) (f : Nat) (k : Value) (wr : World) : Prop where
 st : ∃ n : Nat, n ≤ C ∧ k = .int .i64 (n : Int) ∧ RdF w0 b R C m cap base gA (scK (mulC m) M ps.length f n) ps v wr
structure RdC (w0 : World) (b R C m cap base gA : Nat) (M : Mat) (ps : List Nat) (v : Value) (j : Nat) (k : Value) (wr : World) : Prop where
 st : ∃ n : Nat, n ≤ R ∧ k = .int .i64 (n : Int) ∧ RdF w0 b R C m cap base gA (clearM (mulC m) M ps.length j n) ps v wr
theorem rd_start (w : World) (m R C b cap : Nat) (M : Mat) (t : TypeId) (hM : MatB w b R C M) :
  RdF w b R C m cap (w.heap.size + 1) w.heap.size M [] (.slice none 0 0) (w.alloc (.cells (matV m R C b cap) t)) := by
 have h1 := al_below w (.cells (matV m R C b cap) t)
 have hl := hM.lt
 exact ⟨⟨hM.below h1, ⟨t, World.alloc_heap_new w _⟩, But.of h1⟩, OwnI.nil _ _, by simp, by omega, by omega, by omega⟩
set_option maxRecDepth 20000 in
set_option maxHeartbeats 8000000 in
theorem mreduce_any (m : Nat) (hm : isF m) (R C b cap : Nat) (hR : R ≤ 32) (hC : C ≤ 32) (hC0 : 0 < C) (hcap : R * C ≤ cap) (hb0 : 3 < b) (M0 : Mat) (hB : Bnd (2 ^ m) R C M0) (w : World) (hT : TabF w) (hM : MatB w b R C M0) :
  Calls Tryz.prog 155 #[.agg (matV m R C b cap), .int .i64 (C : Int)] w fun e w' => ∃ v, e = .returned v ∧ RowI w' v (intsV (natsI (redM (mulC m) (invC m) R C M0).1)) ∧ But b w w' := by
 have HRA := Lib.hid (fun i (hi : i < R) W => row_any m R C b cap i hi hR hC hC0 hcap W)
 have HTF := Lib.hid (fun W (hb : But b w W) => hT.but hb hb0)
 have HSW := Lib.hid (fun gA i r (hi : i < R) (hr : r < R) M W hM hA => swap_any m R C b cap gA i r hR hC hC0 hcap hi hr M W hM hA)
 have HIV := Lib.hid (fun a (ha : a < 2 ^ m) (h0 : a ≠ 0) W hT => finv_any m hm a ha h0 W hT)
 have HTM := Lib.hid (fun f x (hf : f < 2 ^ m) (hx : x < 2 ^ m) W hT => times_any m hm f x hf hx W hT)
 have HAD := Lib.hid (fun i r f (hi : i < R) (hr : r < R) (hne : i ≠ r) (hf : f < 2 ^ m) M hB c1 c2 W hT hM => add_any m hm R C b i r f hC hi hr hne hb0 hf M hB c1 c2 W hT hM)
 have HRI := Lib.hid (And.intro (opsC hm) (fun n (hn : n ≤ C) => redI (opsC hm) hB n hn))
 have HST := Lib.hid (fun t => rd_start w m R C b cap M0 t hM)
 have hC32 : (C : Int) ≤ 32 := by omega
 have hR32 : (R : Int) ≤ 32 := by omega
 clear hm hcap hb0 hB hT hM
 unfold matV
 go_enter Tryz.func155, Tryz.ntmps155
 go_wp2
 refine wp_scope_straight ?_
 go_wp2
 refine wp_label ?_
 go_wp2
 generalize hgA : w.heap.size = gA at *
 obtain ⟨base, hbase⟩ : ∃ base, gA + 1 = base := ⟨_, rfl⟩
 rw [hbase] at HST
 have HGB := Lib.hid (show w.heap.size ≤ base by omega)
 go_loopw [4, 16] (fun v k wr => RdO w b R C m cap base gA M0 v k wr) (fun _ k _ => C - (intOf k).toNat)
 case atStart => exact ⟨⟨0, Nat.zero_le _, rfl, HST.out _⟩⟩
 case round =>
  clear HST hgA hbase
  obtain ⟨j, hj, rfl, hF⟩ := hrel.st
  clear hrel
  by_cases hjC : j < C
  ·have hI := HRI.out.2 j (Nat.le_of_lt hjC)
   have HNX := Lib.hid (redM_succ (mul := mulC m) (inv := invC m) R j M0)
   generalize hps : (redM (mulC m) (invC m) R j M0).1 = ps at *
   generalize hMj : (redM (mulC m) (invC m) R j M0).2 = M at *
   have HPS := Lib.hid (And.intro hps hMj)
   clear hps hMj
   have hltd : decide ((j : Int) < (C : Int)) = true := decide_eq_true (by omega)
   have hwj : IntKind.i64.wrap ((j : Int) + 1) = (j : Int) + 1 := IntWalk.i64_in _ (by omega)
   obtain ⟨ao, cp, rfl⟩ := hF.own.shape
   have hpl : ps.length ≤ R := hI.len
   rw [natsI_len] at hF ⊢
   have HF := Lib.hid hF
   have HI := Lib.hid hI
   obtain ⟨r, hr⟩ : ∃ r, ps.length = r := ⟨_, rfl⟩
   rw [hr] at HF hpl ⊢
   have HR := Lib.hid hr
   clear hF hI hr
   have hrI : ((r : Int)) ≤ 32 := by omega
   go_wp2
   obtain ⟨wo, rfl⟩ : ∃ wo : World, wo = wr := ⟨_, rfl⟩
   go_loopw [8] (fun k wr => RdI w b R C m cap base gA M ps (.slice ao r cp) j k wr) (fun k _ => R - (intOf k).toNat)
   case atStart => exact ⟨⟨r, hpl, by rw [HR.out]; exact Nat.le_refl _, rfl, fun i' h1 h2 => by rw [HR.out] at h1; omega, HF.out⟩⟩
   case round =>
    clear HF
    obtain ⟨i, hiR, hri, rfl, hz, hF⟩ := hrel.st
    clear hrel
    have HZ := Lib.hid (And.intro hri hz)
    have HF := Lib.hid hF
    obtain ⟨a0, a1, a2, a3⟩ := hF.re.bA.mat
    clear hF hri hz
    by_cases hiR' : i = R
    ·have hid : ((i : Int) == (R : Int)) = true := by simp [hiR']
     have HN := Lib.hid (show RdF w b R C m cap base gA (redM (mulC m) (invC m) R (j + 1) M0).2 (redM (mulC m) (invC m) R (j + 1) M0).1 (.slice ao r cp) wr by
      have h := HNX.out
      have h1 : stepC (mulC m) (invC m) R (redM (mulC m) (invC m) R j M0) j = (ps, M) := by
       unfold stepC
       rw [HPS.out.1, HPS.out.2, findR_isNone (fun i' h1 h2 => HZ.out.2 i' h1 (by omega))]
       exact Prod.ext HPS.out.1 HPS.out.2
      rw [h, h1]; exact HF.out)
     clear a0 a2 a3 HZ HF
     go_wp2
     go_roundw
     case rel => exact ⟨⟨j + 1, hjC, rfl, HN.out⟩⟩
     case measure => simp only [intOf]; omega
    ·have hiR2 : i < R := by omega
     have hid : ((i : Int) == (R : Int)) = false := by simp; omega
     have hi32 : (i : Int) ≤ 32 := by omega
     have hwi : IntKind.i64.wrap ((i : Int) + 1) = (i : Int) + 1 := IntWalk.i64_in _ (by omega)
     cases hnz : nzN (M i j) with
     | false =>
      have hm0 : M i j = 0 := by
       unfold nzN at hnz; simpa using hnz
      have HZ2 := Lib.hid (show ps.length ≤ i + 1 ∧ ∀ i', ps.length ≤ i' → i' < i + 1 → M i' j = 0 from ⟨by have := HZ.out.1; omega, fun i' h1 h2 => by
       by_cases he : i' = i
       ·rw [he]; exact hm0
       ·exact HZ.out.2 i' h1 (by omega)⟩)
      clear hm0
      go_wp2_with (go_at_call 153; refine (HRA.out i hiR2 _).mono ?_; rintro e w3 ⟨rfl, h3⟩; have HF3 := Lib.hid (HF.out.below h3); have e3 := HF3.out.re.bM.cell hiR2 hjC)
      go_roundw
      case rel => exact ⟨⟨i + 1, hiR2, HZ2.out.1, rfl, HZ2.out.2, HF3.out⟩⟩
      case measure => simp only [intOf]; omega
     | true =>
      have hm0 : M i j ≠ 0 := by
       unfold nzN at hnz; simpa using hnz
      have hrR : r < R := by have := HZ.out.1; rw [HR.out] at this; omega
      have HNX2 := Lib.hid (show redM (mulC m) (invC m) R (j + 1) M0 = (ps ++ [j], pivM (mulC m) (invC m) R j i r M) by
       rw [HNX.out]
       unfold stepC
       rw [HPS.out.1, HPS.out.2, findR_is HZ.out.1 hiR2 hm0 HZ.out.2, HR.out])
      have HM0 := Lib.hid hm0
      clear hm0
      have hcf : True := trivial
      go_wp2_with first
       | (go_at_call 153; refine (HRA.out i hiR2 _).mono ?_; rintro e w3 ⟨rfl, h3⟩; have HF3 := Lib.hid (HF.out.below h3); have e3 := HF3.out.re.bM.cell hiR2 hjC)
       | (go_at_call 165; refine (HSW.out gA i r hiR2 hrR M w3 HF3.out.re.bM HF3.out.re.bA).mono ?_; rintro e w4 ⟨⟨v4, rfl⟩, h4, h5⟩; have HF4 := Lib.hid (HF3.out.but h5 h4))
      have hq := HRI.out.1
      have HB1 := Lib.hid (bnd_swap HI.out.bnd hiR2 hrR)
      have HX1 := Lib.hid (show swapM M i r r j ≠ 0 by
       unfold swapM
       by_cases e : r = i
       ·rw [if_pos e, e]; exact HM0.out
       ·rw [if_neg e, if_pos rfl]; exact HM0.out)
      have hpv : pivM (mulC m) (invC m) R j i r M = clearM (mulC m) (scaleM (mulC m) (swapM M i r) r (invC m (swapM M i r r j))) r j R := rfl
      rw [hpv] at HNX2
      generalize swapM M i r = M1 at *
      clear hpv
      have HFI := Lib.hid (hq.invs _ (HB1.out r hrR j hjC) HX1.out)
      have HQ := Lib.hid hq
      clear hq HZ HF HF3 e3 h3 h4 h5 a0 a1 a2 a3 hnz hid hiR' hwi hi32 HM0
      refine regU_begin (fun w' => RdF w b R C m cap base gA M1 ps (.slice ao r cp) w') (by kernel_rfl) HF4.out.drew ?_
      (apply regU_take 0 rfl rfl (by decide +kernel) rfl); (intro w' hw'; go_simp; rfl); simp only [zq1, zq2, zq3]
      refine regU_take 1 (v := .int .i64 (m : Int)) rfl rfl (by decide +kernel) rfl (fun w' h => exec_load_cell rfl rfl Tryz.underlying3 rfl h.re.bA.mat.1) ?_; simp only [zq1, zq2, zq3]
      refine regU_take 2 (v := .agg (matV m R C b cap)) rfl rfl (by decide +kernel) rfl (fun w' h => exec_ldM rfl rfl h.re.bA) ?_; simp only [zq1, zq2, zq3]
      (apply regU_take 3 rfl rfl (by decide +kernel) rfl); (intro w' hw'; go_simp; rfl); simp only [zq1, zq2, zq3]
      refine regU_call 4 (f := 153) (args := #[.agg (matV m R C b cap), .int .i64 (r : Int)]) (v := .slice (some ⟨b, r * C, none⟩) C (cap - r * C)) rfl rfl (by decide +kernel) rfl (fun w' => by kernel_rfl) (fun w' h => (HRA.out r hrR w').mono fun e w'' h' => ⟨h'.1, h.below h'.2⟩) ?_
      simp only [zq1, zq2, zq3]
      (apply regU_take 5 rfl rfl (by decide +kernel) rfl); (intro w' hw'; go_simp; rfl); simp only [zq1, zq2, zq3]
      refine regU_take 6 (v := .pointer (some ⟨b, r * C + j, none⟩)) rfl rfl (by decide +kernel) rfl (fun w' h => exec_ixI rfl rfl rfl hjC) ?_; simp only [zq1, zq2, zq3]
      refine regU_take 7 (v := .int .i64 ((M1 r j : Nat) : Int)) rfl rfl (by decide +kernel) rfl (fun w' h => exec_load_cell rfl rfl Tryz.underlying3 rfl (h.re.bM.cell hrR hjC)) ?_; simp only [zq1, zq2, zq3]
      refine regU_call 8 (f := 121) (args := #[.int .i64 (m : Int), .int .i64 ((M1 r j : Nat) : Int)]) (v := .tuple #[.int .i64 ((invC m (M1 r j) : Nat) : Int), .int .i64 0]) rfl rfl (by decide +kernel) rfl (fun w' => by kernel_rfl) (fun w' h => (HIV.out (M1 r j) (HB1.out r hrR j hjC) HX1.out w' (HTF.out w' h.re.bt)).mono fun e w'' h' => ⟨h'.1, h.below h'.2⟩) ?_
      simp only [zq1, zq2, zq3]
      (apply regU_take 9 rfl rfl (by decide +kernel) rfl); (intro w' hw'; go_simp; rfl); simp only [zq1, zq2, zq3]
      (apply regU_take 10 rfl rfl (by decide +kernel) rfl); (intro w' hw'; go_simp; rfl); simp only [zq1, zq2, zq3]
      (apply regU_take 11 rfl rfl (by decide +kernel) rfl); (intro w' hw'; go_simp; rfl); simp only [zq1, zq2, zq3]
      (apply regU_take 12 rfl rfl (by decide +kernel) rfl); (intro w' hw'; go_simp; rfl); simp only [zq1, zq2, zq3]
      (apply regU_take 13 rfl rfl (by decide +kernel) rfl); (intro w' hw'; go_simp; rfl); simp only [zq1, zq2, zq3]
      refine regU_done (by decide +kernel) ?_
      intro w5 h5
      have HF5 := Lib.hid h5
      obtain ⟨a0, a1, a2, a3⟩ := h5.re.bA.mat
      clear h5 HF4
      generalize hf : invC m (M1 r j) = f at *
      clear hf
      go_wp2_with (go_at_call 153; refine (HRA.out r hrR w5).mono ?_; rintro e w6 ⟨rfl, h6⟩; have HF6 := Lib.hid (HF5.out.below h6))
      clear a0 a1 a2 a3 h6 HF5
      go_loopw [55] (fun k wr => RdS w b R C m cap base gA M1 ps (.slice ao r cp) f k wr) (fun k _ => C - (intOf k).toNat)
      case atStart => exact ⟨⟨0, Nat.zero_le _, rfl, by rw [scK_zero]; exact HF6.out⟩⟩
      case round =>
       clear HF6
       obtain ⟨k, hk, rfl, hF⟩ := hrel.st
       clear hrel
       rw [HR.out] at hF
       by_cases hkC : k < C
       ·have hkd : decide ((k : Int) < (C : Int)) = true := decide_eq_true (by omega)
        have hwk : IntKind.i64.wrap ((k : Int) + 1) = (k : Int) + 1 := IntWalk.i64_in _ (by omega)
        have e1 := hF.re.bM.cell hrR hkC
        rw [scK_at] at e1
        have HF := Lib.hid hF
        clear hF
        go_wp2
        refine regU_begin (fun w' => RdF w b R C m cap base gA (scK (mulC m) M1 r f k) ps (.slice ao r cp) w') (by kernel_rfl) HF.out.drew ?_
        refine regU_take 0 (v := .agg (matV m R C b cap)) rfl rfl (by decide +kernel) rfl (fun w' h => exec_ldM rfl rfl h.re.bA) ?_; simp only [zq1, zq2, zq3]
        (apply regU_take 1 rfl rfl (by decide +kernel) rfl); (intro w' hw'; go_simp; rfl); simp only [zq1, zq2, zq3]
        refine regU_call 2 (f := 153) (args := #[.agg (matV m R C b cap), .int .i64 (r : Int)]) (v := .slice (some ⟨b, r * C, none⟩) C (cap - r * C)) rfl rfl (by decide +kernel) rfl (fun w' => by kernel_rfl) (fun w' h => (HRA.out r hrR w').mono fun e w'' h' => ⟨h'.1, h.below h'.2⟩) ?_
        simp only [zq1, zq2, zq3]
        (apply regU_take 3 rfl rfl (by decide +kernel) rfl); (intro w' hw'; go_simp; rfl); simp only [zq1, zq2, zq3]
        (apply regU_take 4 rfl rfl (by decide +kernel) rfl); (intro w' hw'; go_simp; rfl); simp only [zq1, zq2, zq3]
        refine regU_take 5 (v := .int .i64 (m : Int)) rfl rfl (by decide +kernel) rfl (fun w' h => exec_load_cell rfl rfl Tryz.underlying3 rfl h.re.bA.mat.1) ?_; simp only [zq1, zq2, zq3]
        (apply regU_take 6 rfl rfl (by decide +kernel) rfl); (intro w' hw'; go_simp; rfl); simp only [zq1, zq2, zq3]
        (apply regU_take 7 rfl rfl (by decide +kernel) rfl); (intro w' hw'; go_simp; rfl); simp only [zq1, zq2, zq3]
        refine regU_call 8 (f := 166) (args := #[.int .i64 (m : Int), .int .i64 (f : Int), .int .i64 ((M1 r k : Nat) : Int)]) (v := .int .i64 ((mulC m f (M1 r k) : Nat) : Int)) rfl rfl (by decide +kernel) rfl (fun w' => by kernel_rfl) (fun w' h => (HTM.out f (M1 r k) HFI.out.1 (HB1.out r hrR k hkC) w' (HTF.out w' h.re.bt)).mono fun e w'' h' => ⟨h'.1, h.below h'.2⟩) ?_
        simp only [zq1, zq2, zq3]
        refine regU_take 9 (v := .pointer (some ⟨b, r * C + k, none⟩)) rfl rfl (by decide +kernel) rfl (fun w' h => exec_ixI rfl rfl rfl hkC) ?_; simp only [zq1, zq2, zq3]
        refine regU_alone (S' := fun _ => True) 10 (by decide +kernel) ?_
        intro w7 h7
        have hb7 := But.set b (r * C + k) w7 (.int .i64 ((mulC m f (M1 r k) : Nat) : Int))
        have HF8 := Lib.hid (h7.but hb7 (show MatB _ b R C (scK (mulC m) M1 r f (k + 1)) by rw [← scK_set]; exact h7.re.bM.set hkC _))
        refine reg_do_last 10 (w7.setCell ⟨b, r * C + k, none⟩ (.int .i64 ((mulC m f (M1 r k) : Nat) : Int))) rfl rfl (by decide +kernel) rfl (exec_stI rfl rfl rfl (h7.re.bM.cell hrR hkC) (h7.re.bM.free _)) ?_
        generalize w7.setCell ⟨b, r * C + k, none⟩ (.int .i64 ((mulC m f (M1 r k) : Nat) : Int)) = w8 at *
        clear h7 hb7 e1 HF
        go_wp2
        go_roundw
        case rel => exact ⟨⟨k + 1, hkC, rfl, by rw [HR.out]; exact HF8.out⟩⟩
        case measure => simp only [intOf]; omega
       ·have hke : k = C := by omega
        have hkd : decide ((k : Int) < (C : Int)) = false := decide_eq_false (by omega)
        have HFS := Lib.hid (show RdF w b R C m cap base gA (scaleM (mulC m) M1 r f) ps (.slice ao r cp) wr by subst hke; exact hF.congr fun a _ j hj => scK_all _ _ _ _ _ a j hj)
        have HB2 := Lib.hid (bnd_scale HQ.out hrR HFI.out.1 HB1.out)
        obtain ⟨a0, a1, a2, a3⟩ := HFS.out.re.bA.mat
        have hfi1 := HFI.out.1
        clear hF hke
        generalize scaleM (mulC m) M1 r f = M2 at *
        go_wp2
        obtain ⟨wo2, rfl⟩ : ∃ wo2 : World, wo2 = wr := ⟨_, rfl⟩
        clear a0 a1 a2 a3
        go_loopw [73] (fun k wr => RdC w b R C m cap base gA M2 ps (.slice ao r cp) j k wr) (fun k _ => R - (intOf k).toNat)
        case atStart => exact ⟨⟨0, Nat.zero_le _, rfl, by rw [HR.out, clear_zero]; exact HFS.out⟩⟩
        case round =>
         clear HFS
         obtain ⟨n, hn, rfl, hF⟩ := hrel.st
         clear hrel
         rw [HR.out] at hF
         have HF := Lib.hid hF
         obtain ⟨a0, a1, a2, a3⟩ := hF.re.bA.mat
         clear hF
         by_cases hnR : n < R
         ·have hnd : decide ((n : Int) < (R : Int)) = true := decide_eq_true (by omega)
          have hwn : IntKind.i64.wrap ((n : Int) + 1) = (n : Int) + 1 := IntWalk.i64_in _ (by omega)
          by_cases hnr : n = r
          ·have hne : ((n : Int) != (r : Int)) = false := by simp [hnr]
           have HF2 := Lib.hid (show RdF w b R C m cap base gA (clearM (mulC m) M2 r j (n + 1)) ps (.slice ao r cp) wr by rw [hnr, clear_skip, ← hnr]; rw [hnr]; have := HF.out; rw [hnr] at this; exact this)
           clear HF hnr
           go_wp2
           go_roundw
           case rel => exact ⟨⟨n + 1, hnR, rfl, by rw [HR.out]; exact HF2.out⟩⟩
           case measure => simp only [intOf]; omega
          ·have hne : ((n : Int) != (r : Int)) = true := by simp; omega
           go_wp2
           have hfn := HB2.out n hnR j hjC
           have HBC := Lib.hid (clear_ok HQ.out hrR hjC HB2.out n hn).1
           refine regU_begin (fun w' => RdF w b R C m cap base gA (clearM (mulC m) M2 r j n) ps (.slice ao r cp) w') (by kernel_rfl) HF.out.drew ?_
           (apply regU_take 0 rfl rfl (by decide +kernel) rfl); (intro w' hw'; go_simp; rfl); simp only [zq1, zq2, zq3]
           refine regU_take 1 (v := .int .i64 (m : Int)) rfl rfl (by decide +kernel) rfl (fun w' h => exec_load_cell rfl rfl Tryz.underlying3 rfl h.re.bA.mat.1) ?_; simp only [zq1, zq2, zq3]
           refine regU_take 2 (v := .agg (matV m R C b cap)) rfl rfl (by decide +kernel) rfl (fun w' h => exec_ldM rfl rfl h.re.bA) ?_; simp only [zq1, zq2, zq3]
           (apply regU_take 3 rfl rfl (by decide +kernel) rfl); (intro w' hw'; go_simp; rfl); simp only [zq1, zq2, zq3]
           refine regU_call 4 (f := 153) (args := #[.agg (matV m R C b cap), .int .i64 (n : Int)]) (v := .slice (some ⟨b, n * C, none⟩) C (cap - n * C)) rfl rfl (by decide +kernel) rfl (fun w' => by kernel_rfl) (fun w' h => (HRA.out n hnR w').mono fun e w'' h' => ⟨h'.1, h.below h'.2⟩) ?_
           simp only [zq1, zq2, zq3]
           refine regU_take 5 (v := .agg (matV m R C b cap)) rfl rfl (by decide +kernel) rfl (fun w' h => exec_ldM rfl rfl h.re.bA) ?_; simp only [zq1, zq2, zq3]
           (apply regU_take 6 rfl rfl (by decide +kernel) rfl); (intro w' hw'; go_simp; rfl); simp only [zq1, zq2, zq3]
           refine regU_call 7 (f := 153) (args := #[.agg (matV m R C b cap), .int .i64 (r : Int)]) (v := .slice (some ⟨b, r * C, none⟩) C (cap - r * C)) rfl rfl (by decide +kernel) rfl (fun w' => by kernel_rfl) (fun w' h => (HRA.out r hrR w').mono fun e w'' h' => ⟨h'.1, h.below h'.2⟩) ?_
           simp only [zq1, zq2, zq3]
           refine regU_take 8 (v := .agg (matV m R C b cap)) rfl rfl (by decide +kernel) rfl (fun w' h => exec_ldM rfl rfl h.re.bA) ?_; simp only [zq1, zq2, zq3]
           (apply regU_take 9 rfl rfl (by decide +kernel) rfl); (intro w' hw'; go_simp; rfl); simp only [zq1, zq2, zq3]
           refine regU_call 10 (f := 153) (args := #[.agg (matV m R C b cap), .int .i64 (n : Int)]) (v := .slice (some ⟨b, n * C, none⟩) C (cap - n * C)) rfl rfl (by decide +kernel) rfl (fun w' => by kernel_rfl) (fun w' h => (HRA.out n hnR w').mono fun e w'' h' => ⟨h'.1, h.below h'.2⟩) ?_
           simp only [zq1, zq2, zq3]
           (apply regU_take 11 rfl rfl (by decide +kernel) rfl); (intro w' hw'; go_simp; rfl); simp only [zq1, zq2, zq3]
           refine regU_take 12 (v := .pointer (some ⟨b, n * C + j, none⟩)) rfl rfl (by decide +kernel) rfl (fun w' h => exec_ixI rfl rfl rfl hjC) ?_; simp only [zq1, zq2, zq3]
           refine regU_take 13 (v := .int .i64 ((M2 n j : Nat) : Int)) rfl rfl (by decide +kernel) rfl (fun w' h => exec_load_cell rfl rfl Tryz.underlying3 rfl (by have := h.re.bM.cell hnR hjC; rwa [clearM_at] at this)) ?_; simp only [zq1, zq2, zq3]
           refine regU_alone (S' := fun _ => True) 14 (by decide +kernel) ?_
           intro w7 h7
           refine reg_call_last 14 (f := 167) (args := #[.int .i64 (m : Int), .slice (some ⟨b, n * C, none⟩) C (cap - n * C), .slice (some ⟨b, r * C, none⟩) C (cap - r * C), .int .i64 ((M2 n j : Nat) : Int)]) (R := fun v w' => MatB w' b R C (clearM (mulC m) M2 r j (n + 1)) ∧ But b w7 w') rfl rfl (by decide +kernel) rfl (by kernel_rfl)
            ((HAD.out n r (M2 n j) hnR hrR hnr hfn (clearM (mulC m) M2 r j n) HBC.out (cap - n * C) (cap - r * C) w7 (HTF.out w7 h7.re.bt) h7.re.bM).mono fun e w' h => by
             obtain ⟨⟨v, rfl⟩, h1, h2⟩ := h
             exact ⟨v, rfl, by rw [clear_step _ hnr]; exact h1, h2⟩) ?_
           rintro v8 w8 ⟨h8, h9⟩
           have HF8 := Lib.hid (h7.but h9 h8)
           clear h7 h8 h9 HF a0 a1 a2 a3
           go_wp2
           go_roundw
           case rel => exact ⟨⟨n + 1, hnR, rfl, by rw [HR.out]; exact HF8.out⟩⟩
           case measure => simp only [intOf]; omega
         ·have hnR' : n = R := by omega
          have hnd : decide ((n : Int) < (R : Int)) = false := decide_eq_false (by omega)
          have HFR := Lib.hid (show RdF w b R C m cap base gA (clearM (mulC m) M2 r j R) ps (.slice ao r cp) wr by have h := HF.out; rw [hnR'] at h; exact h)
          have hsz := HFR.out.sz
          clear HF hnR' a0 a1 a2 a3
          go_wp2_with (at_builtin; refine wpList_apN rfl _ _ rfl rfl rfl HFR.out.own (by rw [natsI_len, HR.out]; omega) hsz ?_; intro v' w9 h9 h10)
          have HN := Lib.hid (show RdF w b R C m cap base gA (redM (mulC m) (invC m) R (j + 1) M0).2 (redM (mulC m) (invC m) R (j + 1) M0).1 v' w9 by
           rw [HNX2.out]; exact HFR.out.app HGB.out h9 h10)
          go_roundw
          case rel => exact ⟨⟨j + 1, hjC, rfl, HN.out⟩⟩
          case measure => simp only [intOf]; omega
  ·have hjC' : j = C := by omega
   have hltd : decide ((j : Int) < (C : Int)) = false := decide_eq_false (by omega)
   have HF := Lib.hid (show RdF w b R C m cap base gA (redM (mulC m) (invC m) R C M0).2 (redM (mulC m) (invC m) R C M0).1 u4 wr by have h := hF; rw [hjC'] at h; exact h)
   clear hF hjC'
   go_wp2
   simp only [Exit.noGoto]
   go_ret
   exact ⟨_, rfl, HF.out.own.row, HF.out.re.bt⟩
end Go.Proofs.YteikbikopgabjaaGreatDoor
