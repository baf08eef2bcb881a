/- ShelfPlacesAreDistinct: a write that is executed changes the content of no other place, and, no fault being armed behind Mount, that of its place becomes the sector that was written. -/
import Derived.Test.YtogmkbhbmmgidaaTf
import Derived.Test.YtogmkbhbmmgidaaPl
import Derived.Test.YtogmkbhbmmgidaaPk
import Derived.Test.YtogmkbhbmmgidaaSf
namespace Go.Proofs.Ytogmkbhbmmgidaa
open Go.RowKit Go.Sl Go.ChangeMaps Go.ChangeShapes Go.WideShapes Go.ChangeAt

abbrev TStr : TypeId := 9
def opF (f : UInt8) : OpN := ⟨0, ⟨0, 0, 0⟩, ⟨0, 0, 0⟩, 0, f, 64, []⟩
theorem opF_len (f : UInt8) : (opF f).text.length = 64 := by
  unfold OpN.text
  rw [List.length_map, List.length_range]; rfl
def wasL (S : ShelfM) (L : List PlaceM) : List Value := L.map fun b => .string (strB (S.peek b).1)
theorem wasL_take (S : ShelfM) {L : List PlaceM} {k : Nat} {b : PlaceM} (h : L[k]? = some b) : wasL S (L.take (k + 1)) = wasL S (L.take k) ++ [.string (strB (S.peek b).1)] := by
  rw [List.take_add_one, h]; simp [wasL]
theorem wasL_at (S : ShelfM) {L : List PlaceM} {k : Nat} {b : PlaceM} (h : L[k]? = some b) : (wasL S L)[k]? = some (.string (strB (S.peek b).1)) := by simp [wasL, h]
theorem info_str : (Try.prog.info? TStr).map (fun i => (i.zero, i.size, i.bytes)) = some (some (.string ByteArray.empty), 1, 16) := by kernel_rfl
section
variable {ops : Array Oper} {rest : List Oper} {op : Oper} {a : Act} {w : World} {Q : Exit → Act → World → Prop}
theorem wp_load_pl {o : PlaceM} {b off : Nat} (hr : w.rangeAt b off (plA o).toList) (hg : op.guard = none) (x : Operand) (ho : op.op = .load TPl x)
    (hx : a.eval x = .pointer (some ⟨b, off, none⟩)) (k : wpList Try.prog ops Q rest (a.put op.dst (.agg (plA o))) w) : wpList Try.prog ops Q (op :: rest) a w :=
  wpList_load_mid hg TPl x ho b off hx (plA o).toList _ hr Try.underlying25 rfl (show (Try.prog.info? TPl).map (·.size) = some 3 by kernel_rfl) k
end
/-- What lies beside the shelf: both boxed arguments and the caller's world. -/
def frp (B0 B1 : Nat) (c : CfgM) (v : Value) (cp : Int) (a : PlaceM) (w : World) : HProp := pts B1 (.cells (plA a) TPl (0, 0)) * (pts B0 (.cells (plyA c v cp) TPlay (0, 0)) * old w)
theorem frp_cells {w w' : World} {B0 B1 : Nat} {c : CfgM} {v : Value} {cp : Int} {a : PlaceM} {X : HProp} (h : Sat w' (frp B0 B1 c v cp a w * X)) :
    (w'.cell? ⟨B0, 0, none⟩ = some (.int .i64 c.disks) ∧ w'.cell? ⟨B0, 1, none⟩ = some (.int .i64 c.racks) ∧ w'.cell? ⟨B0, 2, none⟩ = some (.int .i64 c.rows) ∧ w'.cell? ⟨B0, 3, none⟩ = some (.int .i64 c.spare) ∧ w'.cell? ⟨B0, 4, none⟩ = some (.int .i64 c.log) ∧ w'.cell? ⟨B0, 5, none⟩ = some (.int .i64 c.image)) ∧
    w'.cell? ⟨B0, 6, none⟩ = some v ∧ (w'.cell? ⟨B1, 0, none⟩ = some (.int .i64 a.disk) ∧ w'.cell? ⟨B1, 1, none⟩ = some (.int .i64 a.area) ∧ w'.cell? ⟨B1, 2, none⟩ = some (.int .i64 a.index)) := by
  have h1 := h.perm (show _ = pts B1 (.cells (plA a) TPl (0, 0)) * (pts B0 (.cells (plyA c v cp) TPlay (0, 0)) * (old w * X)) from by unfold frp; ac_rfl)
  obtain ⟨a0, a6, _⟩ := ply_cells h1.right
  obtain ⟨p0, p1, p2, _⟩ := pl_cells h1
  exact ⟨a0, a6, p0, p1, p2⟩

structure DsA (w : World) (p : Nat) (S : ShelfM) (L : List PlaceM) (lv : Value) (R : HProp) (o i : Value) (wr : World) : Prop where
  st : ∃ k : Nat, k ≤ L.length ∧ i = .int .i64 k ∧ Same w wr ∧ Sat wr (ownAt TStr 1 o k (wasL S (L.take k)) * (ownAt TPl 3 lv L.length (plsC L) * (shelfAt SH p S * R)))
structure DsB (w : World) (X : HProp) (n : Nat) (i : Value) (wr : World) : Prop where
  st : ∃ k : Nat, k ≤ n ∧ i = .int .i64 k ∧ Same w wr ∧ Sat wr X

set_option maxRecDepth 100000 in
set_option maxHeartbeats 4000000 in
theorem distinct_law (c : CfgM) (v : Value) (l : List (OpN × Value)) (cp : Int) (a : PlaceM) (x : Nat) (hx : x < 256) (w : World) (hscr : ScrN w v l) :
    Calls Try.prog 6 #[.agg (plyA c v cp), .agg (plA a), .int .u8 (x : Int)] w fun e w' => e = .returned (.bool true) ∧ Below w.heap.size w w' := by
  obtain ⟨f, rfl⟩ : ∃ f : UInt8, x = f.toNat := ⟨UInt8.ofNat x, by simp; omega⟩
  obtain ⟨ao, cap, rfl, _⟩ := id hscr
  have H1 := Lib.hid (And.intro (((Same.refl w).alloc (.cells (plyA c (.slice ao l.length cap) cp) TPlay)).alloc (.cells (plA a) TPl)) (((Sat.old w).alloc (.cells (plyA c (.slice ao l.length cap) cp) TPlay)).alloc (.cells (plA a) TPl)))
  have HSC := Lib.hid hscr
  clear hscr
  rw [World.size_alloc] at H1
  go_enter Try.func6, Try.ntmps6
  go_upto_region 2 with (go_at_call 8; refine (sanity_any _ _ H1.out.2).mono ?_; rintro e w1 ⟨rfl, h2⟩; replace H1 := Lib.hid (And.intro (H1.out.1.trans h2.out.1) h2.out.2); clear h2)
  generalize w.heap.size + 1 = B1 at H1 ⊢
  generalize w.heap.size = B0 at H1 ⊢
  replace H1 := Lib.hid (And.intro H1.out.1 (H1.out.2.perm (show _ = frp B0 B1 c (.slice ao l.length cap) cp a w * emp from (star_emp _).symm)))
  obtain ⟨⟨a0, a1, a2, a3, a4, a5⟩, a6, p0, p1, p2⟩ := frp_cells H1.out.2
  by_cases hsm : smallB c = true ∧ c.ok = true ∧ l.length ≤ 60
  case neg =>
    have hno : smallB c = false ∨ 60 < l.length ∨ c.ok = false := by
      cases h1 : smallB c
      · exact .inl rfl
      · cases h2 : c.ok
        · exact .inr (.inr rfl)
        · exact .inr (.inl (by have : ¬ l.length ≤ 60 := fun h => hsm ⟨h1, h2, h⟩; omega))
    have HNO := Lib.hid hno
    clear hsm hno
    go_wp2_with (go_at_call 15; refine (built_no c _ l.length ⟨ao, cap, rfl⟩ _ _ H1.out.2 HNO.out).mono ?_; rintro e w3 ⟨rfl, h2⟩; replace H1 := Lib.hid (And.intro (H1.out.1.trans h2.out.1) h2.out.2); clear h2)
    go_ret
    exact ⟨rfl, H1.out.1.below_of (H1.out.2.perm (show _ = pts B1 (.cells (plA a) TPl (0, 0)) * pts B0 (.cells (plyA c (.slice ao l.length cap) cp) TPlay (0, 0)) * old w from by unfold frp; rw [star_emp]; ac_rfl))⟩
  have HSM := Lib.hid hsm
  clear hsm
  have hb := built_any c (.slice ao l.length cap) l _ w1 H1.out.2 (fun w' h => ScrN.old HSC.out (h.perm (show _ = pts B1 (.cells (plA a) TPl (0, 0)) * pts B0 (.cells (plyA c (.slice ao l.length cap) cp) TPlay (0, 0)) * old w from by unfold frp; rw [star_emp]; ac_rfl))) HSM.out.1 HSM.out.2.1 HSM.out.2.2
  have hcf0 : (runN (ShelfM.new c) l).cfg = c := runN_cfg l _
  generalize runN (ShelfM.new c) l = S0 at hb hcf0
  have HCF := Lib.hid hcf0
  clear hcf0
  go_upto_region 5 with (go_at_call 15; refine hb.mono ?_; rintro e w3 ⟨p, rfl, h2⟩; replace H1 := Lib.hid (And.intro (H1.out.1.trans h2.out.1) h2.out.2); clear h2)
  clear hb a0 a1 a2 a3 a4 a5 a6 p0 p1 p2
  have hm := mount_any p S0 _ (.slice none 0 0) [] w3 H1.out.2 (fun w' _ => IntsC.nil w') (by simp)
  go_wp2_with (fail)
  refine hm.mono ?_
  rintro e wa ⟨rfl, h2⟩
  clear hm
  replace H1 := Lib.hid (And.intro (H1.out.1.trans h2.out.1) h2.out.2)
  clear h2
  obtain ⟨S1, hS1⟩ : ∃ S1 : ShelfM, S1 = S0.mount [] := ⟨_, rfl⟩
  rw [← hS1] at H1
  have hcf : S1.cfg = c := by rw [hS1]; exact HCF.out
  have hfu : S1.fused = false := by rw [hS1]; rfl
  have harm : ∀ d, S1.state d = 1 → (S1.disk d).armed = fun _ => none := by rw [hS1]; exact ShelfM.mount_armed S0 []
  have hwf := shelfAt_wf H1.out.2
  clear hS1 HCF
  have hb1 := small_bound HSM.out.1 HSM.out.2.1
  have hwc : c.WF := hcf ▸ hwf.cfg
  have hdd : 0 ≤ c.disks ∧ c.disks ≤ 6 := ⟨by have := hwc.disks; omega, hb1.1⟩
  have hss : ∀ j, j < 4 → 0 ≤ szN c j ∧ szN c j ≤ 24 := by
    intro j hj
    have h1 := hwc.log; have h2 := hwc.image; have h3 := hwc.rows; have h4 := hb1.2
    unfold CfgM.sectors at h4
    unfold szN
    split; omega
    split; omega
    split; omega
    omega
  have hpc := places_any c _ wa H1.out.2 hdd hss
  have hnum : ∀ b ∈ plsL c c.disks.toNat, 0 ≤ S1.number b := fun b hb => pls_number hwf (by rw [hcf]; exact hb)
  generalize plsL c c.disks.toNat = L at hpc hnum
  have HF := Lib.hid (And.intro hwf (And.intro hfu (And.intro harm (And.intro hnum hdd.2))))
  clear hwf hcf hfu harm hb1 hwc hdd hss hnum
  obtain ⟨⟨a0, a1, a2, a3, a4, a5⟩, a6, p0, p1, p2⟩ := frp_cells H1.out.2.right
  go_wp2_with (fail)
  refine hpc.mono ?_
  rintro e wb ⟨lv, rfl, h2⟩
  clear hpc a0 a1 a2 a3 a4 a5 a6 p0 p1 p2
  have hlen : L.length ≤ 576 := by have h1 := h2.out.2.2; have h3 := HF.out.2.2.2.2; omega
  obtain ⟨lao, lcap, rfl⟩ := ownAt_slice h2.out.2.1
  replace H1 := Lib.hid (And.intro (H1.out.1.trans h2.out.1) h2.out.2.1)
  clear h2
  have HLEN := Lib.hid hlen
  clear hlen
  obtain ⟨ti, hti, hz0, hts, hz2⟩ := info_parts info_str
  generalize hR : frp B0 B1 c (.slice ao l.length cap) cp a w * emp = R at H1
  have HR := Lib.hid hR
  clear hR
  go_wp2
  go_loopw [11, 12] (fun o i wr => DsA w p S1 L (.slice lao L.length lcap) R o i wr) (fun _ i _ => L.length - (intOf i).toNat)
  case atStart => exact ⟨0, Nat.zero_le _, rfl, H1.out.1, ownAt_nil.2 H1.out.2⟩
  case round =>
    clear H1
    obtain ⟨k, hk, rfl, hsm1, hs1⟩ := hrel.st
    clear hrel
    obtain ⟨wao, wcap, rfl⟩ := ownAt_slice hs1
    have H1 := Lib.hid (And.intro hsm1 hs1)
    clear hsm1 hs1
    by_cases hlt : k < L.length
    case pos =>
      have hltd : decide ((k : Int) < (L.length : Int)) = true := decide_eq_true (by omega)
      have hk576 : (k : Int) ≤ 576 := by have := HLEN.out; omega
      obtain ⟨b, hb⟩ : ∃ b, L[k]? = some b := ⟨_, List.getElem?_eq_getElem hlt⟩
      obtain ⟨g, gcap, hv, hcell⟩ := ownAt_cells (H1.out.2.perm (show _ = ownAt TPl 3 (.slice lao L.length lcap) L.length (plsC L) * (ownAt TStr 1 (.slice wao k wcap) k (wasL S1 (L.take k)) * (shelfAt SH p S1 * R)) from by ac_rfl)) (by omega)
      obtain ⟨rfl, _, rfl⟩ : lao = some ⟨g, 0, none⟩ ∧ True ∧ lcap = gcap := by simpa using hv
      have b0 := hcell _ _ (plsC_at L k b hb 0 _ rfl); have b1 := hcell _ _ (plsC_at L k b hb 1 _ rfl); have b2 := hcell _ _ (plsC_at L k b hb 2 _ rfl); rw [Nat.add_zero] at b0
      have hpk := peek_any p S1 _ b wr (H1.out.2.perm (show _ = shelfAt SH p S1 * (ownAt TStr 1 (.slice wao k wcap) k (wasL S1 (L.take k)) * (ownAt TPl 3 (.slice (some ⟨g, 0, none⟩) L.length lcap) L.length (plsC L) * R)) from by ac_rfl))
      unfold PeekOut at hpk
      have HPK := Lib.hid hpk
      have HB := Lib.hid hb
      have HLK := Lib.hid (show k + 1 ≤ 577 by omega)
      clear hpk hb hcell hv
      go_upto_region 12 with ((go_at_call 12; refine HPK.out.mono ?_; rintro e w2 ⟨rfl, h2⟩; replace H1 := Lib.hid (And.intro (H1.out.1.trans h2.1) (h2.2.perm (show _ = ownAt TStr 1 (.slice wao k wcap) k (wasL S1 (L.take k)) * (shelfAt SH p S1 * (ownAt TPl 3 (.slice (some ⟨g, 0, none⟩) L.length lcap) L.length (plsC L) * R)) from by ac_rfl))); clear h2 b0 b1 b2))
      go_wp2_with (at_builtin; refine wpList_append_ownAt (F := shelfAt SH p S1 * (ownAt TPl 3 (.slice (some ⟨g, 0, none⟩) L.length lcap) L.length (plsC L) * R)) rfl _ _ 63 TStr rfl ti _ Try.underlying63 hti hz0 hts hz2 rfl (H1.out.2.allocKeep _) [.string (strB (S1.peek b).1)] rfl rfl rfl ?_ (by simp [Value.oneCell']) (by have := HLK.out; unfold maxLen; omega) (by have := HLK.out; omega) ?_)
      · intro j u hu
        match j, hu with
        | 0, hu => rw [Addr.add_mid, cells_at (heap_alloc_new _ _)]; simpa using hu
      intro v' w3' h2
      replace H1 := Lib.hid (And.intro ((H1.out.1.alloc _).trans h2.out.1) h2.out.2)
      clear h2
      go_wp2
      go_roundw
      case rel => exact ⟨⟨k + 1, hlt, rfl, H1.out.1, by rw [wasL_take S1 HB.out]; exact H1.out.2.perm (by ac_rfl)⟩⟩
      case measure => simp only [intOf]; omega
    have hke : k = L.length := by omega
    subst hke
    rw [List.take_length] at H1
    have hltd : decide ((L.length : Int) < (L.length : Int)) = false := decide_eq_false (by omega)
    clear hlt hk
    have HCR := Lib.hid (show ∀ (w' : World) (X : HProp), Sat w' (X * R) → _ from fun w' X h => (frp_cells (h.perm (show _ = frp B0 B1 c (.slice ao l.length cap) cp a w * (emp * X) from by rw [← HR.out]; ac_rfl))).2.2)
    go_upto_region 14 with (go_at_call 24; refine (text_any (opF f) (.slice none 0 0) _).mono ?_; rintro e w4 ⟨rfl, hb⟩; replace H1 := Lib.hid (And.intro (H1.out.1.below hb.out) (H1.out.2.below hb.out)); clear hb)
    have hlt := opF_len f
    generalize (opF f).text = t at hlt ⊢
    obtain ⟨⟨S2, e2⟩, hw2⟩ : ∃ r, S1.write a t = r := ⟨_, rfl⟩
    have hkey : ∀ b ∈ L, S2.peek b = (if b = a ∧ e2 = 0 then t else (S1.peek b).1, decide (S1.state b.disk = 1)) := by
      intro b hb
      have := ShelfM.write_peek HF.out.1 HF.out.2.1 HF.out.2.2.1 a hlt b (HF.out.2.2.2.1 b hb)
      rw [hw2] at this; exact this
    have hkst : ∀ d, S2.state d = S1.state d := by
      intro d
      have := ShelfM.write_state HF.out.1 HF.out.2.1 a t d
      rw [hw2] at this; exact this
    have hwr := st_write (p := p) (F := (ownAt TStr 1 (.slice wao L.length wcap) L.length (wasL S1 L)) * ((ownAt TPl 3 (.slice lao L.length lcap) L.length (plsC L)) * R)) a t (H1.out.2.perm (show _ = shelfAt SH p S1 * ((ownAt TStr 1 (.slice wao L.length wcap) L.length (wasL S1 L)) * ((ownAt TPl 3 (.slice lao L.length lcap) L.length (plsC L)) * R)) from by ac_rfl)) (by rw [hw2]) (by rw [hw2])
    simp only at hwr
    have HKEY := Lib.hid (And.intro hkey hkst)
    clear hkey hkst hw2 hlt
    obtain ⟨p0, p1, p2⟩ := HCR.out _ _ (H1.out.2.perm (show _ = ((ownAt TStr 1 (.slice wao L.length wcap) L.length (wasL S1 L)) * ((ownAt TPl 3 (.slice lao L.length lcap) L.length (plsC L)) * shelfAt SH p S1)) * R from by ac_rfl))
    go_upto_region 15 with (go_at_call 23; refine hwr.mono ?_; rintro e w5 ⟨rfl, h2⟩; clear hwr; replace H1 := Lib.hid (And.intro (H1.out.1.trans h2.out.1) h2.out.2); clear h2)
    clear p0 p1 p2
    go_wp2
    go_loopw [17] (fun i wr => DsB w (shelfAt SH p S2 * ((ownAt TStr 1 (.slice wao L.length wcap) L.length (wasL S1 L)) * ((ownAt TPl 3 (.slice lao L.length lcap) L.length (plsC L)) * R))) L.length i wr) (fun i _ => L.length - (intOf i).toNat)
    case atStart => exact ⟨0, Nat.zero_le _, rfl, H1.out⟩
    case round =>
      clear H1 hltd
      obtain ⟨k, hk, rfl, hsm1, hs1⟩ := hrel.st
      clear hrel
      have H1 := Lib.hid (And.intro hsm1 hs1)
      clear hsm1 hs1
      by_cases hlt : k < L.length
      case neg =>
        have hke : k = L.length := by omega
        subst hke
        have hltd : decide ((L.length : Int) < (L.length : Int)) = false := decide_eq_false (by omega)
        go_wp2
        go_ret
        exact ⟨rfl, H1.out.1.below_of (H1.out.2.perm (show _ = (shelfAt SH p S2 * ((ownAt TStr 1 (.slice wao L.length wcap) L.length (wasL S1 L)) * ((ownAt TPl 3 (.slice lao L.length lcap) L.length (plsC L)) * (pts B1 (.cells (plA a) TPl (0, 0)) * pts B0 (.cells (plyA c (.slice ao l.length cap) cp) TPlay (0, 0)))))) * old w from by rw [← HR.out]; unfold frp; rw [star_emp]; ac_rfl))⟩
      have hltd : decide ((k : Int) < (L.length : Int)) = true := decide_eq_true (by omega)
      have hk576 : (k : Int) ≤ 576 := by have := HLEN.out; omega
      obtain ⟨b, hb⟩ : ∃ b, L[k]? = some b := ⟨_, List.getElem?_eq_getElem hlt⟩
      obtain ⟨g, gcap, hv, hcell⟩ := ownAt_cells (H1.out.2.perm (show _ = (ownAt TPl 3 (.slice lao L.length lcap) L.length (plsC L)) * (shelfAt SH p S2 * ((ownAt TStr 1 (.slice wao L.length wcap) L.length (wasL S1 L)) * R)) from by ac_rfl)) (by omega)
      obtain ⟨rfl, _, rfl⟩ : lao = some ⟨g, 0, none⟩ ∧ True ∧ lcap = gcap := by simpa using hv
      have b0 := hcell _ _ (plsC_at L k b hb 0 _ rfl); have b1 := hcell _ _ (plsC_at L k b hb 1 _ rfl); have b2 := hcell _ _ (plsC_at L k b hb 2 _ rfl); rw [Nat.add_zero] at b0
      have hpk := peek_any p S2 _ b wr H1.out.2
      unfold PeekOut at hpk
      rw [HKEY.out.1 b (List.mem_of_getElem? hb)] at hpk
      simp only at hpk
      have HPK := Lib.hid hpk
      have HB := Lib.hid hb
      clear hpk hb hcell hv
      go_upto_region 19 with ((go_at_call 12; refine HPK.out.mono ?_; rintro e w6 ⟨rfl, h2⟩; replace H1 := Lib.hid (And.intro (H1.out.1.trans h2.1) h2.2); clear h2 b0 b1 b2))
      obtain ⟨g', gcap, hv, hcell⟩ := ownAt_cells (H1.out.2.perm (show _ = (ownAt TPl 3 (.slice (some ⟨g, 0, none⟩) L.length lcap) L.length (plsC L)) * (shelfAt SH p S2 * ((ownAt TStr 1 (.slice wao L.length wcap) L.length (wasL S1 L)) * R)) from by ac_rfl)) (by omega)
      obtain ⟨rfl, _, rfl⟩ : g = g' ∧ True ∧ lcap = gcap := by simpa using hv
      clear hv
      obtain ⟨g2, gcap2, hv, hcw⟩ := ownAt_cells (H1.out.2.perm (show _ = (ownAt TStr 1 (.slice wao L.length wcap) L.length (wasL S1 L)) * (shelfAt SH p S2 * ((ownAt TPl 3 (.slice (some ⟨g, 0, none⟩) L.length lcap) L.length (plsC L)) * R)) from by ac_rfl)) (by omega)
      obtain ⟨rfl, _, rfl⟩ : wao = some ⟨g2, 0, none⟩ ∧ True ∧ wcap = gcap2 := by simpa using hv
      clear hv
      have b0 := hcell _ _ (plsC_at L k b HB.out 0 _ rfl); have b1 := hcell _ _ (plsC_at L k b HB.out 1 _ rfl); have b2 := hcell _ _ (plsC_at L k b HB.out 2 _ rfl); rw [Nat.add_zero] at b0
      have cw := hcw k _ (wasL_at S1 HB.out)
      obtain ⟨p0, p1, p2⟩ := HCR.out _ _ (H1.out.2.perm (show _ = ((ownAt TStr 1 (.slice (some ⟨g2, 0, none⟩) L.length wcap) L.length (wasL S1 L)) * ((ownAt TPl 3 (.slice (some ⟨g, 0, none⟩) L.length lcap) L.length (plsC L)) * shelfAt SH p S2)) * R from by ac_rfl))
      have hst := fun (w' : World) h => state_any p S2 ((ownAt TStr 1 (.slice (some ⟨g2, 0, none⟩) L.length wcap) L.length (wasL S1 L)) * ((ownAt TPl 3 (.slice (some ⟨g, 0, none⟩) L.length lcap) L.length (plsC L)) * R)) b.disk w' h
      simp only [HKEY.out.2 b.disk] at hst
      have HST := Lib.hid hst
      clear hst hcell hcw HPK
      generalize (S1.peek b).1 = s1 at cw ⊢
      have hsep : b = a ∧ e2 = 0 ∨ ((b.disk == a.disk) && (b.area == a.area) && (b.index == a.index)) = false ∨ (e2 == 0) = false := by
        by_cases he : e2 = 0
        · by_cases hba : b = a
          · exact .inl ⟨hba, he⟩
          · refine .inr (.inl ?_)
            rcases b with ⟨x1, x2, x3⟩
            rcases a with ⟨y1, y2, y3⟩
            by_cases h1 : x1 = y1 <;> by_cases h2 : x2 = y2 <;> by_cases h3 : x3 = y3 <;> simp_all
        · exact .inr (.inr (by simpa using he))
      by_cases hb : b = a ∧ e2 = 0
      · rw [if_pos hb]
        obtain ⟨rfl, rfl⟩ := hb
        generalize S1.state b.disk = st at HST ⊢
        rw [show decide (st = 1) = (st == 1) by by_cases h : st = 1 <;> simp [h]]
        clear hsep
        go_upto_region 20 with (fail)
        go_quiet (fail)
        cases hz : (st == 1)
        all_goals
          go_wp2_with (go_at_call 16; refine (HST.out _ (H1.out.2.drewN _)).mono ?_; rintro e w' ⟨rfl, rfl⟩)
          refine ⟨⟨k + 1, hlt, rfl, H1.out.1.drewN _, H1.out.2.drewN _⟩, ?_⟩
          simp only [intOf]; omega
      · rw [if_neg hb]
        have hsp := hsep.resolve_left hb
        clear hsep hb
        generalize S1.state b.disk = st at HST ⊢
        rw [show decide (st = 1) = (st == 1) by by_cases h : st = 1 <;> simp [h]]
        go_upto_region 20 with (fail)
        cases z1 : (b.disk == a.disk)
        · clear hsp
          go_quiet (fail)
          cases hz : (st == 1)
          all_goals
            go_wp2_with (go_at_call 16; refine (HST.out _ (H1.out.2.drewN _)).mono ?_; rintro e w' ⟨rfl, rfl⟩)
            refine ⟨⟨k + 1, hlt, rfl, H1.out.1.drewN _, H1.out.2.drewN _⟩, ?_⟩
            simp only [intOf]; omega
        cases z2 : (b.area == a.area)
        · clear hsp
          go_quiet (fail)
          cases hz : (st == 1)
          all_goals
            go_wp2_with (go_at_call 16; refine (HST.out _ (H1.out.2.drewN _)).mono ?_; rintro e w' ⟨rfl, rfl⟩)
            refine ⟨⟨k + 1, hlt, rfl, H1.out.1.drewN _, H1.out.2.drewN _⟩, ?_⟩
            simp only [intOf]; omega
        cases z3 : (b.index == a.index)
        · clear hsp
          go_quiet (fail)
          cases hz : (st == 1)
          all_goals
            go_wp2_with (go_at_call 16; refine (HST.out _ (H1.out.2.drewN _)).mono ?_; rintro e w' ⟨rfl, rfl⟩)
            refine ⟨⟨k + 1, hlt, rfl, H1.out.1.drewN _, H1.out.2.drewN _⟩, ?_⟩
            simp only [intOf]; omega
        have z4 : (e2 == 0) = false := by simpa [z1, z2, z3] using hsp
        clear hsp
        go_quiet (fail)
        cases hz : (st == 1)
        all_goals
          go_wp2_with (go_at_call 16; refine (HST.out _ (H1.out.2.drewN _)).mono ?_; rintro e w' ⟨rfl, rfl⟩)
          refine ⟨⟨k + 1, hlt, rfl, H1.out.1.drewN _, H1.out.2.drewN _⟩, ?_⟩
          simp only [intOf]; omega

set_option maxRecDepth 100000 in
theorem shelfPlacesAreDistinct_lifted (os : Os) (started : os.Started) (H : Type) (enc : TypeId × Value → H) :
    ReturnsInHanded {} Try.checked os 6 .any (Rows.shelfPlacesAreDistinctSpec.pre6 enc Try.prog Try.f6 Rows.shelfPlacesAreDistinctRow.domain false) (Rows.shelfPlacesAreDistinctSpec.post enc Try.prog Try.f6 false true false false) := by
  refine returnsInHanded_of_change (C := Try.checked) law_own started (by kernel_rfl) Try.func6
    (ChangeSpec.witness6 (enc := enc) (C := Try.checked) false ⟨#[], #[.agg (plyA ⟨0, 0, 0, 0, 0, 0⟩ (.slice none 0 0) 0), .agg (plA ⟨0, 0, 0⟩), .int .u8 0], []⟩ 8 (by kernel_rfl) (by kernel_rfl) (by kernel_rfl) (by kernel_rfl)) ?_
  intro W base args ds gs before hval0 hW _ _
  have hval : ∀ (j : Nat) t v, Try.f6.params[j]? = some t → args[j]? = some v → Value.okWide Try.prog W .any base t v := hval0
  have hW' := hW
  obtain ⟨p, q, hA0, hV, rfl, _, _⟩ := hW
  have hA : DataW.TrodAll enc Try.prog W 0 (fun _ => true) true Try.f6.params.toList args.toList ds p := hA0
  rw [Try.params6] at hA hval
  obtain ⟨w0, vs0, d0, ds0, p0, q0, hargs, rfl, rfl, h0, r0⟩ := trodAll_cons hA
  obtain ⟨w1, vs1, d1, ds1, p1, q1, rfl, rfl, rfl, h1, r1⟩ := trodAll_cons r0
  obtain ⟨w2, vs2, d2, ds2, p2, q2, rfl, rfl, rfl, h2, r2⟩ := trodAll_cons r1
  obtain ⟨rfl, rfl, rfl⟩ := trodAll_nil r2
  obtain rfl : args = #[w0, w1, w2] := by cases args; simp_all
  obtain ⟨rfl, rfl⟩ := trodVars_none hV
  obtain ⟨cs0, rfl, _⟩ := okWide_struct Try.underlying41 (hval 0 _ w0 rfl rfl)
  obtain ⟨c, v, l, cp, e0, hscr, hcp⟩ := rd_play (trod_rd h0)
  obtain rfl : cs0 = plyA c v cp := by apply Array.ext'; simpa [Value.cells] using e0
  obtain ⟨cs1, rfl, _⟩ := okWide_struct Try.underlying25 (hval 1 _ w1 rfl rfl)
  obtain ⟨a1, e1⟩ := rd_pl (trod_rd h1)
  obtain rfl : cs1 = plA a1 := by apply Array.ext'; simpa [Value.cells] using e1
  obtain ⟨b2, rfl, rfl, rfl, wf2⟩ := open_int Try.underlying5 (hval 2 5 w2 rfl rfl) h2
  have hb2 := bounds_u8 wf2
  obtain ⟨n2, rfl⟩ := Int.eq_ofNat_of_zero_le hb2.1
  refine (distinct_law c v l cp a1 n2 (by omega) W hscr).mono fun e W' ⟨he, hg⟩ => ?_
  subst he
  exact ⟨_, rfl, law_post (by kernel_rfl) rfl (of_decide_eq_true (by kernel_rfl)) rfl hW' hg⟩

theorem shelfPlacesAreDistinct_holds : Rows.ShelfPlacesAreDistinctSaid :=
  OpenClaim.holds_of_wide 6 Try.f6 rfl rfl rfl rfl rfl rfl rfl ⟨rfl, rfl, rfl, rfl, rfl⟩ rfl rfl rfl rfl rfl (by kernel_rfl) Try.func6 (by kernel_rfl)
    (of_decide_eq_true (by kernel_rfl)) (by unfold Func.isWrapper; first | (rw [if_pos (by decide +kernel)]; kernel_rfl) | (rw [if_neg (by decide +kernel)]; exact ⟨rfl, rfl⟩))
    (fun os started H enc _ => shelfPlacesAreDistinct_lifted os started H enc)

end Go.Proofs.Ytogmkbhbmmgidaa
