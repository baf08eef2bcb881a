import Derived.Test.YtmcclbiaoeilkaaGreatP14
import Derived.Test.YtmcclbiaoeilkaaGreatP12
/- Part 15 of a proof; the last part says what is proved. -/
section
namespace Go.Proofs.YtmcclbiaoeilkaaGreat
open Go.RowKit Go.Sl Go.ChangeMaps
set_option maxHeartbeats 1000000 in
theorem ckcap_any (c : CfgM) (h0 : 1 ≤ c.image) (h1 : c.image ≤ 65536) (w : World) :
    Calls Tryz.prog 22 #[.agg (cfgA c)] w fun e w' => e = .returned (.int .i64 (capM c)) ∧ Below w.heap.size w w' := by
  have hm : max 0 (c.image - 1) = c.image - 1 := by omega
  have hc : capM c = (c.image - 1) * 40 := by unfold capM; rw [hm]
  have hw1 : IntKind.i64.wrap (c.image - 1) = c.image - 1 := IntWalk.i64_in _ (by omega)
  have hw2 : IntKind.i64.wrap ((c.image - 1) * 40) = (c.image - 1) * 40 := IntWalk.i64_in _ (by omega)
  have HB := Lib.hid (show Below w.heap.size w (w.alloc (.cells (cfgA c) TCfg)) from ((Same.refl w).alloc _).below_of ((Sat.old w).alloc (.cells (cfgA c) TCfg)))
  obtain ⟨im, him⟩ : ∃ im, c.image = im := ⟨_, rfl⟩
  rw [him] at hm hc hw1 hw2 h0 h1
  rw [hc]
  have hcc : cfgA c = #[.int .i64 c.disks, .int .i64 c.racks, .int .i64 c.rows, .int .i64 c.spare, .int .i64 c.log, .int .i64 im] := by rw [← him]
  rw [hcc] at HB ⊢
  clear hcc hc him
  go_enter Tryz.func22, Tryz.ntmps22
  go_wp2
  go_ret
  exact ⟨rfl, HB.out⟩
theorem getI_le {b : List UInt8} {x : Int} {u : Nat} (h : getI b = some (x, u)) : u ≤ b.length := by
  cases b with
  | nil => cases h
  | cons c r =>
    unfold getI at h
    simp only at h
    split at h; cases h
    split at h; cases h
    split at h; cases h
    split at h; cases h
    simp only [Option.some.injEq, Prod.mk.injEq] at h
    rw [← h.2, List.length_cons]
    omega
theorem BytesC.drop {w : World} {ao : Option Addr} {cap m n : Nat} {l : List UInt8} (h : BytesC w (.slice ao n cap) l) (hn : l.length = n) (hm : m ≤ n) :
    BytesC w (.slice (if cap = m then ao else ao.map fun x => x.add m) (n - m) (cap - m)) (l.drop m) := by
  subst hn
  obtain ⟨ao', cap', he', hc, h3⟩ := h
  simp only [Value.slice.injEq, true_and] at he'
  obtain ⟨rfl, rfl⟩ := he'
  refine ⟨_, _, by rw [List.length_drop], by rw [List.length_drop]; omega, fun hne => ?_⟩
  have hlt : m < l.length := by
    rcases Nat.lt_or_ge m l.length with h | h
    · exact h
    · exact absurd (List.drop_eq_nil_of_le h) hne
  have hne2 : l ≠ [] := by rintro rfl; simp at hlt
  obtain ⟨b, off, rfl, hcell⟩ := h3 hne2
  refine ⟨b, off + m, ?_, fun j x hj => ?_⟩
  · rw [if_neg (by omega)]; simp [Addr.add_mid]
  · rw [List.getElem?_drop] at hj
    have := hcell (m + j) x hj
    rw [show off + m + j = off + (m + j) by omega]; exact this
def HeadOut (b : List UInt8) (most : Int) (w : World) (e : Ending) (w' : World) : Prop := ∃ (s n : Int) (ok : Bool), e = .returned (.tuple #[.int .i64 s, .int .i64 n, .bool ok]) ∧ w = w' ∧ (ok = (headM b most).isSome ∧ ∀ s' n', headM b most = some (s', n') → s = s' ∧ n = (n' : Int))
theorem headM_val (b : List UInt8) (most : Int) : headM b most = match getI b with
    | none => none
    | some (s, u) => match getI (b.drop u) with
      | none => none
      | some (n, _) => if 0 ≤ s ∧ 0 ≤ n ∧ n ≤ most then some (s, n.toNat) else none := rfl
set_option maxRecDepth 40000 in
set_option maxHeartbeats 4000000 in
theorem ckhead_any (v : Value) (b : List UInt8) (most : Int) (w : World) (hb : BytesC w v b) (hl : b.length ≤ 1000) :
    Calls Tryz.prog 79 #[v, .int .i64 most] w (HeadOut b most w) := by
  have HG := Lib.hid (wgeti_any v b w hb hl)
  cases h1 : getI b with
  | none =>
    have hh : headM b most = none := by rw [headM_val, h1]
    obtain ⟨e1, e2, e3⟩ := getI_none h1
    rw [e1, e2, e3] at HG
    have HH := Lib.hid hh
    clear h1 hh e1 e2 e3 hb
    go_enter Tryz.func79, Tryz.ntmps79
    go_wp2_with (go_at_call 124; refine HG.out.mono ?_; rintro e w1 ⟨k, hk, rfl, rfl⟩; have hk0 : (k != 0) = true := bne_iff_ne.2 (fun h => nomatch hk.1 h); clear hk)
    go_ret3
    exact ⟨0, 0, false, rfl, rfl, by rw [HH.out]; rfl, fun _ _ h => by rw [HH.out] at h; cases h⟩
  | some su =>
    obtain ⟨s, u⟩ := su
    obtain ⟨e1, e2, e3⟩ := getI_some h1
    rw [e1, e2, e3] at HG
    have hu := getI_le h1
    obtain ⟨ao, cap, rfl, hbc⟩ := id hb
    obtain ⟨N, hN⟩ : ∃ N, b.length = N := ⟨_, rfl⟩
    rw [hN] at hb HG hu hl ⊢
    have HG2 := Lib.hid (wgeti_any _ (b.drop u) w (hb.drop hN hu) (by rw [List.length_drop]; omega))
    clear hbc hN
    cases h2 : getI (b.drop u) with
    | none =>
      have hh : headM b most = none := by rw [headM_val, h1]; simp only [h2]
      obtain ⟨f1, f2, f3⟩ := getI_none h2
      rw [f1, f2, f3] at HG2
      have HH := Lib.hid hh
      clear h1 h2 hh e1 e2 e3 f1 f2 f3 hb
      go_enter Tryz.func79, Tryz.ntmps79
      go_upto_region 4 with (go_at_call 124; refine HG.out.mono ?_; rintro e w1 ⟨k, hk, rfl, rfl⟩; obtain rfl : k = 0 := (by simpa using hk); clear hk)
      go_wp2_with (go_at_call 124; refine HG2.out.mono ?_; rintro e w1 ⟨k, hk, rfl, rfl⟩; have hk0 : (k == 0) = false := beq_eq_false_iff_ne.2 (fun h => nomatch hk.1 h); clear hk)
      all_goals go_ret3
      all_goals exact ⟨_, _, _, rfl, rfl, by rw [HH.out]; rfl, fun _ _ h => by rw [HH.out] at h; cases h⟩
    | some nu =>
      obtain ⟨n, u2⟩ := nu
      have hh : headM b most = if 0 ≤ s ∧ 0 ≤ n ∧ n ≤ most then some (s, n.toNat) else none := by rw [headM_val, h1]; simp only [h2]
      obtain ⟨f1, f2, f3⟩ := getI_some h2
      rw [f1, f2, f3] at HG2
      have HH := Lib.hid hh
      clear h1 h2 hh e1 e2 e3 f1 f2 f3 hb
      go_enter Tryz.func79, Tryz.ntmps79
      go_upto_region 4 with (go_at_call 124; refine HG.out.mono ?_; rintro e w1 ⟨k, hk, rfl, rfl⟩; obtain rfl : k = 0 := (by simpa using hk); clear hk)
      go_upto_region 5 with (go_at_call 124; refine HG2.out.mono ?_; rintro e w1 ⟨k, hk, rfl, rfl⟩; obtain rfl : k = 0 := (by simpa using hk); clear hk)
      have hH := HH.out
      by_cases hs : 0 ≤ s
      · have d1 : decide (0 ≤ s) = true := decide_eq_true hs
        by_cases hn : 0 ≤ n
        · have d2 : decide (0 ≤ n) = true := decide_eq_true hn
          by_cases hm : n ≤ most
          · have d3 : decide (n ≤ most) = true := decide_eq_true hm
            rw [if_pos ⟨hs, hn, hm⟩] at hH
            have HQ := Lib.hid hH
            clear hH
            have HN := Lib.hid hn
            clear hs hn hm HH
            go_wp2
            all_goals go_ret3
            all_goals exact ⟨_, _, _, rfl, rfl, by rw [HQ.out]; rfl, fun s' n' h => by rw [HQ.out] at h; simp only [Option.some.injEq, Prod.mk.injEq] at h; exact ⟨h.1, by rw [← h.2]; have := HN.out; omega⟩⟩
          · have d3 : decide (n ≤ most) = false := decide_eq_false hm
            rw [if_neg (fun h => hm h.2.2)] at hH
            have HQ := Lib.hid hH
            clear hH
            clear hs hn hm HH
            go_wp2
            all_goals go_ret3
            all_goals exact ⟨_, _, _, rfl, rfl, by rw [HQ.out]; rfl, fun s' n' h => by rw [HQ.out] at h; cases h⟩
        · have d2 : decide (0 ≤ n) = false := decide_eq_false hn
          rw [if_neg (fun h => hn h.2.1)] at hH
          have HQ := Lib.hid hH
          clear hH
          clear hs hn HH
          go_wp2
          all_goals go_ret3
          all_goals exact ⟨_, _, _, rfl, rfl, by rw [HQ.out]; rfl, fun s' n' h => by rw [HQ.out] at h; cases h⟩
      · have d1 : decide (0 ≤ s) = false := decide_eq_false hs
        rw [if_neg (fun h => hs h.1)] at hH
        have HQ := Lib.hid hH
        clear hH
        clear hs HH
        go_wp2
        all_goals go_ret3
        all_goals exact ⟨_, _, _, rfl, rfl, by rw [HQ.out]; rfl, fun s' n' h => by rw [HQ.out] at h; cases h⟩
end Go.Proofs.YtmcclbiaoeilkaaGreat
end
section
namespace Go.Proofs.YtmcclbiaoeilkaaGreat
open Go.RowKit Go.Sl Go.ChangeMaps
theorem genV_iff {g : GenM} : genV g = true ↔ 0 ≤ g.epoch ∧ 0 ≤ g.count ∧ g.epoch < 4294967296 ∧ g.count < 4294967296 := by
  unfold genV
  simp only [Bool.and_eq_true, decide_eq_true_eq]
  constructor
  · rintro ⟨h1, h2⟩; exact ⟨by omega, by omega, by omega, by omega⟩
  · rintro ⟨h1, h2, h3, h4⟩; exact ⟨by omega, by omega⟩
theorem tailV_iff {t : TailM} : tailV t = true ↔ 0 ≤ t.next ∧ 0 ≤ t.number ∧ t.next ≤ 2147483647 ∧ t.number ≤ 2147483647 ∧ genV t.gen = true := by
  unfold tailV
  simp only [Bool.and_eq_true, decide_eq_true_eq]
  constructor
  · rintro ⟨⟨h1, h2⟩, h3⟩; exact ⟨by omega, by omega, by omega, by omega, h3⟩
  · rintro ⟨h1, h2, h3, h4, h5⟩; exact ⟨⟨by omega, by omega⟩, h5⟩
def OldL (f : Nat → List UInt8) (d : Int) (i : Int) (g : GenM) : Prop := ∀ j : Nat, i ≤ (j : Int) → ∀ x, openM ⟨d, 1, (j : Int)⟩ (f j) = some x → newerM x.1 g = false
theorem OldL.none {f : Nat → List UInt8} {N : Nat} {d : Int} {t : TailM} (h : OldL f d t.next t.gen) (h0 : 0 ≤ t.next) : nextL f N d t = none := by
  unfold nextL
  cases hx : readL f N d t.next.toNat with
  | none => rfl
  | some x =>
    simp only
    rw [if_neg]
    rintro ⟨h1, _⟩
    unfold readL at hx
    split at hx
    · cases hx
    · cases ho : openM ⟨d, 1, (t.next.toNat : Int)⟩ (f t.next.toNat) with
      | none => rw [ho] at hx; cases hx
      | some z =>
        rw [ho] at hx
        simp only [Option.map_some, Option.some.injEq] at hx
        have := h t.next.toNat (by omega) z ho
        rw [← hx] at h1
        rw [show (partM z).gen = z.1 from rfl, this] at h1
        cases h1
theorem zsec_open (a : PlaceM) : openM a zsec = none := by
  unfold openM
  rw [if_neg]
  rintro ⟨_, _, h, _⟩
  unfold labelOK at h
  simp only [Bool.and_eq_true] at h
  exact absurd h.1.2 (by decide)
end Go.Proofs.YtmcclbiaoeilkaaGreat
namespace Go.Proofs.YtmcclbiaoeilkaaGreat
open Go.RowKit Go.Sl Go.ChangeMaps
def sumN (rs : List (List UInt8)) : Int := (rs.map fun r => sizeM (r.length : Int)).sum
theorem sumN_nonneg : ∀ rs : List (List UInt8), 0 ≤ sumN rs
  | [] => by simp [sumN]
  | r :: l => by
    have := sumN_nonneg l
    have := size_pos (n := (r.length : Int)) (by omega)
    simp only [sumN, List.map_cons, List.sum_cons] at *
    omega
def genK (k : Nat) : GenM := if k = 0 then g0 else ⟨1, (k : Int)⟩
def tailK (rs : List (List UInt8)) (k : Nat) : TailM := ⟨sumN (rs.take k), (k : Int), genK k⟩
theorem genK_valid {k : Nat} (h : k < 4294967296) : genV (genK k) = true := by
  unfold genK
  split
  · decide
  · exact genV_iff.2 ⟨by simp, by simp only; omega, by simp, by simp only; omega⟩
theorem tailK_valid {rs : List (List UInt8)} {k N : Nat} (h : sumN (rs.take k) ≤ (N : Int)) (hN : N ≤ 65536) (hk : k ≤ 1000) : tailV (tailK rs k) = true :=
  tailV_iff.2 ⟨sumN_nonneg _, by show (0 : Int) ≤ (k : Int); omega, by show sumN (rs.take k) ≤ 2147483647; omega, by show (k : Int) ≤ 2147483647; omega, genK_valid (by omega)⟩
theorem nextL_mono {f : Nat → List UInt8} {N : Nat} {d : Int} {t t1 : TailM} {r : List UInt8} (h : nextL f N d t = some (r, t1)) : t.next + 1 ≤ t1.next := by
  unfold nextL at h
  cases hx : readL f N d t.next.toNat with
  | none => rw [hx] at h; cases h
  | some x =>
    rw [hx] at h
    simp only at h
    by_cases hc : firstOK t x
    · rw [if_pos hc] at h
      cases hr : restL f N d t.next.toNat x 1 ((sizeM x.left).toNat - 1) with
      | none => rw [hr] at h; cases h
      | some y =>
        rw [hr] at h
        simp only [Option.map_some, Option.some.injEq, Prod.mk.injEq] at h
        have hl : 0 ≤ x.left := by
          unfold readL at hx
          split at hx
          · cases hx
          · cases ho : openM ⟨d, 1, (t.next.toNat : Int)⟩ (f t.next.toNat) with
            | none => rw [ho] at hx; cases hx
            | some z =>
              rw [ho] at hx
              simp only [Option.map_some, Option.some.injEq] at hx
              rw [← hx]; exact Int.natCast_nonneg _
        have := size_pos hl
        rw [← h.2]
        simp only
        omega
    · rw [if_neg hc] at h; cases h
theorem ChainL.mono {f : Nat → List UInt8} {N : Nat} {d : Int} {t t1 : TailM} {l : List (List UInt8)} (h : ChainL f N d t l t1) : t.next ≤ t1.next := by
  induction h with
  | nil t => exact Int.le_refl _
  | cons h _ ih => have := nextL_mono h; omega
theorem ChainL.congr {f f' : Nat → List UInt8} {N : Nat} {d : Int} {t t1 : TailM} {l : List (List UInt8)} (h : ChainL f N d t l t1) (h0 : 0 ≤ t.next) (hf : ∀ j : Nat, (j : Int) < t1.next → f j = f' j) : ChainL f' N d t l t1 := by
  induction h with
  | nil t => exact .nil t
  | cons h hr ih =>
    have h1 := nextL_mono h
    have h2 := hr.mono
    exact .cons (nextL_congr h h0 fun j _ h4 => hf j (by omega)) (ih (by omega) hf)
structure LogL (f : Nat → List UInt8) (N : Nat) (d : Int) (t : TailM) (rs : List (List UInt8)) (t' : TailM) : Prop where
  chain : ChainL f N d t rs t'
  old : OldL f d 0 t'.gen
  start : 0 ≤ t.next
  tail : tailV t' = true
  fit : t'.next ≤ (N : Int)
theorem LogL.next0 {f : Nat → List UInt8} {N : Nat} {d : Int} {t t' : TailM} {rs : List (List UInt8)} (h : LogL f N d t rs t') : 0 ≤ t'.next := (tailV_iff.1 h.tail).1
theorem LogL.none {f : Nat → List UInt8} {N : Nat} {d : Int} {t t' : TailM} {rs : List (List UInt8)} (h : LogL f N d t rs t') : nextL f N d t' = Option.none :=
  OldL.none (fun j _ x hx => h.old j (Int.natCast_nonneg _) x hx) h.next0
theorem LogL.empty {f : Nat → List UInt8} {N : Nat} {d : Int} {t : TailM} (h : OldL f d 0 t.gen) (ht : tailV t = true) (hf : t.next ≤ (N : Int)) : LogL f N d t [] t := ⟨.nil t, h, (tailV_iff.1 ht).1, ht, hf⟩
structure LogK (f : Nat → List UInt8) (N : Nat) (d : Int) (rs : List (List UInt8)) : Prop where
  chain : ∀ k, k ≤ rs.length → ChainL f N d (tailK rs k) (rs.drop k) (tailK rs rs.length)
  pre : ∀ k, k ≤ rs.length → ChainL f N d t0 (rs.take k) (tailK rs k)
  old : OldL f d 0 (genK rs.length)
  fit : sumN rs ≤ (N : Int)
theorem LogK.log {f : Nat → List UInt8} {N : Nat} {d : Int} {rs : List (List UInt8)} (h : LogK f N d rs) (hN : N ≤ 65536) (hl : rs.length ≤ 1000) {k : Nat} (hk : k ≤ rs.length) : LogL f N d (tailK rs k) (rs.drop k) (tailK rs rs.length) :=
  ⟨h.chain k hk, h.old, sumN_nonneg _, tailK_valid (by rw [List.take_length]; exact h.fit) hN hl, by show sumN (rs.take rs.length) ≤ _; rw [List.take_length]; exact h.fit⟩
theorem LogK.nil {N : Nat} {d : Int} {f : Nat → List UInt8} (h : ∀ j : Nat, openM ⟨d, 1, (j : Int)⟩ (f j) = none) : LogK f N d [] :=
  by
  refine ⟨fun k hk => ?_, fun k hk => ?_, fun j _ x hx => ?_, ?_⟩
  · obtain rfl : k = 0 := by simpa using hk
    exact .nil _
  · obtain rfl : k = 0 := by simpa using hk
    exact .nil _
  · rw [h j] at hx; cases hx
  · simp [sumN]
end Go.Proofs.YtmcclbiaoeilkaaGreat
namespace Go.Proofs.YtmcclbiaoeilkaaGreat
open Go.RowKit Go.Sl Go.ChangeMaps
structure FineS (c : CfgM) (S : ShelfM) : Prop where
  wf : S.WF
  cfg : S.cfg = c
  off : S.off = false
  fused : S.fused = false
  st : ∀ d : Int, 0 ≤ d → d < c.disks → S.state d = 1
  armed : ∀ d : Int, 0 ≤ d → d < c.disks → ∀ i, (S.disk d).armed i = none
def conL (S : ShelfM) (d : Int) (j : Nat) : List UInt8 := (S.disk d).content j
theorem FineS.bays {c : CfgM} {S : ShelfM} (h : FineS c S) : (S.bays.length : Int) = c.disks := by
  have h1 := h.wf.bays
  have h2 := h.wf.cfg.disks
  rw [h.cfg] at h1 h2
  omega
theorem log_number {S : ShelfM} {d : Int} {i : Nat} (hd : S.state d ≠ 0) (hi : (i : Int) < S.cfg.log) : S.number ⟨d, 1, (i : Int)⟩ = (i : Int) := by
  unfold ShelfM.number
  have hs : S.cfg.size 1 = S.cfg.log := by simp [CfgM.size]
  have hb : S.cfg.base 1 = 0 := by simp [CfgM.base]
  simp only
  rw [hs, hb, if_neg (by omega)]
  omega
theorem log_has {S : ShelfM} (hw : S.WF) {d : Int} {i : Nat} (hd : S.state d = 1) (hi : (i : Int) < S.cfg.log) : i < (S.disk d).n := by
  have h1 := ShelfM.disk_n hw hd
  have h2 := hw.cfg.image; have h3 := hw.cfg.rows
  unfold CfgM.sectors at h1
  omega
theorem FineS.write {c : CfgM} {S : ShelfM} (h : FineS c S) {d : Int} (h0 : 0 ≤ d) (h1 : d < c.disks) {i : Nat} (hi : (i : Int) < c.log) {s : List UInt8} (hs : s.length = 64) :
    (S.write ⟨d, 1, (i : Int)⟩ s).2 = 0 ∧ FineS c (S.write ⟨d, 1, (i : Int)⟩ s).1 ∧ ∀ e : Int, ∀ j : Nat, conL (S.write ⟨d, 1, (i : Int)⟩ s).1 e j = if e = d ∧ j = i then s else conL S e j := by
  have hst := h.st d h0 h1
  have hi' : (i : Int) < S.cfg.log := by rw [h.cfg]; exact hi
  have hlt := log_has h.wf hst hi'
  have hwr := DiskM.write_ok hlt hs (h.armed d h0 h1 i)
  have hb : d < (S.bays.length : Int) := by rw [h.bays]; exact h1
  have he : S.write ⟨d, 1, (i : Int)⟩ s = (S.setDisk d { S.disk d with cache := fupd (S.disk d).cache i (some s) }, 0) := by
    unfold ShelfM.write
    rw [log_number (by omega) hi', if_neg (by omega), ShelfM.step_run h.off hst h.fused, hwr]
  rw [he]
  refine ⟨rfl, ⟨?_, h.cfg, h.off, h.fused, fun e e0 e1 => ?_, fun e e0 e1 k => ?_⟩, fun e j => ?_⟩
  · exact h.wf.setDisk (by omega) rfl
  · simp only
    rw [ShelfM.setDisk_state h0 hb]; exact h.st e e0 e1
  · simp only
    rw [ShelfM.setDisk_disk h0 hb]
    split
    · exact h.armed d h0 h1 k
    · exact h.armed e e0 e1 k
  · unfold conL
    simp only
    rw [ShelfM.setDisk_disk h0 hb]
    by_cases hed : e = d
    · subst hed
      rw [if_pos rfl]
      by_cases hj : j = i
      · subst hj; rw [if_pos ⟨rfl, rfl⟩]; simp [DiskM.content, fupd]
      · rw [if_neg (by simp [hj])]; simp [DiskM.content, fupd, hj]
    · rw [if_neg hed, if_neg (by simp [hed])]
end Go.Proofs.YtmcclbiaoeilkaaGreat
end
