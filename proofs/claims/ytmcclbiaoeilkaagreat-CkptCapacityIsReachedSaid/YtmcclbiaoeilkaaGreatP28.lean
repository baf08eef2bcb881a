import Derived.Test.YtmcclbiaoeilkaaGreatP27
/- Part 28 of a proof; the last part says what is proved. -/
namespace Go.Proofs.YtmcclbiaoeilkaaGreat
open Go.RowKit Go.Sl Go.ChangeMaps
def durL (S : ShelfM) (d : Int) (j : Nat) : List UInt8 := (S.disk d).dur j
structure FineP (c : CfgM) (S : ShelfM) : Prop where
  wf : S.WF
  cfg : S.cfg = c
  st : ∀ d : Int, 0 ≤ d → d < c.disks → S.state d = 1
  armed : ∀ d : Int, 0 ≤ d → d < c.disks → ∀ i, (S.disk d).armed i = none
theorem FineS.part {c : CfgM} {S : ShelfM} (h : FineS c S) : FineP c S := ⟨h.wf, h.cfg, h.st, h.armed⟩
theorem FineP.bays {c : CfgM} {S : ShelfM} (h : FineP c S) : (S.bays.length : Int) = c.disks := by
  have h1 := h.wf.bays
  have h2 := h.wf.cfg.disks
  rw [h.cfg] at h1 h2
  omega
theorem FineP.set {c : CfgM} {S : ShelfM} (h : FineP c S) {d : Int} (h0 : 0 ≤ d) (h1 : d < c.disks) {D : DiskM} (hn : D.n = (S.disk d).n) (ha : ∀ i, D.armed i = none) {n : Int} (hw : ({ S with left := n } : ShelfM).WF) :
    FineP c (({ S with left := n } : ShelfM).setDisk d D) ∧ ∀ e : Int, (({ S with left := n } : ShelfM).setDisk d D).disk e = if e = d then D else S.disk e := by
  have hst : ({ S with left := n } : ShelfM).state d = 1 := h.st d h0 h1
  have hb : d < (({ S with left := n } : ShelfM).bays.length : Int) := by rw [show ({ S with left := n } : ShelfM).bays = S.bays from rfl, h.bays]; exact h1
  have hd : ∀ e : Int, (({ S with left := n } : ShelfM).setDisk d D).disk e = if e = d then D else S.disk e := fun e => ShelfM.setDisk_disk h0 hb
  refine ⟨⟨hw.setDisk (by omega) hn, h.cfg, fun e e0 e1 => ?_, fun e e0 e1 i => ?_⟩, hd⟩
  · rw [ShelfM.setDisk_state h0 hb]; exact h.st e e0 e1
  · rw [hd]
    split
    · exact ha i
    · exact h.armed e e0 e1 i
theorem wf_off {S : ShelfM} (h : S.WF) : ({ S with off := true, fused := false } : ShelfM).WF := ⟨h.cfg, h.bays, h.st, h.images, fun hf => (by cases hf)⟩
theorem FineP.down {c : CfgM} {S : ShelfM} (h : FineP c S) : FineP c { S with off := true, fused := false } := ⟨wf_off h.wf, h.cfg, h.st, h.armed⟩
theorem step_fuse {S : ShelfM} (hw : S.WF) (ho : S.off = false) {d : Int} (hst : S.state d = 1) (f : DiskM → DiskM) :
    (∃ n : Int, ({ S with left := n } : ShelfM).WF ∧ S.step d f = (({ S with left := n } : ShelfM).setDisk d (f (S.disk d)), 0)) ∨ S.step d f = ({ S with off := true, fused := false }, 14) := by
  unfold ShelfM.step
  rw [if_neg (by rw [ho]; decide), if_neg (by rw [hst]; simp)]
  cases hf : S.fused with
  | false =>
    rw [if_neg (by decide)]
    refine .inl ⟨S.left, ⟨hw.cfg, hw.bays, hw.st, hw.images, fun h => (by cases h)⟩, ?_⟩
    obtain ⟨c, b, im, o, fu, le⟩ := S
    simp only at hf
    subst hf
    rfl
  | true =>
    rw [if_pos rfl]
    by_cases hl : S.left = 0
    · rw [if_pos hl]; exact .inr rfl
    · rw [if_neg hl]
      have := hw.left hf
      exact .inl ⟨S.left - 1, ⟨hw.cfg, hw.bays, hw.st, hw.images, fun _ => ⟨by show 0 ≤ S.left - 1; omega, by show S.left - 1 < _; omega⟩⟩, rfl⟩
theorem FineP.write {c : CfgM} {S : ShelfM} (h : FineP c S) (ho : S.off = false) {d : Int} (h0 : 0 ≤ d) (h1 : d < c.disks) {i : Nat} (hi : (i : Int) < c.log) {s : List UInt8} (hs : s.length = 64) :
    (∃ S', S.write ⟨d, 1, (i : Int)⟩ s = (S', 0) ∧ S'.off = false ∧ FineP c S' ∧ (∀ j, conL S' d j = if j = i then s else conL S d j) ∧ durL S' d = durL S d) ∨ S.write ⟨d, 1, (i : Int)⟩ s = ({ S with off := true, fused := false }, 14) := by
  have hst := h.st d h0 h1
  have hi' : (i : Int) < S.cfg.log := by rw [h.cfg]; exact hi
  have hlt := log_has h.wf hst hi'
  have hwr := DiskM.write_ok hlt hs (h.armed d h0 h1 i)
  have he : S.write ⟨d, 1, (i : Int)⟩ s = S.step d fun D => (D.write (i : Int) s).1 := by
    unfold ShelfM.write
    rw [log_number (by omega) hi', if_neg (by omega)]
  rw [he]
  rcases step_fuse h.wf ho hst (fun D => (D.write (i : Int) s).1) with ⟨n, hw, hs'⟩ | hs'
  · rw [hwr] at hs'
    obtain ⟨f1, f2⟩ := h.set h0 h1 (D := { S.disk d with cache := fupd (S.disk d).cache i (some s) }) rfl (fun k => h.armed d h0 h1 k) hw
    refine .inl ⟨_, hs', ho, f1, fun j => ?_, ?_⟩
    · unfold conL
      rw [f2, if_pos rfl]
      by_cases hj : j = i
      · subst hj; rw [if_pos rfl]; simp [DiskM.content, fupd]
      · rw [if_neg hj]; simp [DiskM.content, fupd, hj]
    · funext j
      unfold durL
      rw [f2, if_pos rfl]
  · exact .inr hs'
theorem FineP.flush {c : CfgM} {S : ShelfM} (h : FineP c S) (ho : S.off = false) {d : Int} (h0 : 0 ≤ d) (h1 : d < c.disks) :
    (∃ S', S.flush d = (S', 0) ∧ S'.off = false ∧ FineP c S' ∧ conL S' d = conL S d ∧ durL S' d = conL S d) ∨ S.flush d = ({ S with off := true, fused := false }, 14) := by
  have hst := h.st d h0 h1
  unfold ShelfM.flush
  rw [if_neg (by omega)]
  rcases step_fuse h.wf ho hst DiskM.flush with ⟨n, hw, hs'⟩ | hs'
  · obtain ⟨f1, f2⟩ := h.set h0 h1 (D := (S.disk d).flush) rfl (fun k => h.armed d h0 h1 k) hw
    refine .inl ⟨_, hs', ho, f1, ?_, ?_⟩
    · funext j; unfold conL; rw [f2, if_pos rfl]; rfl
    · funext j; unfold durL conL; rw [f2, if_pos rfl]; rfl
  · exact .inr hs'
theorem cutBays_get : ∀ (l : List BayM) (p : List Int) (k : Nat) (b : BayM), l[k]? = some b → b.state = 1 → ∃ q, (ShelfM.cutBays l p)[k]? = some ⟨b.disk.cut q, 1⟩
  | [], _, _, _, h, _ => by simp at h
  | a :: l, p, 0, b, h, hb => by
    obtain rfl : a = b := by simpa using h
    unfold ShelfM.cutBays
    rw [if_pos hb]
    exact ⟨_, rfl⟩
  | a :: l, p, k + 1, b, h, hb => by
    have h' : l[k]? = some b := by simpa using h
    unfold ShelfM.cutBays
    split
    · obtain ⟨q, hq⟩ := cutBays_get l (p.drop a.disk.pending.length) k b h' hb
      exact ⟨q, by simpa using hq⟩
    · obtain ⟨q, hq⟩ := cutBays_get l p k b h' hb
      exact ⟨q, by simpa using hq⟩
theorem mount_disk {S : ShelfM} (p : List Int) {d : Int} (h : S.state d = 1) : ∃ q, (S.mount p).disk d = (S.disk d).cut q := by
  have hb : ∃ b, S.bay d = some b ∧ b.state = 1 := by
    unfold ShelfM.state at h
    cases hb : S.bay d with
    | none => rw [hb] at h; simp at h
    | some b => rw [hb] at h; exact ⟨b, rfl, h⟩
  obtain ⟨b, hb, hs⟩ := hb
  have hbd := ShelfM.bay_disk hb
  unfold ShelfM.bay at hb
  split at hb
  · next h0 =>
    obtain ⟨q, hq⟩ := cutBays_get S.bays p d.toNat b hb hs
    refine ⟨q, ?_⟩
    have hm : (S.mount p).bay d = some ⟨b.disk.cut q, 1⟩ := by
      unfold ShelfM.bay
      rw [if_pos h0]
      exact hq
    rw [ShelfM.bay_disk hm, hbd]
  · cases hb
theorem torn_same (s : List UInt8) (k : Int) : DiskM.torn s s k = s := by unfold DiskM.torn; rw [List.take_append_drop]
theorem mount_part {c : CfgM} {S : ShelfM} (h : FineP c S) {p : List Int} (hw : (S.mount p).WF) : FineS c (S.mount p) ∧ ∀ d : Int, 0 ≤ d → d < c.disks → ∀ j, ∃ k : Int, conL (S.mount p) d j = DiskM.torn (conL S d j) (durL S d j) k := by
  refine ⟨⟨hw, h.cfg, rfl, rfl, fun d h0 h1 => ?_, fun d h0 h1 i => ?_⟩, fun d h0 h1 j => ?_⟩
  · rw [ShelfM.mount_state]; exact h.st d h0 h1
  · obtain ⟨q, hq⟩ := mount_disk p (h.st d h0 h1)
    rw [hq]; rfl
  · obtain ⟨q, hq⟩ := mount_disk p (h.st d h0 h1)
    unfold conL durL
    rw [hq]
    unfold DiskM.content DiskM.cut
    simp only [Option.getD_none]
    cases (S.disk d).cache j with
    | none => exact ⟨0, (torn_same _ _).symm⟩
    | some s => exact ⟨_, rfl⟩
theorem clamp_le (k : Int) : DiskM.clamp k ≤ 64 := by unfold DiskM.clamp; omega
theorem labelOK_parts {s : List UInt8} (h : labelOK s = true) : getM (subL s 0 4) = (crcM (s.drop 4)).toNat ∧ genOK (genAt s 8) = true ∧ subL s 8 16 = s.drop 56 := by
  unfold labelOK at h
  simp only [Bool.and_eq_true, decide_eq_true_eq] at h
  exact ⟨h.1.1.1, h.1.2, h.2⟩
theorem open_label {a : PlaceM} {s : List UInt8} (h : (openM a s).isSome = true) : s.length = 64 ∧ labelOK s = true := by
  unfold openM at h
  split at h
  · next hc => exact ⟨hc.2.1, hc.2.2.1⟩
  · cases h
theorem open_none_of {a : PlaceM} {s : List UInt8} (h : ¬ labelOK s = true) : openM a s = none := by
  unfold openM
  rw [if_neg]
  rintro ⟨_, _, h2, _⟩
  exact h h2
theorem sub_ext {x y : List UInt8} {i j k : Nat} (h1 : subL x i j = subL y i j) (h2 : subL x j k = subL y j k) (hij : i ≤ j) (hjk : j ≤ k) : subL x i k = subL y i k := by
  unfold subL at *
  have e : ∀ z : List UInt8, (z.drop i).take (k - i) = (z.drop i).take (j - i) ++ (z.drop j).take (k - j) := fun z => by
    rw [show k - i = (j - i) + (k - j) by omega, List.take_add, List.drop_drop, show i + (j - i) = j by omega]
  rw [e x, e y, h1, h2]
theorem sub_all {x y : List UInt8} (hx : x.length = 64) (hy : y.length = 64) (h : subL x 0 64 = subL y 0 64) : x = y := by
  unfold subL at h
  simp only [List.drop_zero, Nat.sub_zero] at h
  rwa [List.take_of_length_le (by omega), List.take_of_length_le (by omega)] at h
theorem torn_length {x y : List UInt8} {k : Int} (hx : x.length = 64) (hy : y.length = 64) : (DiskM.torn x y k).length = 64 := by
  have := clamp_le k
  unfold DiskM.torn
  simp only [List.length_append, List.length_take, List.length_drop]
  omega
theorem torn_lo {x y : List UInt8} {k : Int} (hx : x.length = 64) {i j : Nat} (hj : j ≤ DiskM.clamp k) : subL (DiskM.torn x y k) i j = subL x i j := by
  have := clamp_le k
  unfold DiskM.torn subL
  by_cases hij : i ≤ j
  · rw [List.drop_append_of_le_length (by rw [List.length_take]; omega), List.take_append_of_le_length (by rw [List.length_drop, List.length_take]; omega), List.drop_take, List.take_take]
    congr 1
    omega
  · rw [show j - i = 0 by omega]; simp
theorem torn_hi {x y : List UInt8} {k : Int} (hx : x.length = 64) {i j : Nat} (hi : DiskM.clamp k ≤ i) : subL (DiskM.torn x y k) i j = subL y i j := by
  have := clamp_le k
  unfold DiskM.torn subL
  rw [List.drop_append, List.drop_eq_nil_of_le (by rw [List.length_take]; omega), List.nil_append, List.drop_drop, List.length_take, show DiskM.clamp k + (i - min (DiskM.clamp k) x.length) = i by omega]
theorem sub_end {s : List UInt8} (h : s.length = 64) : subL s 56 64 = s.drop 56 := by
  unfold subL
  rw [List.take_of_length_le (by rw [List.length_drop]; omega)]
theorem torn_empty {a : PlaceM} {s : List UInt8} {k : Int} (hs : (openM a s).isSome = true) : openM a (DiskM.torn s zsec k) = none ∨ DiskM.torn s zsec k = s := by
  obtain ⟨hl, hlab⟩ := open_label hs
  obtain ⟨_, _, hsg⟩ := labelOK_parts hlab
  have htl := torn_length (k := k) hl zsec_length
  by_cases hT : labelOK (DiskM.torn s zsec k) = true
  · right
    obtain ⟨_, hg, ht⟩ := labelOK_parts hT
    rw [← sub_end htl] at ht
    rw [← sub_end hl] at hsg
    by_cases hk : DiskM.clamp k ≤ 56
    · exfalso
      rw [torn_hi (i := 56) hl hk] at ht
      have hz : subL zsec 56 64 = List.replicate 8 0 := by decide
      rw [hz] at ht
      have h4 : ∀ i j : Nat, 8 ≤ i → j = i + 4 → j ≤ 16 → subL (DiskM.torn s zsec k) i j = List.replicate 4 0 := fun i j h1 h2 h3 => by
        have e : subL (DiskM.torn s zsec k) i j = subL (subL (DiskM.torn s zsec k) 8 16) (i - 8) (j - 8) := by
          unfold subL
          rw [List.drop_take, List.take_take, List.drop_drop, show 8 + (i - 8) = i by omega]
          congr 1
          omega
        rw [e, ht]
        unfold subL
        rw [List.drop_replicate, List.take_replicate]
        congr 1
        omega
      have hz0 : genAt (DiskM.torn s zsec k) 8 = g0 := by
        unfold genAt
        rw [h4 8 (8 + 4) (by omega) rfl (by omega), h4 (8 + 4) (8 + 8) (by omega) rfl (by omega)]
        rfl
      rw [hz0] at hg
      exact absurd hg (by decide)
    · have hk' : 56 ≤ DiskM.clamp k := by omega
      refine sub_all htl hl (sub_ext (torn_lo hl hk') ?_ (by omega) (by omega))
      rw [← ht, torn_lo hl (show 16 ≤ DiskM.clamp k by omega), hsg]
  · left; exact open_none_of hT
theorem restL_weak {f f' : Nat → List UInt8} {N : Nat} {d : Int} (h : ∀ j, readL f' N d j = readL f N d j ∨ readL f' N d j = none) {t : Nat} {x : PartM} : ∀ (k i : Nat), restL f' N d t x i k = restL f N d t x i k ∨ restL f' N d t x i k = none
  | 0, _ => .inl rfl
  | k + 1, i => by
    unfold restL
    rcases h (t + i) with e | e
    · rw [e]
      cases readL f N d (t + i) with
      | none => exact .inl rfl
      | some p =>
        simp only
        split
        · exact .inl rfl
        · rcases restL_weak h k (i + 1) with e2 | e2
          · rw [e2]; exact .inl rfl
          · rw [e2]; exact .inr rfl
    · rw [e]; exact .inr rfl
theorem nextL_weak {f f' : Nat → List UInt8} {N : Nat} {d : Int} (h : ∀ j, readL f' N d j = readL f N d j ∨ readL f' N d j = none) (t : TailM) : nextL f' N d t = nextL f N d t ∨ nextL f' N d t = none := by
  unfold nextL
  rcases h t.next.toNat with e | e
  · rw [e]
    cases readL f N d t.next.toNat with
    | none => exact .inl rfl
    | some x =>
      simp only
      split
      · rcases restL_weak h ((sizeM x.left).toNat - 1) 1 (t := t.next.toNat) (x := x) with e2 | e2
        · rw [e2]; exact .inl rfl
        · rw [e2]; exact .inr rfl
      · exact .inl rfl
  · rw [e]; exact .inr rfl
theorem weak_scan {f f' : Nat → List UInt8} {N : Nat} {d : Int} {rs : List (List UInt8)} (hw : ∀ j, readL f' N d j = readL f N d j ∨ readL f' N d j = none) (hnext : ∀ k, (hk : k < rs.length) → nextL f N d (tailK rs k) = some (rs[k], tailK rs (k + 1))) (hend : nextL f N d (tailK rs rs.length) = none) :
    ∀ (m k : Nat), k + m = rs.length → ChainL f' N d t0 (rs.take k) (tailK rs k) → ∃ n, k ≤ n ∧ n ≤ rs.length ∧ ScanL f' N d t0 (rs.take n) (tailK rs n)
  | 0, k, hk, hc => by
    obtain rfl : k = rs.length := by omega
    refine ⟨_, Nat.le_refl _, Nat.le_refl _, hc, ?_⟩
    rcases nextL_weak hw (tailK rs rs.length) with e | e
    · rw [e, hend]
    · exact e
  | m + 1, k, hk, hc => by
    rcases nextL_weak hw (tailK rs k) with e | e
    · rw [hnext k (by omega)] at e
      have h2 := hc.snoc e
      have e3 : rs.take k ++ [rs[k]] = rs.take (k + 1) := by rw [List.take_add_one, List.getElem?_eq_getElem (by omega)]; rfl
      rw [e3] at h2
      obtain ⟨n, a, b, c⟩ := weak_scan hw hnext hend m (k + 1) (by omega) h2
      exact ⟨n, by omega, b, c⟩
    · exact ⟨k, Nat.le_refl _, by omega, hc, e⟩
structure CrI (size : Int) (S : ShelfM) (rs : List (List UInt8)) (safe : Nat) : Prop where
  fine : FineP (cfgW size) S
  on : S.off = false
  log : LogK (conL S 0) size.toNat 0 rs
  ok : ∀ j : Nat, conL S 0 j = zsec ∨ (openM ⟨0, 1, (j : Int)⟩ (conL S 0 j)).isSome = true
  dur : ∀ j : Nat, durL S 0 j = conL S 0 j ∨ durL S 0 j = zsec
  rest : ∀ j : Nat, (tailK rs rs.length).next ≤ (j : Int) → conL S 0 j = zsec
  len : safe ≤ rs.length
  safe : ∀ j : Nat, (j : Int) < (tailK rs safe).next → durL S 0 j = conL S 0 j
def CrashOut (size : Int) (S : ShelfM) (rs : List (List UInt8)) (safe : Nat) : Prop :=
  ∀ p, (S.mount p).WF → FineS (cfgW size) (S.mount p) ∧ ∃ m, safe ≤ m ∧ m ≤ rs.length ∧ ScanL (conL (S.mount p) 0) size.toNat 0 t0 (rs.take m) (tailK rs m)
theorem crash_out {size : Int} {S : ShelfM} {rs : List (List UInt8)} {safe : Nat} (hf : FineP (cfgW size) S) {f : Nat → List UInt8} (hpre : ∀ k, k ≤ rs.length → ChainL f size.toNat 0 t0 (rs.take k) (tailK rs k)) (hnext : ∀ k, (hk : k < rs.length) → nextL f size.toNat 0 (tailK rs k) = some (rs[k], tailK rs (k + 1))) (hend : nextL f size.toNat 0 (tailK rs rs.length) = none)
    (heq : conL S 0 = f) (ok : ∀ j : Nat, f j = zsec ∨ (openM ⟨0, 1, (j : Int)⟩ (f j)).isSome = true) (dur : ∀ j : Nat, durL S 0 j = f j ∨ durL S 0 j = zsec) (len : safe ≤ rs.length) (hs : ∀ j : Nat, (j : Int) < (tailK rs safe).next → durL S 0 j = f j) : CrashOut size S rs safe := by
  intro p hw
  obtain ⟨h1, h2⟩ := mount_part hf hw
  have h2 := h2 0 (by decide) (by show (0 : Int) < 2; decide)
  have hweak : ∀ j : Nat, conL (S.mount p) 0 j = f j ∨ openM ⟨0, 1, (j : Int)⟩ (conL (S.mount p) 0 j) = none := fun j => by
    obtain ⟨k, hk⟩ := h2 j
    rw [heq] at hk
    rcases dur j with e | e
    · rw [e, torn_same] at hk; exact .inl hk
    · rw [e] at hk
      rcases ok j with e2 | e2
      · rw [e2, torn_same] at hk; exact .inl (by rw [hk, e2])
      · rcases torn_empty (k := k) e2 with e3 | e3
        · exact .inr (by rw [hk]; exact e3)
        · exact .inl (by rw [hk]; exact e3)
  have hsafe : ∀ j : Nat, (j : Int) < (tailK rs safe).next → conL (S.mount p) 0 j = f j := fun j hj => by
    obtain ⟨k, hk⟩ := h2 j
    rw [heq, hs j hj, torn_same] at hk
    exact hk
  have hrd : ∀ j, readL (conL (S.mount p) 0) size.toNat 0 j = readL f size.toNat 0 j ∨ readL (conL (S.mount p) 0) size.toNat 0 j = none := fun j => by
    unfold readL
    split
    · exact .inl rfl
    · rcases hweak j with e | e
      · rw [e]; exact .inl rfl
      · rw [e]; exact .inr rfl
  obtain ⟨m, a, b, c⟩ := weak_scan hrd hnext hend (rs.length - safe) safe (by omega) ((hpre safe len).congr (by decide) fun j hj => (hsafe j hj).symm)
  exact ⟨h1, m, a, b, c⟩
theorem LogK.next' {f : Nat → List UInt8} {N : Nat} {d : Int} {rs : List (List UInt8)} (h : LogK f N d rs) (k : Nat) (hk : k < rs.length) : nextL f N d (tailK rs k) = some (rs[k], tailK rs (k + 1)) := by
  obtain ⟨t1, e, rfl⟩ := h.next hk
  exact e
theorem CrI.out {size : Int} {S : ShelfM} {rs : List (List UInt8)} {safe : Nat} (h : CrI size S rs safe) (h2 : size ≤ 40) (hl : rs.length ≤ 1000) : CrashOut size S rs safe := by
  have hlog := h.log.log (by omega) hl (Nat.le_refl _)
  exact crash_out h.fine h.log.pre h.log.next' hlog.none rfl h.ok h.dur h.len h.safe
theorem CrI.down {size : Int} {S : ShelfM} {rs : List (List UInt8)} {safe : Nat} (h : CrI size S rs safe) (h2 : size ≤ 40) (hl : rs.length ≤ 1000) : CrashOut size { S with off := true, fused := false } rs safe := by
  have hlog := h.log.log (by omega) hl (Nat.le_refl _)
  exact crash_out (S := { S with off := true, fused := false }) h.fine.down h.log.pre h.log.next' hlog.none rfl h.ok h.dur h.len h.safe
theorem CrI.flush {size : Int} {S : ShelfM} {rs : List (List UInt8)} {safe : Nat} (h : CrI size S rs safe) (h2 : size ≤ 40) (hl : rs.length ≤ 1000) :
    ∃ S', (S.flush 0 = (S', 0) ∧ CrI size S' rs rs.length) ∨ (S.flush 0 = (S', 14) ∧ CrashOut size S' rs safe) := by
  rcases h.fine.flush h.on (d := 0) (by decide) (by show (0 : Int) < 2; decide) with ⟨S', e1, e2, e3, e4, e5⟩ | e
  · exact ⟨S', .inl ⟨e1, e3, e2, by rw [e4]; exact h.log, by rw [e4]; exact h.ok, fun j => .inl (by rw [e4, e5]), by rw [e4]; exact h.rest, Nat.le_refl _, fun j _ => by rw [e4, e5]⟩⟩
  · exact ⟨_, .inr ⟨e, h.down h2 hl⟩⟩
end Go.Proofs.YtmcclbiaoeilkaaGreat
