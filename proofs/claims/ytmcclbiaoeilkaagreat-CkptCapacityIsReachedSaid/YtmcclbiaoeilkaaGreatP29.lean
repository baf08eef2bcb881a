import Derived.Test.YtmcclbiaoeilkaaGreatP24
import Derived.Test.YtmcclbiaoeilkaaGreatP28
import Derived.Test.YtmcclbiaoeilkaaGreatP11
/- Part 29 of a proof; the last part says what is proved. -/
section
namespace Go.Proofs.YtmcclbiaoeilkaaGreat
open Go.RowKit Go.Sl Go.ChangeMaps
def areaJ (c : CfgM) (area : Int) (i : Nat) : Nat := if area = 2 then c.log.toNat + i else c.log.toNat + c.image.toNat + i
theorem area_number {S : ShelfM} (hw : S.WF) {d area : Int} {i : Nat} (hd : S.state d ≠ 0) (ha : area = 2 ∨ area = 3) (hi : (i : Int) < S.cfg.image) : S.number ⟨d, area, (i : Int)⟩ = (areaJ S.cfg area i : Int) := by
  have h1 := hw.cfg.log; have h2 := hw.cfg.image
  unfold ShelfM.number areaJ
  rcases ha with rfl | rfl
  · have hs : S.cfg.size 2 = S.cfg.image := by simp [CfgM.size]
    have hb : S.cfg.base 2 = S.cfg.log := by simp [CfgM.base]
    simp only
    rw [hs, hb, if_neg (by omega)]
    rw [if_pos trivial]; omega
  · have hs : S.cfg.size 3 = S.cfg.image := by simp [CfgM.size]
    have hb : S.cfg.base 3 = S.cfg.log + S.cfg.image := by simp [CfgM.base]
    simp only
    rw [hs, hb, if_neg (by omega)]
    rw [if_neg (by decide)]; omega
theorem area_has {S : ShelfM} (hw : S.WF) {d area : Int} {i : Nat} (hd : S.state d = 1) (hi : (i : Int) < S.cfg.image) : areaJ S.cfg area i < (S.disk d).n := by
  have h1 := ShelfM.disk_n hw hd
  have h2 := hw.cfg.image; have h3 := hw.cfg.rows; have h4 := hw.cfg.log
  unfold CfgM.sectors at h1
  unfold areaJ
  split <;> omega
theorem area_read {c : CfgM} {S : ShelfM} (h : FineS c S) {d area : Int} {i : Nat} (h0 : 0 ≤ d) (h1 : d < c.disks) (ha : area = 2 ∨ area = 3) (hi : (i : Int) < c.image) : S.read ⟨d, area, (i : Int)⟩ = (conL S d (areaJ c area i), 0) := by
  have hst := h.st d h0 h1
  have hi' : (i : Int) < S.cfg.image := by rw [h.cfg]; exact hi
  have hlt := area_has (area := area) h.wf hst hi'
  unfold ShelfM.read ShelfM.access
  rw [area_number h.wf (by omega) ha hi']
  simp only
  rw [if_neg (by omega), h.off, hst]
  simp only [Bool.false_eq_true, if_false, if_true, ne_eq, not_true_eq_false]
  unfold DiskM.read
  rw [if_pos (DiskM.has_of (by omega) (by omega)), h.cfg]
  rfl
theorem area_write {c : CfgM} {S : ShelfM} (h : FineS c S) {d area : Int} (h0 : 0 ≤ d) (h1 : d < c.disks) (ha : area = 2 ∨ area = 3) {i : Nat} (hi : (i : Int) < c.image) {s : List UInt8} (hs : s.length = 64) :
    (S.write ⟨d, area, (i : Int)⟩ s).2 = 0 ∧ FineS c (S.write ⟨d, area, (i : Int)⟩ s).1 ∧ ∀ e : Int, ∀ j : Nat, conL (S.write ⟨d, area, (i : Int)⟩ s).1 e j = if e = d ∧ j = areaJ c area i then s else conL S e j := by
  have hst := h.st d h0 h1
  have hi' : (i : Int) < S.cfg.image := by rw [h.cfg]; exact hi
  have hlt := area_has (area := area) h.wf hst hi'
  have hnum := area_number h.wf (d := d) (by omega) ha hi'
  rw [h.cfg] at hlt hnum
  generalize areaJ c area i = k at *
  have hwr := DiskM.write_ok hlt hs (h.armed d h0 h1 k)
  have hb : d < (S.bays.length : Int) := by rw [h.bays]; exact h1
  have he : S.write ⟨d, area, (i : Int)⟩ s = (S.setDisk d { S.disk d with cache := fupd (S.disk d).cache k (some s) }, 0) := by
    unfold ShelfM.write
    rw [hnum, if_neg (by omega), ShelfM.step_run h.off hst h.fused, hwr]
  rw [he]
  refine ⟨rfl, ⟨?_, h.cfg, h.off, h.fused, fun e e0 e1 => ?_, fun e e0 e1 k => ?_⟩, fun e j => ?_⟩
  · exact h.wf.setDisk (by omega) rfl
  · simp only
    rw [ShelfM.setDisk_state h0 hb]; exact h.st e e0 e1
  · simp only
    rw [ShelfM.setDisk_disk h0 hb]
    split
    · exact h.armed d h0 h1 k
    · exact h.armed e e0 e1 k
  · unfold conL
    simp only
    rw [ShelfM.setDisk_disk h0 hb]
    by_cases hed : e = d
    · subst hed
      rw [if_pos rfl]
      by_cases hj : j = k
      · subst hj; rw [if_pos ⟨rfl, rfl⟩]; simp [DiskM.content, fupd]
      · rw [if_neg (by simp [hj])]; simp [DiskM.content, fupd, hj]
    · rw [if_neg hed, if_neg (by simp [hed])]
theorem flush_fine {c : CfgM} {S : ShelfM} (h : FineS c S) {d : Int} (h0 : 0 ≤ d) (h1 : d < c.disks) : (S.flush d).2 = 0 ∧ FineS c (S.flush d).1 ∧ conL (S.flush d).1 = conL S := by
  have hst := h.st d h0 h1
  have hb : d < (S.bays.length : Int) := by rw [h.bays]; exact h1
  have he : S.flush d = (S.setDisk d (S.disk d).flush, 0) := by
    unfold ShelfM.flush
    rw [if_neg (by omega), ShelfM.step_run h.off hst h.fused]
  rw [he]
  refine ⟨rfl, ⟨h.wf.setDisk (by omega) rfl, h.cfg, h.off, h.fused, fun e e0 e1 => ?_, fun e e0 e1 k => ?_⟩, ?_⟩
  · simp only
    rw [ShelfM.setDisk_state h0 hb]; exact h.st e e0 e1
  · simp only
    rw [ShelfM.setDisk_disk h0 hb]
    split
    · exact h.armed d h0 h1 k
    · exact h.armed e e0 e1 k
  · funext e j
    unfold conL
    simp only
    rw [ShelfM.setDisk_disk h0 hb]
    split
    · rename_i hed; subst hed; rfl
    · rfl
theorem areaJ_succ (c : CfgM) (area : Int) (i : Nat) : areaJ c area i = areaJ c area 0 + i := by unfold areaJ; split <;> omega
theorem wrFrom_fine {c : CfgM} {k : CkM} {d area : Int} (h0 : 0 ≤ d) (h1 : d < c.disks) (ha : area = 2 ∨ area = 3) : ∀ (m i : Nat) (S : ShelfM), FineS c S → (i : Int) + (m : Int) ≤ c.image →
    (wrFrom d area k S i m).2 = 0 ∧ FineS c (wrFrom d area k S i m).1 ∧ ∀ e : Int, ∀ j : Nat, conL (wrFrom d area k S i m).1 e j = if e = d ∧ areaJ c area i ≤ j ∧ j < areaJ c area i + m then sealL ⟨d, area, ((j - areaJ c area 0 : Nat) : Int)⟩ k.gen (payM k (j - areaJ c area 0)) else conL S e j
  | 0, i, S, h, _ => by
    obtain ⟨e1, e2, e3⟩ := flush_fine h h0 h1
    refine ⟨e1, e2, fun e j => ?_⟩
    rw [if_neg (by omega)]
    exact congrFun (congrFun e3 e) j
  | m + 1, i, S, h, hi => by
    obtain ⟨e1, e2, e3⟩ := area_write h h0 h1 ha (i := i) (by omega) (sealL_length (a := ⟨d, area, (i : Int)⟩) (g := k.gen) (payM_len k i))
    have ew : wrFrom d area k S i (m + 1) = wrFrom d area k (S.write ⟨d, area, (i : Int)⟩ (sealL ⟨d, area, (i : Int)⟩ k.gen (payM k i))).1 (i + 1) m := by
      show (if _ then _ else _) = _
      rw [if_neg (by rw [e1]; simp)]
    rw [ew]
    obtain ⟨f1, f2, f3⟩ := wrFrom_fine (k := k) h0 h1 ha m (i + 1) _ e2 (by omega)
    refine ⟨f1, f2, fun e j => ?_⟩
    rw [f3, e3]
    have hs1 := areaJ_succ c area i; have hs2 := areaJ_succ c area (i + 1)
    by_cases hed : e = d
    · by_cases hj : j = areaJ c area i
      · have hz : j - areaJ c area 0 = i := by omega
        rw [if_neg (by omega), if_pos ⟨hed, hj⟩, if_pos (by omega), hz]
      · by_cases hc : areaJ c area (i + 1) ≤ j ∧ j < areaJ c area (i + 1) + m
        · rw [if_pos ⟨hed, hc⟩, if_pos (by omega)]
        · rw [if_neg (by omega), if_neg (by omega), if_neg (by omega)]
    · rw [if_neg (by omega), if_neg (by omega), if_neg (by omega)]
def HasCk (c : CfgM) (S : ShelfM) (d area : Int) (k : CkM) : Prop := ∀ i : Nat, i < partsN k + 1 → conL S d (areaJ c area i) = sealL ⟨d, area, (i : Int)⟩ k.gen (payM k i)
structure CkFits (c : CfgM) (k : CkM) : Prop where
  seq : 0 ≤ k.seq ∧ k.seq < 9223372036854775808
  gen : genOK k.gen = true
  len : (k.image.length : Int) ≤ capM c
theorem CkFits.parts {c : CfgM} (hc : c.WF) {k : CkM} (h : CkFits c k) : (partsN k : Int) + 1 ≤ c.image ∧ partsN k ≤ 65535 ∧ k.image.length ≤ 2621440 := by
  have h1 := hc.image
  have h2 := parts_cap h1.2 h1.1 h.len
  refine ⟨?_, h2⟩
  have h3 := h.len
  unfold capM at h3
  unfold partsN at *
  omega
theorem has_open {c : CfgM} {S : ShelfM} (h : FineS c S) {d area : Int} (h0 : 0 ≤ d) (h1 : d < c.disks) (ha : area = 2 ∨ area = 3) {k : CkM} (hk : CkFits c k) (hh : HasCk c S d area k) {i : Nat} (hi : i < partsN k + 1) :
    openAt S d area (i : Int) = some (k.gen, payM k i ++ zerosL (40 - (payM k i).length)) := by
  have hwf : c.WF := by have := h.wf.cfg; rw [h.cfg] at this; exact this
  obtain ⟨p1, p2, p3⟩ := hk.parts hwf
  have hd := hwf.disks
  unfold openAt
  rw [area_read h h0 h1 ha (by omega)]
  simp only
  rw [hh i hi]
  exact open_seal (seal_all ⟨h0, by omega⟩ ha hk.gen p2 i hi)
theorem has_img {c : CfgM} {S : ShelfM} (h : FineS c S) {d area : Int} (h0 : 0 ≤ d) (h1 : d < c.disks) (ha : area = 2 ∨ area = 3) {k : CkM} (hk : CkFits c k) (hh : HasCk c S d area k) : ∀ m : Nat, m ≤ partsN k →
    ∃ z : List UInt8, imgK S d area k.gen m = some (k.image.take (40 * m) ++ z) ∧ (40 * m ≤ k.image.length → z = [])
  | 0, _ => ⟨[], by simp [imgK], fun _ => rfl⟩
  | m + 1, hm => by
    obtain ⟨z, e1, e2⟩ := has_img h h0 h1 ha hk hh m (by omega)
    have e3 := has_open h h0 h1 ha hk hh (i := m + 1) (by omega)
    have hmm : 40 * m ≤ k.image.length := by unfold partsN at hm; omega
    have hz := e2 hmm
    subst hz
    have hp : payM k (m + 1) = (k.image.drop (40 * m)).take 40 := by unfold payM; rw [if_neg (by omega)]; rfl
    refine ⟨zerosL (40 - (payM k (m + 1)).length), ?_, fun h3 => ?_⟩
    · unfold imgK
      rw [e1]
      simp only
      rw [show ((m : Int) + 1) = ((m + 1 : Nat) : Int) by omega, e3]
      simp only
      rw [if_pos trivial, List.append_nil, ← List.append_assoc]
      congr 2
      rw [hp, show 40 * (m + 1) = 40 * m + 40 by omega, List.take_add]
    · rw [hp, List.length_take, List.length_drop]
      have : min 40 (k.image.length - 40 * m) = 40 := by omega
      rw [this]; rfl
theorem has_read {c : CfgM} {S : ShelfM} (h : FineS c S) {d area : Int} (h0 : 0 ≤ d) (h1 : d < c.disks) (ha : area = 2 ∨ area = 3) {k : CkM} (hk : CkFits c k) (hh : HasCk c S d area k) : ckRead S d area = (k, 0) := by
  have hst := h.st d h0 h1
  have e0 : openAt S d area 0 = some (k.gen, payM k 0 ++ zerosL (40 - (payM k 0).length)) := has_open h h0 h1 ha hk hh (i := 0) (by omega)
  have hacc : S.access d = 0 := by unfold ShelfM.access; rw [if_neg (by simp [h.off]), if_pos hst]
  unfold ckRead
  rw [if_neg (by omega), if_neg (by rw [hacc]; simp), e0]
  simp only
  have hseq := hk.seq
  have hwf : c.WF := by have := h.wf.cfg; rw [h.cfg] at this; exact this
  obtain ⟨p1, p2, p3⟩ := hk.parts hwf
  have hhead : headM (payM k 0 ++ zerosL (40 - (payM k 0).length)) (capM S.cfg) = some (k.seq, k.image.length) := by
    generalize zerosL (40 - (payM k 0).length) = z
    unfold headM payM
    rw [if_pos rfl, List.append_assoc, getI_wire k.seq.toNat (by omega)]
    simp only
    rw [List.drop_left, getI_wire k.image.length (by omega)]
    simp only
    rw [if_pos ⟨by omega, by omega, by rw [h.cfg]; exact hk.len⟩, Int.toNat_of_nonneg hseq.1, Int.toNat_natCast]
  rw [hhead]
  simp only
  obtain ⟨z, e1, _⟩ := has_img h h0 h1 ha hk hh (partsN k) (Nat.le_refl _)
  rw [show (k.image.length + 39) / 40 = partsN k from rfl, e1]
  simp only
  have hlen : k.image.length ≤ 40 * partsN k := by unfold partsN; omega
  rw [List.take_of_length_le (l := k.image) hlen, List.take_left]
theorem empty_read {c : CfgM} {S : ShelfM} (h : FineS c S) {d area : Int} (h0 : 0 ≤ d) (h1 : d < c.disks) (ha : area = 2 ∨ area = 3) (hz : conL S d (areaJ c area 0) = zsec) : ckRead S d area = (ck0, 12) := by
  have hst := h.st d h0 h1
  have hacc : S.access d = 0 := by unfold ShelfM.access; rw [if_neg (by simp [h.off]), if_pos hst]
  have hwf : c.WF := by have := h.wf.cfg; rw [h.cfg] at this; exact this
  have hi := hwf.image
  have e0 : openAt S d area 0 = none := by
    unfold openAt
    have := area_read h h0 h1 ha (i := 0) (by omega)
    rw [show ((0 : Nat) : Int) = 0 from rfl] at this
    rw [this, hz]
    exact zsec_open _
  unfold ckRead
  rw [if_neg (by omega), if_neg (by rw [hacc]; simp), e0]
theorem empty_newest {c : CfgM} {S : ShelfM} (h : FineS c S) {d : Int} (h0 : 0 ≤ d) (h1 : d < c.disks) (hz2 : conL S d (areaJ c 2 0) = zsec) (hz3 : conL S d (areaJ c 3 0) = zsec) : newestM S d = (0, ck0, 12) := by
  unfold newestM
  rw [empty_read h h0 h1 (.inl rfl) hz2, empty_read h h0 h1 (.inr rfl) hz3]
  rfl
theorem first_newest {c : CfgM} {S : ShelfM} (h : FineS c S) {d : Int} (h0 : 0 ≤ d) (h1 : d < c.disks) {k : CkM} (hk : CkFits c k) (hh : HasCk c S d 2 k) (hz3 : conL S d (areaJ c 3 0) = zsec) : newestM S d = (2, k, 0) := by
  unfold newestM
  rw [has_read h h0 h1 (.inl rfl) hk hh, empty_read h h0 h1 (.inr rfl) hz3]
  rfl
def Clear (c : CfgM) (S : ShelfM) : Prop := ∀ d : Int, 0 ≤ d → d < c.disks → conL S d = fun _ => zsec
theorem clear_load {c : CfgM} {S : ShelfM} (h : FineS c S) (hz : Clear c S) : loadM S = (ck0, 12) := by
  have hk : ∀ n : Nat, (n : Int) ≤ c.disks → loadK S n = (ck0, 12) := by
    intro n
    induction n with
    | zero => intro _; rfl
    | succ n ih =>
      intro hn
      unfold loadK
      have hzn := hz (n : Int) (by omega) (by omega)
      rw [empty_newest h (by omega) (by omega) (by rw [hzn]) (by rw [hzn]), ih (by omega)]
      rfl
  unfold loadM
  rw [if_neg (by rw [h.off]; decide), h.cfg]
  refine hk _ ?_
  have hwf := h.wf.cfg.disks
  rw [h.cfg] at hwf
  omega
structure SvI (c : CfgM) (k : CkM) (S : ShelfM) (n : Nat) : Prop where
  fine : FineS c S
  has : ∀ d : Int, 0 ≤ d → d < (n : Int) → HasCk c S d 2 k ∧ conL S d (areaJ c 3 0) = zsec
  rest : ∀ d : Int, (n : Int) ≤ d → d < c.disks → conL S d = fun _ => zsec
theorem sv_from {c : CfgM} {k : CkM} (hk : CkFits c k) : ∀ (m n : Nat) (S : ShelfM) (l : List (Nat × Int)), SvI c k S n → (n : Int) + (m : Int) = c.disks →
    ∃ S', svFrom k S l n m = (S', l ++ (List.range' n m).map (fun j => (j, 2)), 0) ∧ SvI c k S' (n + m)
  | 0, n, S, l, h, _ => ⟨S, by simp [svFrom], h⟩
  | m + 1, n, S, l, h, hn => by
    have hwf : c.WF := by have := h.fine.wf.cfg; rw [h.fine.cfg] at this; exact this
    obtain ⟨p1, p2, p3⟩ := hk.parts hwf
    have hi := hwf.image; have hlg := hwf.log
    have h0 : 0 ≤ (n : Int) := by omega
    have h1 : (n : Int) < c.disks := by omega
    have hz := h.rest (n : Int) (by omega) h1
    have hnew := empty_newest h.fine h0 h1 (by rw [hz]) (by rw [hz])
    have hnx : nextM S (n : Int) = 2 := by unfold nextM; rw [hnew]; rfl
    obtain ⟨f1, f2, f3⟩ := wrFrom_fine (c := c) (k := k) h0 h1 (.inl rfl) (partsN k + 1) 0 S h.fine (by omega)
    have hJ2 : ∀ i, areaJ c 2 i = c.log.toNat + i := fun i => rfl
    have hJ3 : areaJ c 3 0 = c.log.toNat + c.image.toNat := rfl
    have hI : SvI c k (writeM S (n : Int) 2 k).1 (n + 1) := by
      refine ⟨f2, fun d d0 d1 => ?_, fun d d0 d1 => ?_⟩
      · by_cases hd : d = (n : Int)
        · subst hd
          refine ⟨fun i hi2 => ?_, ?_⟩
          · show conL (wrFrom _ _ _ _ _ _).1 _ _ = _
            rw [f3, hJ2 i, hJ2 0, if_pos ⟨rfl, by omega, by omega⟩, show c.log.toNat + i - (c.log.toNat + 0) = i by omega]
          · show conL (wrFrom _ _ _ _ _ _).1 _ _ = _
            rw [f3, hJ3, hJ2 0, if_neg (by omega), hz]
        · obtain ⟨g1, g2⟩ := h.has d d0 (by omega)
          refine ⟨fun i hi2 => ?_, ?_⟩
          · show conL (wrFrom _ _ _ _ _ _).1 _ _ = _
            rw [f3, if_neg (by omega)]; exact g1 i hi2
          · show conL (wrFrom _ _ _ _ _ _).1 _ _ = _
            rw [f3, if_neg (by omega)]; exact g2
      · funext j
        show conL (wrFrom _ _ _ _ _ _).1 _ _ = _
        rw [f3, if_neg (by omega), h.rest d (by omega) d1]
    obtain ⟨S', e1, e2⟩ := sv_from hk m (n + 1) (writeM S (n : Int) 2 k).1 (l ++ [(n, 2)]) hI (by omega)
    refine ⟨S', ?_, by rw [show n + (m + 1) = n + 1 + m by omega]; exact e2⟩
    unfold svFrom
    rw [if_neg (by rw [h.fine.st _ h0 h1]; simp), hnx, if_neg (by rw [show (writeM S (n : Int) 2 k).2 = 0 from f1]; simp), e1]
    simp [List.range'_succ]
theorem clear_save {c : CfgM} {S : ShelfM} (h : FineS c S) (hz : Clear c S) {k : CkM} (hk : CkFits c k) : ∃ S', saveM S k = (S', c.disks, 0) ∧ FineS c S' ∧ loadM S' = (k, 0) := by
  have hwf : c.WF := by have := h.wf.cfg; rw [h.cfg] at this; exact this
  have hd := hwf.disks
  obtain ⟨S', e1, e2⟩ := sv_from hk c.disks.toNat 0 S [] ⟨h, fun d d0 d1 => absurd d1 (by omega), fun d d0 d1 => hz d d0 d1⟩ (by omega)
  rw [Nat.zero_add] at e2
  refine ⟨S', ?_, e2.fine, ?_⟩
  · have hbad : ¬ saveBad k := by
      unfold saveBad
      have := hk.seq
      rw [hk.gen]
      simp
      omega
    have hcnt : countM S' k ((List.range' 0 c.disks.toNat).map fun j => (j, 2)) = c.disks.toNat := by
      unfold countM
      rw [List.filter_eq_self.2]
      · simp
      · intro x hx
        obtain ⟨j, hj, rfl⟩ := List.mem_map.1 hx
        have hj2 := List.mem_range'.1 hj
        obtain ⟨i, hi1, hi2⟩ := hj2
        have hj3 : j < c.disks.toNat := by omega
        simp only [decide_eq_true_eq]
        exact has_read e2.fine (by omega) (by omega) (.inl rfl) hk (e2.has _ (by omega) (by omega)).1
    unfold saveM
    rw [if_neg hbad, if_neg (by rw [h.cfg]; have := hk.len; omega), if_neg (by rw [h.off]; decide), h.cfg, e1]
    simp only [List.nil_append]
    rw [if_neg (by simp), if_neg, hcnt, Int.toNat_of_nonneg (by omega)]
    intro h9
    have := congrArg List.length h9
    simp at this
    omega
  · have hkk : ∀ n : Nat, (n : Int) + 1 ≤ c.disks → loadK S' (n + 1) = (k, 0) := by
      intro n
      induction n with
      | zero =>
        intro hn
        obtain ⟨g1, g2⟩ := e2.has 0 (by omega) (by omega)
        unfold loadK
        rw [show ((0 : Nat) : Int) = 0 from rfl, first_newest e2.fine (by omega) (by omega) hk g1 g2]
        rfl
      | succ n ih =>
        intro hn
        obtain ⟨g1, g2⟩ := e2.has ((n + 1 : Nat) : Int) (by omega) (by omega)
        unfold loadK
        rw [first_newest e2.fine (by omega) (by omega) hk g1 g2, ih (by omega)]
        split <;> rfl
    unfold loadM
    rw [if_neg (by rw [e2.fine.off]; decide), e2.fine.cfg]
    obtain ⟨n, hn⟩ : ∃ n, c.disks.toNat = n + 1 := ⟨c.disks.toNat - 1, by omega⟩
    rw [hn]
    exact hkk n (by omega)
theorem long_save {S : ShelfM} {k : CkM} (h0 : 0 ≤ k.seq) (hg : genOK k.gen = true) (hl : capM S.cfg < (k.image.length : Int)) : saveM S k = (S, 0, 2) := by
  unfold saveM
  rw [if_neg (by unfold saveBad; rw [hg]; simp; omega), if_pos hl]
theorem mount_clear {c : CfgM} {S : ShelfM} (h : FineS c S) (hz : Clear c S) (hd : ∀ d : Int, 0 ≤ d → d < c.disks → durL S d = fun _ => zsec) {p : List Int} (hw : (S.mount p).WF) : FineS c (S.mount p) ∧ Clear c (S.mount p) := by
  obtain ⟨h1, h2⟩ := mount_part h.part hw
  refine ⟨h1, fun d d0 d1 => funext fun j => ?_⟩
  obtain ⟨q, hq⟩ := h2 d d0 d1 j
  rw [hq, hz d d0 d1, hd d d0 d1, torn_same]
theorem new_dur {c : CfgM} (d : Int) (h0 : 0 ≤ d) (h1 : d < c.disks) : durL (ShelfM.new c) d = fun _ => zsec := by
  funext j
  unfold durL
  rw [ShelfM.bay_disk (ShelfM.new_bay c h0 h1)]; rfl
end Go.Proofs.YtmcclbiaoeilkaaGreat
end
section
namespace Go.Proofs.YtmcclbiaoeilkaaGreat
open Go.RowKit Go.Sl Go.ChangeMaps
theorem one_bit (r : UInt32) : r &&& 1 = 0 ∨ r &&& 1 = 1 := by
  have h : (r &&& 1).toNat = r.toNat % 2 := by rw [UInt32.toNat_and]; exact Nat.and_one_is_mod _
  rcases Nat.mod_two_eq_zero_or_one r.toNat with h2 | h2
  · left; apply UInt32.toNat_inj.1; rw [h, h2]; rfl
  · right; apply UInt32.toNat_inj.1; rw [h, h2]; rfl
theorem crcS_one {r : UInt32} (h : r &&& 1 = 1) : crcS r = (r >>> 1) ^^^ 2197175160 := by
  unfold crcS; rw [h]; rfl
theorem crcS_zero {r : UInt32} (h : r &&& 1 = 0) : crcS r = r >>> 1 := by
  unfold crcS; rw [h]
  have : (2197175160 : UInt32) &&& (0 - 0) = 0 := rfl
  rw [this, UInt32.xor_zero]
theorem crcS_high {h y : UInt32} (hh : h &&& 1 = 0) : crcS (h ^^^ y) = (h >>> 1) ^^^ crcS y := by
  have e : (h ^^^ y) &&& 1 = y &&& 1 := by
    have hh2 := congrArg UInt32.toNat hh
    rw [UInt32.toNat_and] at hh2
    have hh3 : h.toNat % 2 = 0 := by rw [← Nat.and_one_is_mod]; exact hh2
    apply UInt32.toNat_inj.1
    rw [UInt32.toNat_and, UInt32.toNat_and, UInt32.toNat_xor]
    show (h.toNat ^^^ y.toNat) &&& 1 = y.toNat &&& 1
    have h4 : (h.toNat ^^^ y.toNat) % 2 ^ 1 = (h.toNat % 2 ^ 1) ^^^ (y.toNat % 2 ^ 1) := Nat.xor_mod_two_pow
    rw [Nat.and_one_is_mod, Nat.and_one_is_mod]
    rw [show (2 : Nat) ^ 1 = 2 from rfl, hh3, Nat.zero_xor] at h4
    exact h4
  unfold crcS
  rw [e, UInt32.shiftRight_xor, UInt32.xor_assoc]
theorem crcI_high {H y : UInt32} (hH : ∃ m, H.toNat = m * 256) : ∀ k, k ≤ 8 → crcI k (H ^^^ y) = (UInt32.ofNat (H.toNat / 2 ^ k)) ^^^ crcI k y
  | 0, _ => by simp [crcI]
  | k + 1, hk => by
    obtain ⟨m, hm⟩ := hH
    unfold crcI
    rw [crcI_high ⟨m, hm⟩ k (by omega), crcS_high]
    · congr 1
      apply UInt32.toNat_inj.1
      have hlt := H.toNat_lt
      have h1 : H.toNat / 2 ^ k < 4294967296 := Nat.lt_of_le_of_lt (Nat.div_le_self _ _) hlt
      rw [UInt32.toNat_shiftRight, UInt32.toNat_ofNat_of_lt' h1]
      have h2 : H.toNat / 2 ^ (k + 1) < 4294967296 := Nat.lt_of_le_of_lt (Nat.div_le_self _ _) hlt
      rw [UInt32.toNat_ofNat_of_lt' h2]
      show (H.toNat / 2 ^ k) >>> 1 = _
      rw [Nat.shiftRight_eq_div_pow, Nat.div_div_eq_div_mul, ← Nat.pow_add]
    · apply UInt32.toNat_inj.1
      have hlt := H.toNat_lt
      have h1 : H.toNat / 2 ^ k < 4294967296 := Nat.lt_of_le_of_lt (Nat.div_le_self _ _) hlt
      rw [UInt32.toNat_and, UInt32.toNat_ofNat_of_lt' h1]
      show (H.toNat / 2 ^ k) &&& 1 = 0
      rw [Nat.and_one_is_mod, hm]
      have : k = 0 ∨ k = 1 ∨ k = 2 ∨ k = 3 ∨ k = 4 ∨ k = 5 ∨ k = 6 ∨ k = 7 := by omega
      rcases this with h | h | h | h | h | h | h | h <;> subst h <;> omega
theorem nat_split (n : Nat) : (n / 256 * 256) ^^^ (n % 256) = n := by
  apply Nat.eq_of_testBit_eq
  intro i
  rw [Nat.testBit_xor, show n / 256 * 256 = (n >>> 8) <<< 8 by rw [Nat.shiftRight_eq_div_pow, Nat.shiftLeft_eq], show (256 : Nat) = 2 ^ 8 from rfl, Nat.testBit_mod_two_pow, Nat.testBit_shiftLeft, Nat.testBit_shiftRight]
  by_cases h : i < 8
  · have h2 : ¬ 8 ≤ i := by omega
    simp [h, h2]
  · have h2 : 8 ≤ i := by omega
    simp [h, h2]
theorem crc_bits (r : UInt32) (x : UInt8) : crcI 8 (r ^^^ UInt32.ofNat x.toNat) = crcB r x := by
  have hr := r.toNat_lt
  have hx := x.toNat_lt
  have hl : (UInt8.ofNat r.toNat ^^^ x).toNat = (r.toNat % 256) ^^^ x.toNat := by rw [UInt8.toNat_xor, UInt8.toNat_ofNat']
  have hl2 := (UInt8.ofNat r.toNat ^^^ x).toNat_lt
  have e : r ^^^ UInt32.ofNat x.toNat = UInt32.ofNat (r.toNat / 256 * 256) ^^^ UInt32.ofNat (UInt8.ofNat r.toNat ^^^ x).toNat := by
    apply UInt32.toNat_inj.1
    rw [UInt32.toNat_xor, UInt32.toNat_xor, UInt32.toNat_ofNat_of_lt' (by show _ < 4294967296; omega), UInt32.toNat_ofNat_of_lt' (by show _ < 4294967296; omega), UInt32.toNat_ofNat_of_lt' (by show _ < 4294967296; omega), hl, ← Nat.xor_assoc, nat_split]
  have h1 : (UInt32.ofNat (r.toNat / 256 * 256)).toNat = r.toNat / 256 * 256 := UInt32.toNat_ofNat_of_lt' (by show _ < 4294967296; omega)
  rw [e, crcI_high ⟨r.toNat / 256, h1⟩ 8 (Nat.le_refl _), h1]
  unfold crcB crcT
  congr 1
  apply UInt32.toNat_inj.1
  rw [UInt32.toNat_shiftRight, UInt32.toNat_ofNat_of_lt' (by show _ < 4294967296; omega)]
  show _ = r.toNat >>> 8
  rw [Nat.shiftRight_eq_div_pow]
  omega
structure FeedO (w : World) (bs : List UInt8) (r0 : UInt32) (r i : Value) (wr : World) : Prop where
  st : wr = w ∧ ∃ k : Nat, k ≤ bs.length ∧ i = .int .i64 k ∧ r = u32V ((bs.take k).foldl crcB r0)
structure FeedI (w : World) (y : UInt32) (r i : Value) (wr : World) : Prop where
  st : wr = w ∧ ∃ m : Nat, m ≤ 8 ∧ i = .int .i64 m ∧ r = u32V (crcI m y)
set_option maxRecDepth 100000 in
set_option maxHeartbeats 2000000 in
theorem feed_any (v : Value) (bs : List UInt8) (r0 : UInt32) (w : World) (hb : BytesAt w v bs) (hl : bs.length ≤ 4611686018427387904) :
    Calls Tryz.prog 158 #[.int .u32 (r0.toNat : Int), v] w fun e w' => e = .returned (u32V (bs.foldl crcB r0)) ∧ w = w' := by
  obtain ⟨ao, cap, rfl, hcell⟩ := hb
  have HC := Lib.hid hcell
  clear hcell
  have hr0 := r0.toNat_lt
  go_enter Tryz.func158, Tryz.ntmps158
  go_wp2
  go_loopw [0, 5, 6, 7] (fun r i _ _ wr => FeedO w bs r0 r i wr) (fun _ i _ _ _ => bs.length - (intOf i).toNat)
  case atStart => exact ⟨rfl, 0, Nat.zero_le _, rfl, rfl⟩
  case round =>
    obtain ⟨rfl, k, hk, rfl, rfl⟩ := hrel.st
    clear hrel
    have hrl := ((bs.take k).foldl crcB r0).toNat_lt
    by_cases hlt : k < bs.length
    · have hltd : decide ((k : Int) < (bs.length : Int)) = true := decide_eq_true (by omega)
      have hk1 : (k : Int) ≤ 4611686018427387904 := by omega
      obtain ⟨x, hx⟩ : ∃ x, bs[k]? = some x := ⟨_, List.getElem?_eq_getElem hlt⟩
      obtain ⟨b, off, rfl, hc⟩ := HC.out (by rintro rfl; simp at hlt)
      have cx := hc k x hx
      unfold byteV at cx
      have hfold : (bs.take (k + 1)).foldl crcB r0 = crcB ((bs.take k).foldl crcB r0) x := by rw [List.take_add_one, hx]; simp [List.foldl_append]
      have HFO := Lib.hid hfold
      have hxl := x.toNat_lt
      unfold u32V
      generalize (bs.take k).foldl crcB r0 = r at hrl HFO ⊢
      have hx0 : bits .xor .u32 (r.toNat : Int) (x.toNat : Int) = ((r ^^^ UInt32.ofNat x.toNat).toNat : Int) := by
        rw [u32_xor_nat _ _ hrl (by omega), UInt32.toNat_xor, UInt32.toNat_ofNat_of_lt' (by show _ < 4294967296; omega)]
      have HB := Lib.hid (crc_bits r x)
      generalize r ^^^ UInt32.ofNat x.toNat = y at hx0 HB
      have hy := y.toNat_lt
      have hxm : IntKind.u32.wrap (x.toNat : Int) = (x.toNat : Int) := by
        unfold IntKind.wrap; simp [IntKind.bits, IntKind.signed]; omega
      clear hc hfold hx
      go_upto_region 6 with (fail)
      go_loopw [0, 6, 7] (fun rv i2 _ w' => FeedI wr y rv i2 w') (fun _ i2 _ _ => 8 - (intOf i2).toNat)
      case atStart => exact ⟨rfl, 0, by omega, rfl, by rfl⟩
      case round =>
        obtain ⟨rfl, m, hm, rfl, rfl⟩ := hrel.st
        clear hrel
        by_cases hlt2 : m < 8
        · have hltd2 : decide ((m : Int) < 8) = true := decide_eq_true (by omega)
          have hm1 : (m : Int) ≤ 8 := by omega
          have HCS := Lib.hid (show crcS (crcI m y) = crcI (m + 1) y from rfl)
          unfold u32V
          generalize crcI m y = r1 at HCS ⊢
          have hr1 := r1.toNat_lt
          have hsh : ((r1.toNat : Nat) : Int) / (2 : Int) = (((r1 >>> 1).toNat : Nat) : Int) := by
            rw [UInt32.toNat_shiftRight]
            show _ = ((r1.toNat >>> 1 : Nat) : Int)
            rw [Nat.shiftRight_eq_div_pow]; rfl
          have hand : bits .and .u32 (r1.toNat : Int) 1 = (((r1 &&& 1).toNat : Nat) : Int) := by
            rw [show (1 : Int) = ((1 : Nat) : Int) from rfl, u32_and_nat _ _ hr1 (by omega), UInt32.toNat_and]; rfl
          rcases one_bit r1 with h1 | h1
          · rw [h1] at hand
            have hand2 : bits .and .u32 (r1.toNat : Int) 1 = 0 := hand
            have HS := Lib.hid (crcS_zero h1)
            have HSH := Lib.hid hsh
            clear hand hsh h1
            go_wp2
            go_roundw
            case rel => exact ⟨rfl, m + 1, by omega, rfl, by rw [HSH.out, ← HS.out, HCS.out]; rfl⟩
            case measure => simp only [intOf]; omega
          · rw [h1] at hand
            have hand2 : bits .and .u32 (r1.toNat : Int) 1 = 1 := hand
            have hxr : bits .xor .u32 ((r1.toNat : Int) / 2) 2197175160 = ((crcS r1).toNat : Int) := by
              rw [crcS_one h1]
              refine (congrArg (fun z => bits .xor .u32 z _) hsh).trans ?_
              rw [show (2197175160 : Int) = (((2197175160 : UInt32).toNat : Nat) : Int) from rfl, u32_xor_nat _ _ (UInt32.toNat_lt _) (UInt32.toNat_lt _), ← UInt32.toNat_xor]
            have HXR := Lib.hid hxr
            clear hand hsh h1 hxr
            go_wp2
            go_roundw
            case rel => exact ⟨rfl, m + 1, by omega, rfl, by rw [HXR.out, HCS.out]; rfl⟩
            case measure => simp only [intOf]; omega
        · obtain rfl : m = 8 := by omega
          have hltd2 : decide (((8 : Nat) : Int) < 8) = false := by decide
          rw [HB.out]
          unfold u32V
          go_wp2
          go_roundw
          case rel => exact ⟨rfl, k + 1, by omega, rfl, by rw [HFO.out]; rfl⟩
          case measure => simp only [intOf]; omega
    · obtain rfl : k = bs.length := by omega
      have hltd : decide ((bs.length : Int) < (bs.length : Int)) = false := decide_eq_false (by omega)
      rw [List.take_length] at hrl ⊢
      unfold u32V
      go_wp2
      go_ret
      exact ⟨rfl, rfl⟩
set_option maxHeartbeats 1000000 in
theorem r3of_any (v : Value) (bs : List UInt8) (w : World) (hb : BytesAt w v bs) (hl : bs.length ≤ 4611686018427387904) :
    Calls Tryz.prog 131 #[v] w fun e w' => e = .returned (u32V (crcM bs)) ∧ w = w' := by
  have hx : Calls Tryz.prog 150 #[.int .u32 0, v] w fun e w' => e = .returned (u32V (crcM bs)) ∧ w = w' := by
    have hf := feed_any v bs (~~~0) w hb hl
    have e0 : ((~~~(0 : UInt32)).toNat : Int) = 4294967295 := rfl
    rw [e0] at hf
    have HE := Lib.hid (show crcM bs = ~~~(bs.foldl crcB (~~~0)) from rfl)
    generalize bs.foldl crcB (~~~0) = r at hf HE
    have hr := r.toNat_lt
    unfold u32V at hf ⊢
    clear hb
    go_enter Tryz.func150, Tryz.ntmps150
    go_wp2_with (go_at_call 158; refine hf.mono ?_; rintro e w1 ⟨rfl, rfl⟩; clear hf)
    go_ret
    exact ⟨by rw [HE.out, u32_not]; rfl, rfl⟩
  unfold u32V at hx ⊢
  clear hb
  go_enter Tryz.func131, Tryz.ntmps131
  go_wp2_with (go_at_call 150; refine hx.mono ?_; rintro e w1 ⟨rfl, rfl⟩; clear hx)
  go_ret
  exact ⟨rfl, rfl⟩
end Go.Proofs.YtmcclbiaoeilkaaGreat
end
