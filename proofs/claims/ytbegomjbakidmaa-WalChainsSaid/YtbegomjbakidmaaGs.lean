import Derived.Test.YtbegomjbakidmaaGp
import Derived.Test.YtbegomjbakidmaaSy
/- A checksum tells any inverted bit: plain laws. They speak of no program. -/
namespace Go.Proofs.Ytbegomjbakidmaa
open Go.RowKit Go.Sl Go.ChangeMaps

def crcInv : List Nat := [0, 241, 226, 19, 196, 53, 38, 215, 136, 121, 106, 155, 76, 189, 174, 95, 16, 225, 242, 3, 212, 37, 54, 199, 152, 105, 122, 139, 92, 173, 190, 79, 32, 209, 194, 51, 228, 21, 6, 247, 168, 89, 74, 187, 108, 157, 142, 127, 48, 193, 210, 35, 244, 5, 22, 231, 184, 73, 90, 171, 124, 141, 158, 111, 177, 64, 83, 162, 117, 132, 151, 102, 57, 200, 219, 42, 253, 12, 31, 238, 161, 80, 67, 178, 101, 148, 135, 118, 41, 216, 203, 58, 237, 28, 15, 254, 145, 96, 115, 130, 85, 164, 183, 70, 25, 232, 251, 10, 221, 44, 63, 206, 129, 112, 99, 146, 69, 180, 167, 86, 9, 248, 235, 26, 205, 60, 47, 222, 98, 147, 128, 113, 166, 87, 68, 181, 234, 27, 8, 249, 46, 223, 204, 61, 114, 131, 144, 97, 182, 71, 84, 165, 250, 11, 24, 233, 62, 207, 220, 45, 66, 179, 160, 81, 134, 119, 100, 149, 202, 59, 40, 217, 14, 255, 236, 29, 82, 163, 176, 65, 150, 103, 116, 133, 218, 43, 56, 201, 30, 239, 252, 13, 211, 34, 49, 192, 23, 230, 245, 4, 91, 170, 185, 72, 159, 110, 125, 140, 195, 50, 33, 208, 7, 246, 229, 20, 75, 186, 169, 88, 143, 126, 109, 156, 243, 2, 17, 224, 55, 198, 213, 36, 123, 138, 153, 104, 191, 78, 93, 172, 227, 18, 1, 240, 39, 214, 197, 52, 107, 154, 137, 120, 175, 94, 77, 188]
theorem crcInv_ok : ∀ i : Fin 256, crcInv.getD ((crcT i.val).toNat >>> 24) 256 = i.val := by decide +kernel
theorem crcT_inj {i j : Nat} (hi : i < 256) (hj : j < 256) (h : (crcT i).toNat >>> 24 = (crcT j).toNat >>> 24) : i = j := by
  have h1 := crcInv_ok ⟨i, hi⟩
  have h2 := crcInv_ok ⟨j, hj⟩
  simp only at h1 h2
  rw [← h1, ← h2, h]
theorem crcB_nat (r : UInt32) (x : UInt8) : (crcB r x).toNat = r.toNat >>> 8 ^^^ (crcT (UInt8.ofNat r.toNat ^^^ x).toNat).toNat := by
  unfold crcB
  rw [UInt32.toNat_xor, UInt32.toNat_shiftRight]
  rfl
theorem nat_xor_cancel {a b c : Nat} (h : a ^^^ b = a ^^^ c) : b = c := by
  have := congrArg (fun z => a ^^^ z) h
  simpa [← Nat.xor_assoc] using this
theorem u8_xor_cancel {a b c : UInt8} (h : a ^^^ b = a ^^^ c) : b = c := by
  have := congrArg UInt8.toNat h
  rw [UInt8.toNat_xor, UInt8.toNat_xor] at this
  exact UInt8.toNat_inj.1 (nat_xor_cancel this)
theorem crcB_x {r : UInt32} {x y : UInt8} (h : crcB r x = crcB r y) : x = y := by
  have h1 := congrArg UInt32.toNat h
  rw [crcB_nat, crcB_nat] at h1
  have h2 := nat_xor_cancel h1
  have h3 := crcT_inj (UInt8.toNat_lt _) (UInt8.toNat_lt _) (congrArg (fun z => z >>> 24) h2)
  exact u8_xor_cancel (UInt8.toNat_inj.1 h3)
theorem crcB_r {r s : UInt32} {x : UInt8} (h : crcB r x = crcB s x) : r = s := by
  have h1 := congrArg UInt32.toNat h
  rw [crcB_nat, crcB_nat] at h1
  have hr := r.toNat_lt
  have hs := s.toNat_lt
  have top : ∀ n : Nat, n < 4294967296 → (n >>> 8) >>> 24 = 0 := fun n hn => by
    rw [← Nat.shiftRight_add, Nat.shiftRight_eq_div_pow]
    exact Nat.div_eq_of_lt hn
  have h2 := congrArg (fun z => z >>> 24) h1
  simp only [Nat.shiftRight_xor_distrib] at h2
  rw [top _ hr, top _ hs, Nat.zero_xor, Nat.zero_xor] at h2
  have h3 := crcT_inj (UInt8.toNat_lt _) (UInt8.toNat_lt _) h2
  rw [h3, Nat.xor_comm, Nat.xor_comm (s.toNat >>> 8)] at h1
  have h4 := nat_xor_cancel h1
  rw [Nat.shiftRight_eq_div_pow, Nat.shiftRight_eq_div_pow] at h4
  have h5 := UInt8.toNat_inj.1 h3
  rw [UInt8.xor_comm, UInt8.xor_comm (UInt8.ofNat s.toNat)] at h5
  have h6 := congrArg UInt8.toNat (u8_xor_cancel h5)
  rw [UInt8.toNat_ofNat', UInt8.toNat_ofNat'] at h6
  exact UInt32.toNat_inj.1 (by omega)
theorem crcF_r {r s : UInt32} : ∀ {l : List UInt8}, l.foldl crcB r = l.foldl crcB s → r = s
  | [], h => h
  | _ :: l, h => crcB_r (crcF_r (l := l) h)
theorem not_inj {r s : UInt32} (h : ~~~r = ~~~s) : r = s := by
  have := congrArg (fun z : UInt32 => ~~~z) h
  simpa using this
/-- Two texts that differ in one byte have different checksums. -/
theorem crcM_one {a b : List UInt8} {x y : UInt8} (h : crcM (a ++ x :: b) = crcM (a ++ y :: b)) : x = y := by
  unfold crcM crcF at h
  have h1 := not_inj h
  rw [List.foldl_append, List.foldl_append, List.foldl_cons, List.foldl_cons] at h1
  exact crcB_x (crcF_r h1)
theorem getM_inj : ∀ {l m : List UInt8}, l.length = m.length → getM l = getM m → l = m
  | [], [], _, _ => rfl
  | x :: l, y :: m, h, e => by
    have h1 := x.toNat_lt
    have h2 := y.toNat_lt
    simp only [getM] at e
    have h3 : x.toNat = y.toNat := by omega
    have h4 : getM l = getM m := by omega
    rw [UInt8.toNat_inj.1 h3, getM_inj (by simpa using h) h4]
  | [], _ :: _, h, _ => by simp at h
  | _ :: _, [], h, _ => by simp at h
theorem set_split {l : List UInt8} {k : Nat} (h : k < l.length) (v : UInt8) : l = l.take k ++ l[k] :: l.drop (k + 1) ∧ l.set k v = l.take k ++ v :: l.drop (k + 1) := by
  constructor
  · rw [← List.drop_eq_getElem_cons h, List.take_append_drop]
  · rw [List.set_eq_take_append_cons_drop, if_pos h]
/-- No sector whose label is in order has one behind a byte that was changed. -/
theorem label_set {s : List UInt8} (hs : s.length = 64) (h : labelOK s = true) {k : Nat} (hk : k < 64) {v : UInt8} (hv : v ≠ s[k]'(by omega)) : labelOK (s.set k v) = false := by
  have hc : getM (subL s 0 4) = (crcM (s.drop 4)).toNat := by
    unfold labelOK at h
    simp only [Bool.and_eq_true, decide_eq_true_eq] at h
    exact h.1.1.1
  have hn : ¬ getM (subL (s.set k v) 0 4) = (crcM ((s.set k v).drop 4)).toNat := by
    intro e
    by_cases h4 : k < 4
    · rw [List.drop_set_of_lt (by omega), ← hc] at e
      have h5 := getM_inj (by simp [subL]) e
      unfold subL at h5
      simp only [List.drop_zero, Nat.sub_zero, List.take_set] at h5
      have h6 : ((s.take 4).set k v)[k]? = (s.take 4)[k]? := by rw [h5]
      rw [List.getElem?_set_self (by rw [List.length_take]; omega), List.getElem?_take_of_lt h4, List.getElem?_eq_getElem (by omega)] at h6
      exact hv (Option.some.inj h6)
    · have e1 : subL (s.set k v) 0 4 = subL s 0 4 := by unfold subL; simp only [List.drop_zero, Nat.sub_zero]; rw [List.take_set_of_le (by omega)]
      rw [e1, hc] at e
      have h5 := UInt32.toNat_inj.1 e
      obtain ⟨j, rfl⟩ : ∃ j, k = 4 + j := ⟨k - 4, by omega⟩
      have hd : (s.set (4 + j) v).drop 4 = (s.drop 4).set j v := by rw [List.drop_set, if_neg (by omega)]; congr 1; omega
      have hj : j < (s.drop 4).length := by rw [List.length_drop]; omega
      obtain ⟨s1, s2⟩ := set_split hj v
      rw [hd, s2] at h5
      have h7 : crcM ((s.drop 4).take j ++ (s.drop 4)[j] :: (s.drop 4).drop (j + 1)) = crcM ((s.drop 4).take j ++ v :: (s.drop 4).drop (j + 1)) := by rw [← s1]; exact h5
      have h6 := crcM_one h7
      rw [List.getElem_drop] at h6
      exact hv h6.symm
  unfold labelOK
  rw [decide_eq_false hn]
  simp
theorem flip_ne {s : List UInt8} {bit : Nat} (hk : bit / 8 < s.length) : s.getD (bit / 8) 0 ^^^ (1 <<< UInt8.ofNat (bit % 8)) ≠ s[bit / 8] := by
  rw [List.getD_eq_getElem?_getD, List.getElem?_eq_getElem hk, Option.getD_some]
  intro e
  have e2 : s[bit / 8] ^^^ (1 <<< UInt8.ofNat (bit % 8)) = s[bit / 8] ^^^ 0 := by rw [e]; simp
  have h0 := u8_xor_cancel e2
  have h8 : ∀ j : Fin 8, (1 : UInt8) <<< UInt8.ofNat j.val ≠ 0 := by decide
  exact h8 ⟨bit % 8, Nat.mod_lt _ (by decide)⟩ h0
theorem zflip_bad : ∀ b : Fin 512, (genOK (genAt (DiskM.flip zsec b.val) 8) && decide (subL (DiskM.flip zsec b.val) 8 16 = (DiskM.flip zsec b.val).drop 56)) = false := by decide +kernel
/-- An inverted bit makes a sector unreadable. -/
theorem open_flip {a : PlaceM} {s : List UInt8} {bit : Nat} (hb : bit < 512) (h : s = zsec ∨ (openM a s).isSome = true) : openM a (DiskM.flip s bit) = none := by
  unfold openM
  rw [if_neg]
  rintro ⟨_, hl, h2, _⟩
  rcases h with rfl | h
  · have h3 := zflip_bad ⟨bit, hb⟩
    unfold labelOK at h2
    simp only [Bool.and_eq_true] at h2
    simp only [Bool.and_eq_false_iff] at h3
    rcases h3 with h3 | h3
    · rw [h2.1.2] at h3; cases h3
    · rw [h2.2] at h3; cases h3
  · unfold openM at h
    split at h
    · next hc =>
      have hk : bit / 8 < s.length := by omega
      have := label_set hc.2.1 hc.2.2.1 (k := bit / 8) (by omega) (flip_ne hk)
      unfold DiskM.flip at h2
      rw [this] at h2
      cases h2
    · cases h
end Go.Proofs.Ytbegomjbakidmaa

/- Plain laws behind the statements about the log. They speak of no program. -/
namespace Go.Proofs.Ytbegomjbakidmaa
open Go.RowKit Go.Sl Go.ChangeMaps

/-- Two disks, so many sectors of log besides the registers. -/
def cfgW (size : Int) : CfgM := ⟨2, 1, 1, 0, size + 3, 1⟩
theorem cfgW_ok {size : Int} (h : 1 ≤ size) (h2 : size ≤ 40) : (cfgW size).ok = true := by
  have a1 : inB (size + 3) 1 65536 = true := by unfold inB; simp only [Bool.and_eq_true, decide_eq_true_eq]; omega
  unfold CfgM.ok cfgW
  simp only [a1]
  simp [inB]
theorem cfgW_sectors (size : Int) : (cfgW size).sectors = size + 6 := by unfold CfgM.sectors cfgW; simp only; omega
theorem cfgW_logN {size : Int} (h : 1 ≤ size) : logN (cfgW size) = size := by unfold logN cfgW; simp only; omega
theorem new_fine {c : CfgM} (h : c.WF) : FineS c (ShelfM.new c) ∧ ∀ d : Int, 0 ≤ d → d < c.disks → conL (ShelfM.new c) d = fun _ => zsec := by
  have hb := fun (d : Int) (h0 : 0 ≤ d) (h1 : d < c.disks) => ShelfM.new_bay c h0 h1
  refine ⟨⟨new_wf h, rfl, rfl, rfl, fun d h0 h1 => ShelfM.bay_state (hb d h0 h1), fun d h0 h1 i => ?_⟩, fun d h0 h1 => funext fun j => ?_⟩
  · rw [ShelfM.bay_disk (hb d h0 h1)]; rfl
  · unfold conL; rw [ShelfM.bay_disk (hb d h0 h1)]; rfl
theorem map_bay (S : ShelfM) (e : Int) (f : BayM → BayM) : ({ S with bays := S.bays.map f } : ShelfM).bay e = (S.bay e).map f := by
  unfold ShelfM.bay
  split
  · simp
  · rfl
theorem flushAll_fine {c : CfgM} {S : ShelfM} (h : FineS c S) : S.flushAll.2 = 0 ∧ FineS c S.flushAll.1 ∧ conL S.flushAll.1 = conL S := by
  rw [ShelfM.flushAll_all h.off h.fused]
  have hst : ∀ e : Int, ({ S with bays := S.bays.map ShelfM.clean1 } : ShelfM).state e = S.state e := fun e => by
    unfold ShelfM.state
    rw [map_bay]
    cases S.bay e with
    | none => rfl
    | some b => simp only [Option.map_some]; unfold ShelfM.clean1; split <;> simp_all
  have hdk : ∀ e : Int, ({ S with bays := S.bays.map ShelfM.clean1 } : ShelfM).disk e = if S.state e = 1 then (S.disk e).flush else S.disk e := fun e => by
    unfold ShelfM.disk ShelfM.state
    rw [map_bay]
    cases S.bay e with
    | none => rfl
    | some b => simp only [Option.map_some]; unfold ShelfM.clean1; split <;> simp_all
  refine ⟨rfl, ⟨⟨h.wf.cfg, ?_, fun b hb => ?_, h.wf.images, h.wf.left⟩, h.cfg, h.off, h.fused, fun d h0 h1 => ?_, fun d h0 h1 i => ?_⟩, ?_⟩
  · simpa using h.wf.bays
  · obtain ⟨b', hb', rfl⟩ := List.mem_map.1 hb
    have := h.wf.st b' hb'
    by_cases hc : b'.state = 1
    · rw [show ShelfM.clean1 b' = ⟨b'.disk.flush, 1⟩ from if_pos hc]
      exact ⟨.inl rfl, fun _ => this.2 hc⟩
    · rw [show ShelfM.clean1 b' = b' from if_neg hc]
      exact this
  · simp only; rw [hst]; exact h.st d h0 h1
  · simp only; rw [hdk, if_pos (h.st d h0 h1)]; exact h.armed d h0 h1 i
  · funext e j
    unfold conL
    simp only
    rw [hdk]
    split
    · rfl
    · rfl
theorem rot_fine {c : CfgM} {S : ShelfM} (h : FineS c S) {d : Int} (h0 : 0 ≤ d) (h1 : d < c.disks) {i : Nat} (hi : (i : Int) < c.log) {bit : Int} (hb : 0 ≤ bit ∧ bit < 512) :
    (S.rot ⟨d, 1, (i : Int)⟩ bit).2 = 0 ∧ FineS c (S.rot ⟨d, 1, (i : Int)⟩ bit).1 ∧ ∀ e : Int, ∀ j : Nat, conL (S.rot ⟨d, 1, (i : Int)⟩ bit).1 e j = if e = d ∧ j = i then DiskM.flip (conL S d i) bit.toNat else conL S e j := by
  have hst := h.st d h0 h1
  have hi' : (i : Int) < S.cfg.log := by rw [h.cfg]; exact hi
  have hlt := log_has h.wf hst hi'
  have hbb : d < (S.bays.length : Int) := by rw [h.bays]; exact h1
  have hn := log_number (d := d) (i := i) (by omega) hi'
  have hr : (S.disk d).rot (i : Int) bit = ({ S.disk d with dur := fupd (S.disk d).dur i (DiskM.flip ((S.disk d).dur i) bit.toNat), cache := fupd (S.disk d).cache i (((S.disk d).cache i).map fun s => DiskM.flip s bit.toNat) }, 0) := by
    unfold DiskM.rot
    rw [if_pos ⟨DiskM.has_of (by omega) (by omega), hb.1, hb.2⟩]
    rfl
  have he : S.rot ⟨d, 1, (i : Int)⟩ bit = (S.setDisk d { S.disk d with dur := fupd (S.disk d).dur i (DiskM.flip ((S.disk d).dur i) bit.toNat), cache := fupd (S.disk d).cache i (((S.disk d).cache i).map fun s => DiskM.flip s bit.toNat) }, 0) := by
    unfold ShelfM.rot
    rw [ShelfM.arm_eq _ _ _ (by rw [hn]; omega) _ (by simp [hb.1, hb.2]), if_pos hst, hn, hr]
  rw [he]
  refine ⟨rfl, ⟨h.wf.setDisk (by omega) rfl, h.cfg, h.off, h.fused, fun e e0 e1 => ?_, fun e e0 e1 k => ?_⟩, fun e j => ?_⟩
  · simp only; rw [ShelfM.setDisk_state h0 hbb]; exact h.st e e0 e1
  · simp only
    rw [ShelfM.setDisk_disk h0 hbb]
    split
    · exact h.armed d h0 h1 k
    · exact h.armed e e0 e1 k
  · unfold conL
    simp only
    rw [ShelfM.setDisk_disk h0 hbb]
    by_cases hed : e = d
    · subst hed
      rw [if_pos rfl]
      by_cases hj : j = i
      · subst hj
        rw [if_pos ⟨rfl, rfl⟩]
        unfold DiskM.content fupd
        simp only [if_true]
        cases (S.disk e).cache j <;> rfl
      · rw [if_neg (by simp [hj])]; simp [DiskM.content, fupd, hj]
    · rw [if_neg hed, if_neg (by simp [hed])]

/-- The shelf after the records rs were appended to its first disk. -/
structure InvK (size : Int) (S : ShelfM) (rs : List (List UInt8)) : Prop where
  fine : FineS (cfgW size) S
  log : LogK (conL S 0) size.toNat 0 rs
  other : conL S 1 = fun _ => zsec
  small : ∀ r ∈ rs, r.length ≤ 4096
  ok : ∀ j : Nat, conL S 0 j = zsec ∨ (openM ⟨0, 1, (j : Int)⟩ (conL S 0 j)).isSome = true
theorem inv_new {size : Int} (h1 : 1 ≤ size) (h2 : size ≤ 40) : InvK size (ShelfM.new (cfgW size)) [] := by
  have hw := ok_wf (cfgW_ok h1 h2) (by rw [cfgW_sectors]; omega)
  obtain ⟨a, b⟩ := new_fine hw
  have b0 := b 0 (by omega) (by simp [cfgW])
  refine ⟨a, LogK.nil fun j => ?_, b 1 (by omega) (by simp [cfgW]), fun r hr => (by cases hr), fun j => .inl ?_⟩
  · rw [b0]; exact zsec_open _
  · rw [b0]
theorem app_ok {f : Nat → List UInt8} {d : Int} {t : TailM} {g h0 : GenM} {r : List UInt8} {N n : Nat} (hd : 0 ≤ d ∧ d < 64) (hN : N ≤ 65536) (hnew : newerM g h0 = true) (hh : genV h0 = true) (ht : tailV t = true) (hg : genV g = true) (hfit : t.next + (n : Int) ≤ (N : Int))
    (h : ∀ j : Nat, f j = zsec ∨ (openM ⟨d, 1, (j : Int)⟩ (f j)).isSome = true) (j : Nat) : appF f d t g r n j = zsec ∨ (openM ⟨d, 1, (j : Int)⟩ (appF f d t g r n j)).isSome = true := by
  unfold appF
  split
  · next hc =>
    obtain ⟨h1, h2, h3, h4, _⟩ := tailV_iff.1 ht
    obtain ⟨k1, k2, _, _⟩ := genV_iff.1 hh
    obtain ⟨m1, m2, m3, m4⟩ := genV_iff.1 hg
    have hok : sealOK ⟨d, 1, (j : Int)⟩ g (payL t r (j - t.next.toNat)) = true := by
      unfold sealOK
      simp only [Bool.and_eq_true, decide_eq_true_eq]
      refine ⟨⟨placeOK_iff.2 ⟨hd.1, hd.2, by simp, by simp, by simp only; omega, by simp only; omega⟩, genOK_iff.2 ⟨m1, m2, m3, m4, newer_ne hnew k1 k2⟩⟩, ?_⟩
      rw [payL_length]; omega
    rw [open_seal hok]
    exact .inr rfl
  · exact h j
/-- One more record was appended to the first disk. -/
theorem inv_app {size : Int} {S : ShelfM} {rs : List (List UInt8)} (h : InvK size S rs) (h1 : 1 ≤ size) (h2 : size ≤ 40) (hl : rs.length ≤ 999) {r : List UInt8} (hz : appErr (cfgW size) 0 (tailK rs rs.length) ⟨1, (rs.length : Int) + 1⟩ r = 0) :
    ∃ S', appM S 0 (tailK rs rs.length) ⟨1, (rs.length : Int) + 1⟩ r = (S', tailK (rs ++ [r]) (rs.length + 1), 0) ∧ InvK size S' (rs ++ [r]) := by
  obtain ⟨S', e1, e2, e3, e4⟩ := appM_fine h.fine hz
  obtain ⟨⟨_, _, ht, hg⟩, hnew, hs, hfit⟩ := appErr_none hz
  rw [cfgW_logN h1] at hfit
  have e : (tailK rs rs.length).next = sumN rs := by show sumN (rs.take rs.length) = _; rw [List.take_length]
  refine ⟨S', by rw [e1, tailK_last, recN_val], e2, ?_, ?_, fun x hx => ?_, fun j => ?_⟩
  · rw [e3]
    exact h.log.app ⟨by decide, by decide⟩ (by omega) hl hs (by rw [e] at hfit; omega)
  · rw [e4 1 (by decide)]; exact h.other
  · rcases List.mem_append.1 hx with hx | hx
    · exact h.small x hx
    · obtain rfl : x = r := by simpa using hx
      exact hs
  · rw [e3]
    exact app_ok (N := size.toNat) ⟨by decide, by decide⟩ (by omega) hnew (tailV_iff.1 ht).2.2.2.2 ht hg (by omega) h.ok j

theorem InvK.scan {size : Int} {S : ShelfM} {rs : List (List UInt8)} (h : InvK size S rs) (h1 : 1 ≤ size) (h2 : size ≤ 40) (hl : rs.length ≤ 1000) {k : Nat} (hk : k ≤ rs.length) : ScanL (conL S 0) size.toNat 0 (tailK rs k) (rs.drop k) (tailK rs rs.length) :=
  (h.log.log (by omega) hl hk).scan
theorem tailK_zero (rs : List (List UInt8)) : tailK rs 0 = t0 := by simp [tailK, sumN, genK, t0]
theorem InvK.reads {size : Int} {S : ShelfM} {c : CfgM} (h : FineS c S) (hc : c = cfgW size) (h1 : 1 ≤ size) {d : Int} (hd : 0 ≤ d ∧ d < 2) : ReadsL S d size.toNat (conL S d) := by
  subst hc
  exact h.reads hd.1 (by simp only [cfgW]; omega) (by simp only [cfgW]; omega)

/-! ### a log that was begun again -/
structure InvR (size : Int) (S : ShelfM) (from' : TailM) (ms : List (List UInt8)) (t : TailM) : Prop where
  fine : FineS (cfgW size) S
  log : LogL (conL S 0) size.toNat 0 from' ms t
  number : t.number = from'.number + (ms.length : Int)
  newer : ∀ i : Int, (ms.length : Int) ≤ i → newerM ⟨2, i⟩ t.gen = true
theorem invR_start {size : Int} {S : ShelfM} {rs : List (List UInt8)} (h : InvK size S rs) (hl : rs.length ≤ 1000) : InvR size S ⟨0, (tailK rs rs.length).number, (tailK rs rs.length).gen⟩ [] ⟨0, (tailK rs rs.length).number, (tailK rs rs.length).gen⟩ := by
  refine ⟨h.fine, LogL.empty h.log.old (tailV_iff.2 ⟨by simp, by simp [tailK], by simp, by simp only [tailK]; omega, genK_valid (by omega)⟩) (by simp only; omega), by simp, fun i hi => ?_⟩
  simp only [List.length_nil, Int.natCast_zero] at hi
  unfold newerM tailK genK
  split
  · simp [g0]
  · simp
theorem invR_app {size : Int} {S : ShelfM} {fr t : TailM} {ms : List (List UInt8)} (h : InvR size S fr ms t) (h1 : 1 ≤ size) (h2 : size ≤ 40) (hn : fr.number ≤ 1000) (hl : ms.length ≤ 1000) {r : List UInt8} (hz : appErr (cfgW size) 0 t ⟨2, (ms.length : Int)⟩ r = 0) :
    ∃ S' t', appM S 0 t ⟨2, (ms.length : Int)⟩ r = (S', t', 0) ∧ InvR size S' fr (ms ++ [r]) t' := by
  obtain ⟨S', e1, e2, e3, e4⟩ := appM_fine h.fine hz
  obtain ⟨⟨_, _, ht, hg⟩, hnew, hs, hfit⟩ := appErr_none hz
  rw [cfgW_logN h1] at hfit
  refine ⟨S', _, e1, e2, ?_, ?_, fun i hi => ?_⟩
  · rw [e3, recN_val]
    exact h.log.app ⟨by decide, by decide⟩ (by omega) hg hnew hs (by omega) (by rw [h.number]; omega)
  · simp only [List.length_append, List.length_singleton]; have := h.number; omega
  · simp only [List.length_append, List.length_singleton] at hi
    unfold newerM
    simp only [Bool.or_eq_true, Bool.and_eq_true, decide_eq_true_eq]
    right
    exact ⟨trivial, by omega⟩

/-! ### a bit that was inverted -/
theorem restL_none {f : Nat → List UInt8} {N : Nat} {d : Int} {t : Nat} {x : PartM} {j : Nat} (h : readL f N d (t + j) = none) : ∀ (k i : Nat), i ≤ j → j < i + k → restL f N d t x i k = none
  | 0, i, h1, h2 => by omega
  | k + 1, i, h1, h2 => by
    unfold restL
    by_cases hij : i = j
    · rw [hij, h]
    · cases readL f N d (t + i) with
      | none => rfl
      | some p =>
        simp only
        rw [restL_none h k (i + 1) (by omega) (by omega)]
        split <;> rfl
theorem next_broken {f f' : Nat → List UInt8} {N : Nat} {d : Int} {t t1 : TailM} {r : List UInt8} {i : Nat} (h : nextL f N d t = some (r, t1)) (h0 : 0 ≤ t.next) (hi : t.next ≤ (i : Int)) (hi2 : (i : Int) < t1.next) (hf : ∀ j, j ≠ i → f j = f' j) (hn : readL f' N d i = none) : nextL f' N d t = none := by
  unfold nextL at h ⊢
  by_cases hti : t.next.toNat = i
  · rw [hti, hn]
  · rw [← readL_congr (hf _ hti)]
    cases hx : readL f N d t.next.toNat with
    | none => rfl
    | some x =>
      rw [hx] at h
      simp only at h ⊢
      by_cases hc : firstOK t x
      · rw [if_pos hc] at h ⊢
        cases hr : restL f N d t.next.toNat x 1 ((sizeM x.left).toNat - 1) with
        | none => rw [hr] at h; cases h
        | some y =>
          rw [hr] at h
          simp only [Option.map_some, Option.some.injEq, Prod.mk.injEq] at h
          have hn1 : t1.next = t.next + sizeM x.left := by rw [← h.2]
          rw [restL_none (j := i - t.next.toNat) (by rw [show t.next.toNat + (i - t.next.toNat) = i by omega]; exact hn) _ _ (by omega) (by omega)]
          rfl
      · rw [if_neg hc]
theorem LogK.next {f : Nat → List UInt8} {N : Nat} {d : Int} {rs : List (List UInt8)} (h : LogK f N d rs) {k : Nat} (hk : k < rs.length) : ∃ t1, nextL f N d (tailK rs k) = some (rs[k], t1) ∧ t1 = tailK rs (k + 1) := by
  have h1 := h.chain k (by omega)
  rw [List.drop_eq_getElem_cons hk] at h1
  cases h1 with
  | cons hn _ =>
    refine ⟨_, hn, ?_⟩
    have h2 := h.pre (k + 1) (by omega)
    have h3 := (h.pre k (by omega)).snoc hn
    have e : rs.take k ++ [rs[k]] = rs.take (k + 1) := by rw [List.take_add_one, List.getElem?_eq_getElem hk]; rfl
    rw [e] at h3
    exact ChainL.end_eq h3 h2
theorem damage_scan {size : Int} {S S2 : ShelfM} {rs : List (List UInt8)} (h : InvK size S rs) (h1 : 1 ≤ size) (h2 : size ≤ 40) (hl : rs.length ≤ 1000) {i : Nat} {bit : Nat} (hb : bit < 512) (hc : ∀ j : Nat, conL S2 0 j = if j = i then DiskM.flip (conL S 0 i) bit else conL S 0 j)
    {want : Nat} (hw : want ≤ rs.length) (hlo : (tailK rs want).next ≤ (i : Int)) (hhi : want < rs.length → (i : Int) < (tailK rs (want + 1)).next) : ScanL (conL S2 0) size.toNat 0 t0 (rs.take want) (tailK rs want) := by
  have hf : ∀ j : Nat, j ≠ i → conL S 0 j = conL S2 0 j := fun j hj => by rw [hc, if_neg hj]
  have hop : openM ⟨0, 1, (i : Int)⟩ (conL S2 0 i) = none := by rw [hc, if_pos rfl]; exact open_flip hb (h.ok i)
  have hrd : readL (conL S2 0) size.toNat 0 i = none := by
    unfold readL
    split
    · rfl
    · rw [hop]; rfl
  refine ⟨(h.log.pre want hw).congr (by simp [t0]) fun j hj => hf j (by omega), ?_⟩
  have hnn : 0 ≤ (tailK rs want).next := sumN_nonneg _
  by_cases hwl : want < rs.length
  · obtain ⟨t1, hn, rfl⟩ := h.log.next hwl
    exact next_broken hn hnn hlo (hhi hwl) hf hrd
  · obtain rfl : want = rs.length := by omega
    refine OldL.none (fun j hj x hx => ?_) hnn
    by_cases hji : j = i
    · subst hji; rw [hop] at hx; cases hx
    · rw [← hf j hji] at hx
      exact h.log.old j (Int.natCast_nonneg _) x hx
end Go.Proofs.Ytbegomjbakidmaa
