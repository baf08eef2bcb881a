/- solventref27: at, free, tenant, block, with, drop, put. Printed by ub.py. -/
import Derived.Test.YtednjhlkhecihaaGreatDoorUa
import Derived.Test.YtednjhlkhecihaaGreatDoorVy
import Derived.Test.YtednjhlkhecihaaGreatDoorVf
import Derived.BigQuiet
namespace Go.Proofs.YtednjhlkhecihaaGreatDoor
open Go.RowKit Go.Vol Go.Sl

theorem rtenant_any (n : Int) (w : World) : Calls Tryz.prog 71 #[.int .i64 n] w fun e w' => e = .returned (.bool (tenB n)) ∧ w' = w := by
  by_cases h0 : 0 ≤ n
  · have h1 : decide (0 ≤ n) = true := decide_eq_true h0
    by_cases h2 : n < 16
    · have h3 : decide (n < 16) = true := decide_eq_true h2
      have HB := Lib.hid (show tenB n = true by unfold tenB; rw [h1, h3]; rfl)
      clear h0 h2
      go_enter Tryz.func71, Tryz.ntmps71
      go_wp2
      go_ret
      exact ⟨by rw [HB.out]; rfl, rfl⟩
    · have h3 : decide (n < 16) = false := decide_eq_false h2
      have HB := Lib.hid (show tenB n = false by unfold tenB; rw [h1, h3]; rfl)
      clear h0 h2
      go_enter Tryz.func71, Tryz.ntmps71
      go_wp2
      go_ret
      exact ⟨by rw [HB.out]; rfl, rfl⟩
  · have h1 : decide (0 ≤ n) = false := decide_eq_false h0
    have HB := Lib.hid (show tenB n = false by unfold tenB; rw [h1]; rfl)
    clear h0
    go_enter Tryz.func71, Tryz.ntmps71
    go_wp2
    go_ret
    exact ⟨by rw [HB.out]; rfl, rfl⟩
theorem rblock_any (n : Int) (w : World) : Calls Tryz.prog 76 #[.int .i64 n] w fun e w' => e = .returned (.bool (blkB n)) ∧ w' = w := by
  by_cases h0 : 0 ≤ n
  · have h1 : decide (0 ≤ n) = true := decide_eq_true h0
    by_cases h2 : n < 4096
    · have h3 : decide (n < 4096) = true := decide_eq_true h2
      have HB := Lib.hid (show blkB n = true by unfold blkB; rw [h1, h3]; rfl)
      clear h0 h2
      go_enter Tryz.func76, Tryz.ntmps76
      go_wp2
      go_ret
      exact ⟨by rw [HB.out]; rfl, rfl⟩
    · have h3 : decide (n < 4096) = false := decide_eq_false h2
      have HB := Lib.hid (show blkB n = false by unfold blkB; rw [h1, h3]; rfl)
      clear h0 h2
      go_enter Tryz.func76, Tryz.ntmps76
      go_wp2
      go_ret
      exact ⟨by rw [HB.out]; rfl, rfl⟩
  · have h1 : decide (0 ≤ n) = false := decide_eq_false h0
    have HB := Lib.hid (show blkB n = false by unfold blkB; rw [h1]; rfl)
    clear h0
    go_enter Tryz.func76, Tryz.ntmps76
    go_wp2
    go_ret
    exact ⟨by rw [HB.out]; rfl, rfl⟩

structure AtSt (w : World) (L : List PartM) (id : Int) (i : Value) (wr : World) : Prop where
  st : ∃ k : Nat, k ≤ L.length ∧ i = .int .i64 (k : Int) ∧ k ≤ atN L id ∧ Below w.heap.size w wr
set_option maxHeartbeats 1000000 in
theorem rat_any (v : Value) (L : List PartM) (ide : Int) (w : World) {ok : Nat → Prop} (hv : RefL ok w v L) :
    Calls Tryz.prog 51 #[v, .int .i64 ide] w fun e w' => e = .returned (.int .i64 (atP L ide)) ∧ Below w.heap.size w w' := by
  obtain ⟨l, hl, hr, hm⟩ := hv
  obtain ⟨ao, cap, rfl, hcap, hmax, _⟩ := id hr
  replace hr := hr.rows
  unfold maxLen at hmax
  have hll : l.length = L.length := by rw [← hl, List.length_map]
  have hb63 : l.length ≤ 9223372036854775807 := by omega
  have HR := Lib.hid (And.intro hr (And.intro hl hll))
  clear hr hm hl hll hcap hmax
  go_enter Tryz.func51, Tryz.ntmps51
  go_wp2
  go_loopw [5] (fun i wr => AtSt w L ide i wr) (fun i _ => l.length - (intOf i).toNat)
  case atStart => exact ⟨⟨0, Nat.zero_le _, rfl, Nat.zero_le _, Below.refl _ _⟩⟩
  case round =>
    obtain ⟨k, hk, rfl, hka, hbw⟩ := hrel.st
    clear hrel
    rw [← HR.out.2.2] at hk
    have HB := Lib.hid hbw
    by_cases hlt : k < l.length
    · have hltd : decide ((k : Int) < (l.length : Int)) = true := decide_eq_true (by omega)
      have hki : (k : Int) ≤ 9223372036854775806 := by omega
      obtain ⟨x, hx⟩ : ∃ x, l[k]? = some x := ⟨_, List.getElem?_eq_getElem hlt⟩
      have hxl : L[k]? = some x.1 := by rw [← HR.out.2.1, List.getElem?_map, hx]; rfl
      obtain ⟨g, rfl, hg, e0, _, _, _⟩ := rp_cells HR.out.1 hx
      have e0 := (hbw.cell (p := ⟨g, k * 4, none⟩) hg).trans e0
      have hst := atN_step hxl hka
      by_cases hid : x.1.id = ide
      · have HI := Lib.hid (show atP L ide = (k : Int) by unfold atP; rw [hst.1 hid, if_pos (by rw [← HR.out.2.2]; exact hlt)])
        have hidd : (x.1.id == ide) = true := by simpa using hid
        clear hst hid hx hxl hbw hka
        go_wp2
        go_ret
        exact ⟨by rw [HI.out]; rfl, HB.out⟩
      · have HI := Lib.hid (hst.2 hid)
        have hidd : (x.1.id == ide) = false := by simpa using hid
        clear hst hid hx hxl hbw hka
        go_wp2
        refine ⟨⟨⟨k + 1, by rw [← HR.out.2.2]; omega, by rw [Int.natCast_add]; rfl, HI.out, HB.out⟩⟩, by simp only [intOf]; omega⟩
    · have hke : k = l.length := by omega
      have hltd : decide ((k : Int) < (l.length : Int)) = false := decide_eq_false (by omega)
      have HI := Lib.hid (show atP L ide = -1 by unfold atP; rw [if_neg (by rw [← HR.out.2.2]; omega)])
      clear hbw hka
      go_wp2
      go_ret
      exact ⟨by rw [HI.out]; rfl, HB.out⟩

structure FrS (w : World) (L : List PartM) (i : Value) (wr : World) : Prop where
  st : ∃ k : Nat, k ≤ free L ∧ i = .int .i64 (k : Int) ∧ Below w.heap.size w wr
set_option maxRecDepth 20000 in
set_option maxHeartbeats 1000000 in
theorem rfree_any (v : Value) (L : List PartM) (w : World) {ok : Nat → Prop} (hv : RefL ok w v L) (hi : Incr L 0) (hn : L.length ≤ 256) :
    Calls Tryz.prog 72 #[v] w fun e w' => e = .returned (.int .i64 (free L : Int)) ∧ Below w.heap.size w w' := by
  have hfl := free_le hi
  have HI := Lib.hid (And.intro hi hv)
  obtain ⟨ao, cap, rfl, _⟩ := hv.slice
  clear hi hv
  go_enter Tryz.func72, Tryz.ntmps72
  go_wp2
  go_loopw [3] (fun i wr => FrS w L i wr) (fun i _ => free L - (intOf i).toNat)
  case atStart => exact ⟨⟨0, Nat.zero_le _, rfl, Below.refl _ _⟩⟩
  case round =>
    obtain ⟨k, hk, rfl, hbw⟩ := hrel.st
    clear hrel
    have hki : (k : Int) ≤ 256 := by omega
    have hft := free_test HI.out.1 hk
    have HAT := Lib.hid (rat_any _ L (k : Int) wr (HI.out.2.below hbw))
    have HB := Lib.hid hbw
    by_cases hlt : k < free L
    · rw [decide_eq_true hlt] at hft
      clear hbw
      go_wp2_with (go_at_call 51; refine HAT.out.mono ?_; rintro e w1 ⟨rfl, h1⟩)
      refine ⟨⟨⟨k + 1, by omega, by rw [Int.natCast_add]; rfl, HB.out.trans (h1.mono HB.out.size)⟩⟩, by simp only [intOf]; omega⟩
    · rw [decide_eq_false hlt] at hft
      have HK := Lib.hid (show k = free L by omega)
      clear hbw hlt hk hfl
      go_wp2_with (go_at_call 51; refine HAT.out.mono ?_; rintro e w1 ⟨rfl, h1⟩)
      go_ret
      exact ⟨by rw [← HK.out]; rfl, HB.out.trans (h1.mono HB.out.size)⟩

set_option maxRecDepth 20000 in
set_option maxHeartbeats 4000000 in
theorem rwith_any (v : Value) (L : List PartM) (i : Nat) (a0 a1 a2 : Int) (m : MapM) (pa : Option Addr) (pn pc : Nat) (w : World) {ok : Nat → Prop} (hv : RefL ok w v L) (hn : L.length ≤ 1000) (hi : i < L.length) (hp : RowK ok w (.slice pa pn pc) (items m).length ((items m).flatMap refE)) :
    Calls Tryz.prog 75 #[v, .int .i64 (i : Int), .agg #[.int .i64 a0, .int .i64 a1, .int .i64 a2, .slice pa pn pc]] w fun e w' => ∃ v', e = .returned v' ∧ Hid (Below w.heap.size w w' ∧ RefL (newer ok w) w' v' (L.set i ⟨a0, a1, a2, m⟩)) := by
  obtain ⟨l, hl, hr, hm⟩ := hv
  obtain ⟨ao, cap, rfl, hcap, hmax, hrow⟩ := id hr.rows
  replace hr := hr.rows
  have hll : l.length = L.length := by rw [← hl, List.length_map]
  obtain ⟨b, rfl, hb, hcell⟩ := hrow (by omega)
  have hbx := (Below.refl w.heap.size w).alloc (Nat.le_refl _) (.cells #[.int .i64 a0, .int .i64 a1, .int .i64 a2, .slice pa pn pc] TP)
  have hF := (Sat.old w).alloc (.cells #[.int .i64 a0, .int .i64 a1, .int .i64 a2, .slice pa pn pc] TP)
  have HS0 := Lib.hid ((Same.refl w).alloc (.cells #[.int .i64 a0, .int .i64 a1, .int .i64 a2, .slice pa pn pc] TP))
  have HL := Lib.hid (And.intro hl (And.intro hm (And.intro hp (And.intro hr hll))))
  have HCELL := Lib.hid (fun j u hu => (hbx.cell (p := ⟨b, j, none⟩) hb).trans (hcell j u hu))
  have HONE := Lib.hid (rp_one hm)
  have HLEN := Lib.hid (flat_len rpE_len l)
  have HF := Lib.hid hF
  have hln : l.length ≤ 1000 := by omega
  have hil : i < l.length := by omega
  obtain ⟨ti, hti, hz0, hts, hz2⟩ := info_parts info_TP
  have hzs : (Value.agg #[.int .i64 0, .int .i64 0, .int .i64 0, .slice none 0 0]).cells.size = 4 := rfl
  clear hbx hF hl hm hp hr hrow hcell hcap hmax hll
  go_enter Tryz.func75, Tryz.ntmps75
  go_upto_region 3 with (at_builtin; refine wpList_append_ownAt rfl _ _ TPs TP rfl ti _ Tryz.underlying26 hti hz0 hts hz2 rfl (ownAt_nil.2 HF.out) (l.flatMap rpE) rfl rfl HLEN.out (by intro j u hu; rw [Addr.add_mid, Nat.zero_add]; exact HCELL.out j u hu) HONE.out (by unfold maxLen; omega) (by omega) ?_; intro v1 w1 h1)
  generalize w.heap.size = B at h1 ⊢
  simp only [Nat.zero_add, List.nil_append] at h1
  rcases ownAt_iff.1 h1.out.2 with ⟨_, h0, _⟩ | ⟨g, cap2, cur, ⟨rfl, hnc, hcm, hcs, htk, hlen⟩, hs⟩
  · omega
  have hsm := HS0.out.trans h1.out.1
  clear h1 HS0
  have hx := cells_at hs.right.block
  have e0 := hx 0; have e1 := hx 1; have e2 := hx 2; have e3 := hx 3
  have hcur : ∀ j, j < 4 → ∃ u, w1.cell? ⟨g, i * 4 + j, none⟩ = some u := fun j hj => ⟨cur[i * 4 + j]'(by rw [hcs]; omega), by rw [cells_at hs.block, Array.getElem?_eq_getElem]⟩
  obtain ⟨u0, c0⟩ := hcur 0 (by omega); obtain ⟨u1, c1⟩ := hcur 1 (by omega); obtain ⟨u2, c2⟩ := hcur 2 (by omega); obtain ⟨u3, c3⟩ := hcur 3 (by omega)
  rw [Nat.add_zero] at c0
  have hfz := thawed_at hs.block
  have f0 := hfz (i * 4); have f1 := hfz (i * 4 + 1); have f2 := hfz (i * 4 + 2); have f3 := hfz (i * 4 + 3)
  have h4 := (((hs.setCell (i := i * 4) (.int .i64 a0)).setCell (i := i * 4 + 1) (.int .i64 a1)).setCell (i := i * 4 + 2) (.int .i64 a2)).setCell (i := i * 4 + 3) (.slice pa pn pc)
  have hs4 := (((hsm.setCell ⟨g, i * 4, none⟩ (.int .i64 a0)).setCell ⟨g, i * 4 + 1, none⟩ (.int .i64 a1)).setCell ⟨g, i * 4 + 2, none⟩ (.int .i64 a2)).setCell ⟨g, i * 4 + 3, none⟩ (.slice pa pn pc)
  have HO := Lib.hid (And.intro hs4 h4)
  have HI := Lib.hid (And.intro hcs (And.intro htk (And.intro hlen (And.intro hnc hcm))))
  have HOUT := Lib.hid (show ∀ (W : World) (R : HProp), Sat W (pts g (.cells ((((cur.setIfInBounds (i * 4) (.int .i64 a0)).setIfInBounds (i * 4 + 1) (.int .i64 a1)).setIfInBounds (i * 4 + 2) (.int .i64 a2)).setIfInBounds (i * 4 + 3) (.slice pa pn pc)) TP (0, 0)) * R) → Sat W (ownAt TP 4 (.slice (some ⟨g, 0, none⟩) l.length cap2) l.length ((l.flatMap rpE).take (i * 4) ++ ([.int .i64 a0, .int .i64 a1, .int .i64 a2, .slice pa pn pc] : List Value) ++ (l.flatMap rpE).drop ((i + 1) * 4)) * R) from by
    intro W R hW
    refine ownAt_iff.2 (.inr ⟨g, cap2, _, ⟨rfl, HI.out.2.2.2.1, HI.out.2.2.2.2, ?_, ?_, ?_⟩, hW⟩)
    · simp [HI.out.1]
    · simp only [Array.toList_setIfInBounds]
      have e := setL_eq ([.int .i64 a0, .int .i64 a1, .int .i64 a2, .slice pa pn pc] : List Value) cur.toList (i * 4) (by show i * 4 + 4 ≤ cur.toList.length; rw [Array.length_toList, HI.out.1]; omega)
      have e' : (((cur.toList.set (i * 4) (.int .i64 a0)).set (i * 4 + 1) (.int .i64 a1)).set (i * 4 + 2) (.int .i64 a2)).set (i * 4 + 3) (.slice pa pn pc) = setL cur.toList (i * 4) ([.int .i64 a0, .int .i64 a1, .int .i64 a2, .slice pa pn pc] : List Value) := rfl
      rw [e', e]
      have t1 : cur.toList.take (i * 4) = (l.flatMap rpE).take (i * 4) := by rw [← HI.out.2.1, List.take_take, Nat.min_eq_left (by omega)]
      have t2 : (cur.toList.drop (i * 4 + 4)).take (l.length * 4 - (i * 4 + 4)) = (l.flatMap rpE).drop ((i + 1) * 4) := by rw [← HI.out.2.1, List.drop_take, show (i + 1) * 4 = i * 4 + 4 by omega]
      rw [t1]
      show List.take (l.length * 4) ((l.flatMap rpE).take (i * 4) ++ ([.int .i64 a0, .int .i64 a1, .int .i64 a2, .slice pa pn pc] : List Value) ++ cur.toList.drop (i * 4 + 4)) = _
      have hl0 : ((l.flatMap rpE).take (i * 4) ++ ([.int .i64 a0, .int .i64 a1, .int .i64 a2, .slice pa pn pc] : List Value)).length = i * 4 + 4 := by rw [List.length_append, List.length_take, HI.out.2.2.1]; show _ + 4 = _; omega
      rw [List.take_append, hl0, t2, List.take_of_length_le (by rw [hl0]; omega)]
    · rw [List.length_append, List.length_append, List.length_take, List.length_drop, HI.out.2.2.1]; show _ + 4 + _ = _; omega)
  clear hx hcur hfz hs hsm h4 hs4 hcs htk hlen hcm
  go_wp2
  go_ret
  have hout := HOUT.out _ _ HO.out.2
  have hbl := HO.out.1.below_of (hout.perm (star_assoc _ _ _).symm)
  refine ⟨_, rfl, hbl, l.set i (⟨a0, a1, a2, m⟩, .slice pa pn pc), ?_, ?_, ?_⟩
  · rw [List.map_set, HL.out.1]
  · rw [List.length_set, flat_set rpE_len _ _ _ hil]
    exact (RowK.own hout (by omega)).weaken fun b h _ => .inr h
  · intro x hx
    rcases List.mem_or_eq_of_mem_set hx with hx | rfl
    · exact ((HL.out.2.1 x hx).below hbl).weaken fun b h _ => .inl h
    · exact (HL.out.2.2.1.below hbl).weaken fun b h _ => .inl h

set_option maxRecDepth 20000 in
set_option maxHeartbeats 4000000 in
theorem rdrop_any (v : Value) (L : List PartM) (i : Nat) (w : World) {ok : Nat → Prop} (hv : RefL ok w v L) (hn : L.length ≤ 1000) (hi : i < L.length) :
    Calls Tryz.prog 74 #[v, .int .i64 (i : Int)] w fun e w' => ∃ v', e = .returned v' ∧ Hid (Below w.heap.size w w' ∧ RefL (newer ok w) w' v' (L.eraseIdx i)) := by
  obtain ⟨l, hl, hr, hm⟩ := hv
  obtain ⟨ao, cap, rfl, hcap, hmax, hrow⟩ := id hr.rows
  replace hr := hr.rows
  have hll : l.length = L.length := by rw [← hl, List.length_map]
  obtain ⟨b, rfl, hb, hcell⟩ := hrow (by omega)
  have hln : l.length ≤ 1000 := by omega
  have hil : i < l.length := by omega
  have hin : (i : Int) ≤ 1000 := by omega
  have hlc : l.length ≤ cap := hcap.1
  obtain ⟨ti, hti, hz0, hts, hz2⟩ := info_parts info_TP
  have hee : (Tryz.prog.info? TP).map (·.size) = some 4 := by rw [hti, Option.map_some, hts]
  have S1 := Lib.hid (fun w' => run_sl_hi (P := Tryz.prog) (T := TPs) (e := TP) Tryz.underlying26 hee b 0 l.length cap i (by omega) w')
  have S2 := Lib.hid (show ∀ w', (Instr.sliceAt TPs (.slice (some ⟨b, 0, none⟩) l.length cap) (some (.int .i64 ((i : Int) + 1))) none none).run Tryz.prog w' = .ok (.slice (some (if cap = i + 1 then ⟨b, 0, none⟩ else ⟨b, 0 + (i + 1) * 4, none⟩)) (l.length - (i + 1)) (cap - (i + 1))) w' from fun w' => by
    have := run_sl_lo (P := Tryz.prog) (T := TPs) (e := TP) Tryz.underlying26 hee b 0 l.length cap (i + 1) (by omega) w'
    rw [Int.natCast_add] at this; exact this)
  have HL := Lib.hid (And.intro hl (And.intro hm hll))
  have HONE := Lib.hid (rp_one hm)
  have HLEN := Lib.hid (flat_len rpE_len l)
  have HCELL := Lib.hid (And.intro hb hcell)
  have ht1 : ((l.flatMap rpE).take (i * 4)).length = i * 4 := by rw [List.length_take, HLEN.out]; omega
  have ht2 : ((l.flatMap rpE).drop ((i + 1) * 4)).length = (l.length - (i + 1)) * 4 := by rw [List.length_drop, HLEN.out, Nat.sub_mul]
  have HT := Lib.hid (And.intro ht1 ht2)
  have htk : ∀ j u, ((l.flatMap rpE).take (i * 4))[j]? = some u → w.cell? ((⟨b, 0, none⟩ : Addr).add j) = some u := by
    intro j u hu
    rw [Addr.add_mid, Nat.zero_add]
    rw [List.getElem?_take] at hu
    split at hu
    · exact hcell j u hu
    · cases hu
  have HTK := Lib.hid htk
  clear hl hm hr hrow hcell hcap hmax hll hb ht1 ht2 htk
  go_enter Tryz.func74, Tryz.ntmps74
  go_upto_region 3 with (first
    | ((with_reducible (refine wpList_sl ?_ TPs (.tmp 7) none (some (.tmp 8)) ?_ ?_ ?_ ?_ (S1.out _) ?_)); rfl; rfl; rfl; rfl; rfl)
    | (at_builtin; refine wpList_append_ownAt rfl _ _ TPs TP rfl ti _ Tryz.underlying26 hti hz0 hts hz2 rfl (ownAt_nil.2 (Sat.old w)) ((l.flatMap rpE).take (i * 4)) rfl rfl HT.out.1 HTK.out (fun u hu => HONE.out u (List.mem_of_mem_take hu)) (by unfold maxLen; omega) (by omega) ?_; intro v1 w1 h1))
  simp only [Nat.zero_add, List.nil_append] at h1
  obtain ⟨q1, k1, rfl⟩ := ownAt_slice h1.out.2
  have hb1 := h1.out.1.below_of h1.out.2
  have HB1 := Lib.hid hb1
  have hc2 : ∀ j u, ((l.flatMap rpE).drop ((i + 1) * 4))[j]? = some u → w1.cell? ((if cap = i + 1 then (⟨b, 0, none⟩ : Addr) else ⟨b, 0 + (i + 1) * 4, none⟩).add j) = some u := by
    intro j u hu
    have hu2 := hu
    rw [List.getElem?_drop] at hu
    have hlt := (List.getElem?_eq_some_iff.1 hu2).1
    rw [HT.out.2] at hlt
    rw [if_neg (by omega), Addr.add_mid, Nat.zero_add]
    exact (HB1.out.cell (p := ⟨b, (i + 1) * 4 + j, none⟩) HCELL.out.1).trans (HCELL.out.2 _ u hu)
  have HC2 := Lib.hid hc2
  clear hb1 hc2
  go_wp2_with (first
    | ((with_reducible (refine wpList_sl ?_ TPs (.tmp 12) (some (.tmp 14)) none ?_ ?_ ?_ ?_ (S2.out _) ?_)); rfl; rfl; rfl; rfl; rfl)
    | (at_builtin; refine wpList_append_ownAt rfl _ _ TPs TP rfl ti _ Tryz.underlying26 hti hz0 hts hz2 rfl h1.out.2 ((l.flatMap rpE).drop ((i + 1) * 4)) rfl rfl HT.out.2 (HC2.out) (fun u hu => HONE.out u (List.mem_of_mem_drop hu)) (by unfold maxLen; omega) (by omega) ?_; intro v2 w2 h2))
  all_goals
    go_ret
    have hbl := (h1.out.1.trans h2.out.1).below_of h2.out.2
    refine ⟨_, rfl, hbl, l.eraseIdx i, ?_, ?_, ?_⟩
    · rw [eraseIdx_map_fst, HL.out.1]
    · rw [flat_erase rpE_len, List.length_eraseIdx_of_lt hil]
      have := RowK.own (R := emp) (w := w) (by rw [emp_star]; exact h2.out.2) (by omega)
      rw [show i + (l.length - (i + 1)) = l.length - 1 by omega] at this
      exact this.weaken fun b h _ => .inr h
    · intro x hx
      exact ((HL.out.2.1 x (List.mem_of_mem_eraseIdx hx)).below hbl).weaken fun b h _ => .inl h

theorem news4 (W : World) (a b c d : Value) (T : TypeId) : ∀ (j : Nat) (u : Value), ([a, b, c, d] : List Value)[j]? = some u → (W.alloc (.cells #[a, b, c, d] T)).cell? ((⟨W.heap.size, 0, none⟩ : Addr).add j) = some u := by
  intro j u hu
  rw [Addr.add_mid, cells_at (heap_alloc_new _ _), Nat.zero_add]
  simpa using hu
theorem flat_snoc (l : List ElM) (x : ElM) : (l ++ [x]).flatMap rpE = l.flatMap rpE ++ rpE x := by rw [List.flatMap_append]; simp
structure PutSt (W0 : World) (l : List ElM) (j : Nat) (p : ElM) (v d i : Value) (wr : World) : Prop where
  st : ∃ k : Nat, k ≤ l.length ∧ i = .int .i64 (k : Int) ∧ d = .bool (decide (j < k)) ∧ Same W0 wr ∧ Sat wr (ownAt TP 4 v (putK l j p k).length ((putK l j p k).flatMap rpE) * old W0)
set_option maxRecDepth 20000 in
set_option maxHeartbeats 4000000 in
theorem rput_any (v : Value) (L : List PartM) (a0 a1 a2 : Int) (m : MapM) (pa : Option Addr) (pn pc : Nat) (w : World) {ok : Nat → Prop} (hv : RefL ok w v L) (hn : L.length ≤ 1000) (hp : RowK ok w (.slice pa pn pc) (items m).length ((items m).flatMap refE)) :
    Calls Tryz.prog 73 #[v, .agg #[.int .i64 a0, .int .i64 a1, .int .i64 a2, .slice pa pn pc]] w fun e w' => ∃ v', e = .returned v' ∧ Hid (Below w.heap.size w w' ∧ RefL (newer ok w) w' v' (L.insertIdx (posN L a0) ⟨a0, a1, a2, m⟩)) := by
  obtain ⟨l, hl, hr, hm⟩ := hv
  obtain ⟨ao, cap, rfl, hcap, hmax, hrow⟩ := id hr.rows
  replace hr := hr.rows
  have hll : l.length = L.length := by rw [← hl, List.length_map]
  have hln : l.length ≤ 1000 := by omega
  obtain ⟨ti, hti, hz0, hts, hz2⟩ := info_parts info_TP
  have HL := Lib.hid (And.intro hl (And.intro hm (And.intro hp (And.intro hr hll))))
  clear hl hm hp hr hrow hcap hmax hll
  go_enter Tryz.func73, Tryz.ntmps73
  go_upto_region 1 with (fail)
  have hb0 := (Below.refl w.heap.size w).alloc (Nat.le_refl _) (.cells #[.int .i64 a0, .int .i64 a1, .int .i64 a2, .slice pa pn pc] TP)
  have hbx := heap_alloc_new w (.cells #[.int .i64 a0, .int .i64 a1, .int .i64 a2, .slice pa pn pc] TP)
  have hsz : w.heap.size < (w.alloc (.cells #[.int .i64 a0, .int .i64 a1, .int .i64 a2, .slice pa pn pc] TP)).heap.size := by simp
  generalize w.alloc (.cells #[.int .i64 a0, .int .i64 a1, .int .i64 a2, .slice pa pn pc] TP) = W0 at hb0 hbx hsz ⊢
  generalize hBB : w.heap.size = B at hbx hsz ⊢
  rw [hBB] at hb0
  have HB0 := Lib.hid (And.intro hb0 (And.intro hbx (And.intro hsz hBB)))
  clear hb0 hbx hsz hBB
  go_wp2
  go_loopw [5, 6, 7] (fun v d i wr => PutSt W0 l (posN L a0) (⟨a0, a1, a2, m⟩, .slice pa pn pc) v d i wr) (fun _ _ i _ => l.length - (intOf i).toNat)
  case atStart => exact ⟨⟨0, Nat.zero_le _, rfl, rfl, Same.refl _, by rw [putK_zero]; exact ownAt_nil.2 (Sat.old W0)⟩⟩
  case round =>
    obtain ⟨k, hk, rfl, rfl, hsm, hs⟩ := hrel.st
    clear hrel
    obtain ⟨ra, rc, rfl⟩ := ownAt_slice hs
    have hbw := hsm.below_of hs
    have hpl := putK_len l (posN L a0) k (⟨a0, a1, a2, m⟩, .slice pa pn pc)
    have hblk := (hbw.block B HB0.out.2.2.1).trans HB0.out.2.1
    have b0 := cells_at hblk 0; have b1 := cells_at hblk 1; have b2 := cells_at hblk 2; have b3 := cells_at hblk 3
    have H1 := Lib.hid (And.intro hsm hs)
    clear hsm hs hblk
    by_cases hlt : k < l.length
    · have hltd : decide ((k : Int) < (l.length : Int)) = true := decide_eq_true (by omega)
      have hki : (k : Int) ≤ 1000 := by omega
      obtain ⟨x, hx⟩ : ∃ x, l[k]? = some x := ⟨_, List.getElem?_eq_getElem hlt⟩
      have hxl : L[k]? = some x.1 := by rw [← HL.out.1, List.getElem?_map, hx]; rfl
      obtain ⟨xa, xc, hxs⟩ := (HL.out.2.1 x (List.mem_of_getElem? hx)).slice
      obtain ⟨g, rfl, hg, e0, e1, e2, e3⟩ := rp_cells HL.out.2.2.2.1 hx
      have hbW := HB0.out.1.trans (hbw.mono (by have := HB0.out.2.2.1; omega))
      have hg' : g < B := by rw [← HB0.out.2.2.2]; exact hg
      have HEC := Lib.hid (And.intro hg' (And.intro e0 (And.intro e1 (And.intro e2 e3))))
      have e0 := (hbW.cell (p := ⟨g, k * 4, none⟩) hg').trans e0
      have e1 := (hbW.cell (p := ⟨g, k * 4 + 1, none⟩) hg').trans e1
      have e2 := (hbW.cell (p := ⟨g, k * 4 + 2, none⟩) hg').trans e2
      have e3 := (hbW.cell (p := ⟨g, k * 4 + 3, none⟩) hg').trans e3
      have hps := posN_step (id := a0) hxl
      obtain ⟨⟨xi, xt, xs, xm⟩, xv⟩ := x
      simp only at hxs
      subst hxs
      generalize hxn : (items xm).length = xn at *
      simp only at e0 e1 e2 e3 hps
      rcases Nat.lt_trichotomy k (posN L a0) with hc | hc | hc
      · have hd : decide (posN L a0 < k) = false := decide_eq_false (by omega)
        have hd2 : decide (posN L a0 < k + 1) = false := decide_eq_false (by omega)
        have htd : decide (a0 < xi) = false := decide_eq_false (hps.1 hc)
        have HE := Lib.hid (And.intro (putK_lt (p := (⟨a0, a1, a2, m⟩, .slice pa pn pc)) hx hc) hd2)
        clear hps hx hxl hbw hbW hg hg' hc hd2
        rw [hd]
        go_upto_region 6 with (fail)
        go_quiet (fail)
        go_wp2_with (at_builtin; refine wpList_append_ownAt rfl _ _ TPs TP rfl ti _ Tryz.underlying26 hti hz0 hts hz2 rfl ((H1.out.2.drewN _).allocKeep _) ([.int .i64 xi, .int .i64 xt, .int .i64 xs, .slice xa xn xc]) rfl rfl rfl (news4 _ _ _ _ _ _) (by simp [Value.oneCell']) (by unfold maxLen; omega) (by omega) ?_; intro v2 w2 h2; obtain ⟨r2, k2, rfl⟩ := ownAt_slice h2.out.2)
        refine ⟨⟨⟨k + 1, by omega, by rw [Int.natCast_add]; rfl, by rw [HE.out.2], ((H1.out.1.drewN _).alloc _).trans h2.out.1, by rw [HE.out.1, flat_snoc, List.length_append]; exact h2.out.2⟩⟩, by simp only [intOf]; omega⟩
      · have hd : decide (posN L a0 < k) = false := decide_eq_false (by omega)
        have hd2 : decide (posN L a0 < k + 1) = true := decide_eq_true (by omega)
        have htd : decide (a0 < xi) = true := decide_eq_true (hps.2 hc)
        have HE := Lib.hid (show putK l (posN L a0) (⟨a0, a1, a2, m⟩, .slice pa pn pc) (k + 1) = putK l (posN L a0) (⟨a0, a1, a2, m⟩, .slice pa pn pc) k ++ [(⟨a0, a1, a2, m⟩, .slice pa pn pc)] ++ [(⟨xi, xt, xs, xm⟩, .slice xa xn xc)] ∧ decide (posN L a0 < k + 1) = true from ⟨by rw [← hc]; exact putK_eq hx, hd2⟩)
        clear hps hx hxl hbw hbW hg hg' hc hd2
        rw [hd]
        go_upto_region 6 with (fail)
        go_quiet (fail)
        go_upto_region 9 with (at_builtin; refine wpList_append_ownAt rfl _ _ TPs TP rfl ti _ Tryz.underlying26 hti hz0 hts hz2 rfl ((H1.out.2.drewN _).allocKeep _) ([.int .i64 a0, .int .i64 a1, .int .i64 a2, .slice pa pn pc]) rfl rfl rfl (news4 _ _ _ _ _ _) (by simp [Value.oneCell']) (by unfold maxLen; omega) (by omega) ?_; intro v2 w2 h2; obtain ⟨r2, k2, rfl⟩ := ownAt_slice h2.out.2)
        have hsm2 := ((H1.out.1.drewN _).alloc _).trans h2.out.1
        have hb2 := HB0.out.1.trans ((hsm2.below_of h2.out.2).mono (by have := HB0.out.2.2.1; omega))
        clear e0 e1 e2 e3
        have e0 : w2.cell? ⟨g, k * 4, none⟩ = some (.int .i64 xi) := (hb2.cell (p := ⟨g, k * 4, none⟩) HEC.out.1).trans HEC.out.2.1
        have e1 : w2.cell? ⟨g, k * 4 + 1, none⟩ = some (.int .i64 xt) := (hb2.cell (p := ⟨g, k * 4 + 1, none⟩) HEC.out.1).trans HEC.out.2.2.1
        have e2 : w2.cell? ⟨g, k * 4 + 2, none⟩ = some (.int .i64 xs) := (hb2.cell (p := ⟨g, k * 4 + 2, none⟩) HEC.out.1).trans HEC.out.2.2.2.1
        have e3 : w2.cell? ⟨g, k * 4 + 3, none⟩ = some (.slice xa xn xc) := (hb2.cell (p := ⟨g, k * 4 + 3, none⟩) HEC.out.1).trans HEC.out.2.2.2.2
        clear hb2 hsm2
        go_wp2_with (at_builtin; refine wpList_append_ownAt rfl _ _ TPs TP rfl ti _ Tryz.underlying26 hti hz0 hts hz2 rfl (h2.out.2.allocKeep _) ([.int .i64 xi, .int .i64 xt, .int .i64 xs, .slice xa xn xc]) rfl rfl rfl (news4 _ _ _ _ _ _) (by simp [Value.oneCell']) (by unfold maxLen; omega) (by omega) ?_; intro v3 w3 h3; obtain ⟨r3, k3, rfl⟩ := ownAt_slice h3.out.2)
        refine ⟨⟨⟨k + 1, by omega, by rw [Int.natCast_add]; rfl, by rw [HE.out.2], (((H1.out.1.drewN _).alloc _).trans h2.out.1).trans ((Same.alloc (Same.refl _) _).trans h3.out.1), by rw [HE.out.1, flat_snoc, flat_snoc, List.length_append, List.length_append]; exact h3.out.2⟩⟩, by simp only [intOf]; omega⟩
      · have hd : decide (posN L a0 < k) = true := decide_eq_true (by omega)
        have hd2 : decide (posN L a0 < k + 1) = true := decide_eq_true (by omega)
        have HE := Lib.hid (And.intro (putK_gt (p := (⟨a0, a1, a2, m⟩, .slice pa pn pc)) hx hc) hd2)
        clear hps hx hxl hbw hbW hg hg' hc hd2
        rw [hd]
        go_upto_region 6 with (fail)
        go_quiet (fail)
        go_wp2_with (at_builtin; refine wpList_append_ownAt rfl _ _ TPs TP rfl ti _ Tryz.underlying26 hti hz0 hts hz2 rfl ((H1.out.2.drewN _).allocKeep _) ([.int .i64 xi, .int .i64 xt, .int .i64 xs, .slice xa xn xc]) rfl rfl rfl (news4 _ _ _ _ _ _) (by simp [Value.oneCell']) (by unfold maxLen; omega) (by omega) ?_; intro v2 w2 h2; obtain ⟨r2, k2, rfl⟩ := ownAt_slice h2.out.2)
        refine ⟨⟨⟨k + 1, by omega, by rw [Int.natCast_add]; rfl, by rw [HE.out.2], ((H1.out.1.drewN _).alloc _).trans h2.out.1, by rw [HE.out.1, flat_snoc, List.length_append]; exact h2.out.2⟩⟩, by simp only [intOf]; omega⟩
    · obtain rfl : k = l.length := by omega
      have hltd : decide ((l.length : Int) < (l.length : Int)) = false := decide_eq_false (by omega)
      have hpn : posN L a0 ≤ l.length := by rw [HL.out.2.2.2.2]; exact posN_le L a0
      by_cases hc : posN L a0 < l.length
      · rw [decide_eq_true hc]
        have HE := Lib.hid (And.intro (putK_end (p := (⟨a0, a1, a2, m⟩, .slice pa pn pc)) hc) hc)
        clear hbw hc hpn
        generalize putK l (posN L a0) (⟨a0, a1, a2, m⟩, .slice pa pn pc) l.length = PK at H1 HE ⊢
        go_wp2
        go_ret
        have hbl := H1.out.1.below_of H1.out.2
        refine ⟨_, rfl, ?_, l.insertIdx (posN L a0) (⟨a0, a1, a2, m⟩, .slice pa pn pc), ?_, ?_, ?_⟩
        · rw [HB0.out.2.2.2]; exact HB0.out.1.trans (hbl.mono (by have := HB0.out.2.2.1; omega))
        · rw [insertIdx_map_fst, HL.out.1]
        · have h9 := (RowK.own (R := emp) (w := W0) (by rw [emp_star]; exact H1.out.2) (by omega)).weaken (ok' := newer ok w) (fun b h _ => .inr (Nat.le_trans HB0.out.1.size h))
          rw [← HE.out.1]; exact h9
        · intro x hx
          have hbW := HB0.out.1.trans (hbl.mono (by have := HB0.out.2.2.1; omega))
          rw [← HB0.out.2.2.2] at hbW
          rcases mem_insertIdx_of hx with rfl | hx
          · exact (HL.out.2.2.1.below hbW).weaken fun b h _ => .inl h
          · exact ((HL.out.2.1 x hx).below hbW).weaken fun b h _ => .inl h
      · rw [decide_eq_false hc]
        have HE := Lib.hid (show posN L a0 = l.length by omega)
        clear hbw hc hpn
        go_wp2_with (at_builtin; refine wpList_append_ownAt rfl _ _ TPs TP rfl ti _ Tryz.underlying26 hti hz0 hts hz2 rfl (H1.out.2.allocKeep _) ([.int .i64 a0, .int .i64 a1, .int .i64 a2, .slice pa pn pc]) rfl rfl rfl (news4 _ _ _ _ _ _) (by simp [Value.oneCell']) (by unfold maxLen; omega) (by omega) ?_; intro v2 w2 h2; obtain ⟨r2, k2, rfl⟩ := ownAt_slice h2.out.2)
        go_ret
        have hsm := (H1.out.1.alloc (.cells #[.int .i64 a0, .int .i64 a1, .int .i64 a2, .slice pa pn pc] TP)).trans h2.out.1
        have hbl := hsm.below_of h2.out.2
        refine ⟨_, rfl, ?_, l.insertIdx (posN L a0) (⟨a0, a1, a2, m⟩, .slice pa pn pc), ?_, ?_, ?_⟩
        · rw [HB0.out.2.2.2]; exact HB0.out.1.trans (hbl.mono (by have := HB0.out.2.2.1; omega))
        · rw [insertIdx_map_fst, HL.out.1]
        · have h9 := (RowK.own (R := emp) (w := W0) (by rw [emp_star]; exact h2.out.2) (by omega)).weaken (ok' := newer ok w) (fun b h _ => .inr (Nat.le_trans HB0.out.1.size h))
          have e := putK_all (l := l) (p := (⟨a0, a1, a2, m⟩, .slice pa pn pc)); rw [HE.out]; rw [HE.out] at h9; rw [← e, flat_snoc, List.length_append]; exact h9
        · intro x hx
          have hbW := HB0.out.1.trans (hbl.mono (by have := HB0.out.2.2.1; omega))
          rw [← HB0.out.2.2.2] at hbW
          rcases mem_insertIdx_of hx with rfl | hx
          · exact (HL.out.2.2.1.below hbW).weaken fun b h _ => .inl h
          · exact ((HL.out.2.1 x hx).below hbW).weaken fun b h _ => .inl h
end Go.Proofs.YtednjhlkhecihaaGreatDoor
