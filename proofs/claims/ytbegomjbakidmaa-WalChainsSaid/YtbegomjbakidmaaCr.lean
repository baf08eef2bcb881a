/- crc.table, Extend, Of: what they compute, in terms of a plain function on bytes. -/
import Derived.Test.YtbegomjbakidmaaSw
import Derived.Laws.BitsAllLaws
namespace Go.Proofs.Ytbegomjbakidmaa
open Go.RowKit Go.Sl Go.ChangeMaps

abbrev TTab : TypeId := 138
abbrev TU32 : TypeId := 108
def crcS (r : UInt32) : UInt32 := (r >>> 1) ^^^ (2197175160 &&& (0 - (r &&& 1)))
def crcI : Nat → UInt32 → UInt32
  | 0, r => r
  | k + 1, r => crcS (crcI k r)
def crcT (i : Nat) : UInt32 := crcI 8 (UInt32.ofNat i)
def crcB (r : UInt32) (x : UInt8) : UInt32 := (r >>> 8) ^^^ crcT (UInt8.ofNat r.toNat ^^^ x).toNat
def crcF (l : List UInt8) : UInt32 := l.foldl crcB (~~~0)
def crcM (l : List UInt8) : UInt32 := ~~~(crcF l)
def u32V (r : UInt32) : Value := .int .u32 (r.toNat : Int)
def tabA : Array Value := (Array.range 256).map fun j => u32V (crcT j)
theorem tabA_size : tabA.size = 256 := by simp [tabA]
theorem tabA_at {j : Nat} (h : j < 256) : tabA[j]? = some (u32V (crcT j)) := by simp [tabA, h]
theorem tabA_one : ∀ v ∈ tabA.toList, v.oneCell' = true := by
  intro v hv; simp [tabA] at hv; obtain ⟨j, _, rfl⟩ := hv; rfl

theorem crcS_val (r : UInt32) : bits .xor .u32 ((r.toNat : Int) / 2) (bits .and .u32 2197175160 (-bits .and .u32 (r.toNat : Int) 1 % 4294967296)) = ((crcS r).toNat : Int) := by
  have hr := r.toNat_lt
  have h1 : bits .and .u32 (r.toNat : Int) 1 = (((r &&& 1).toNat : Nat) : Int) := by
    rw [show (1 : Int) = ((1 : Nat) : Int) from rfl, u32_and_nat _ _ hr (by omega), UInt32.toNat_and]; rfl
  rw [h1]
  have h2 : (-(((r &&& 1).toNat : Nat) : Int) % 4294967296) = (((0 - (r &&& 1)).toNat : Nat) : Int) := by
    have := (r &&& 1).toNat_lt
    rw [UInt32.toNat_sub]
    simp only [UInt32.toNat_zero]
    omega
  rw [h2, show (2197175160 : Int) = (((2197175160 : UInt32).toNat : Nat) : Int) from rfl, u32_and_nat _ _ (UInt32.toNat_lt _) (UInt32.toNat_lt _), ← UInt32.toNat_and]
  have h3 : ((r.toNat : Nat) : Int) / (2 : Int) = (((r >>> 1).toNat : Nat) : Int) := by
    rw [UInt32.toNat_shiftRight]
    show _ = ((r.toNat >>> 1 : Nat) : Int)
    rw [Nat.shiftRight_eq_div_pow]; rfl
  refine (congrArg (fun z => bits .xor .u32 z _) h3).trans ?_
  rw [u32_xor_nat _ _ (UInt32.toNat_lt _) (UInt32.toNat_lt _), ← UInt32.toNat_xor]
  rfl
theorem crcB_val (r : UInt32) (x : UInt8) : bits .xor .u32 ((r.toNat : Int) / 256) ((crcT (UInt8.ofNat r.toNat ^^^ x).toNat).toNat : Int) = ((crcB r x).toNat : Int) := by
  have h3 : (r.toNat : Int) / 256 = (((r >>> 8).toNat : Nat) : Int) := by
    rw [UInt32.toNat_shiftRight]
    show _ = ((r.toNat >>> 8 : Nat) : Int)
    rw [Nat.shiftRight_eq_div_pow]; rfl
  refine (congrArg (fun z => bits .xor .u32 z _) h3).trans ?_
  rw [u32_xor_nat _ _ (UInt32.toNat_lt _) (UInt32.toNat_lt _), ← UInt32.toNat_xor]
  rfl

theorem u32_not (r : UInt32) : bits .xor .u32 IntKind.u32.max (r.toNat : Int) = ((~~~r).toNat : Int) := by
  have e : IntKind.u32.max = ((4294967295 : Nat) : Int) := rfl
  rw [e, u32_xor_nat _ _ (by omega) r.toNat_lt]
  congr 1
structure TabSt (w : World) (g : Nat) (F : HProp) (i : Value) (wr : World) : Prop where
  st : ∃ (k : Nat) (cur : Array Value), k ≤ 256 ∧ i = .int .i64 k ∧ Same w wr ∧ cur.size = 256 ∧ (∀ j, j < k → cur[j]? = some (u32V (crcT j))) ∧ Sat wr (pts g (.cells cur TTab (0, 0)) * F)
structure InnSt (i : Nat) (wr w : World) (v i2 : Value) : Prop where
  st : wr = w ∧ ∃ k : Nat, k ≤ 8 ∧ i2 = .int .i64 k ∧ v = u32V (crcI k (UInt32.ofNat i))

def zTab : Array Value := Array.replicate 256 (.int .u32 0)
theorem zeroTab (w : World) : (zeroValue TTab).run Try.prog w = .ok (.agg zTab) w := by kernel_rfl
theorem infoTab {c : Array Value} (h : c.size = 256) : (Try.prog.info? TTab).map (·.size) = some c.size := by rw [h]; kernel_rfl
theorem setCells_self {w : World} {g : Nat} {T : TypeId} : ∀ (vs : List Value) (o : Nat) (c : Array Value), w.heap[g]? = some (.cells c T (0, 0)) → (∀ j v, vs[j]? = some v → c[o + j]? = some v) → w.setCells g o vs = w
  | [], _, _, _, _ => rfl
  | v :: r, o, c, hg, h => by
    have hv : c[o]? = some v := by have := h 0 v rfl; simpa using this
    have e : w.setCell ⟨g, o, none⟩ v = w := by
      have hlt : g < w.heap.size := (Array.getElem?_eq_some_iff.1 hg).1
      unfold World.setCell
      simp only
      congr 1
      apply Array.ext
      · simp
      · intro i h1 h2
        rw [Array.getElem_modify]
        split
        · subst i
          have hgg : w.heap[g] = .cells c T (0, 0) := by rw [Array.getElem?_eq_getElem hlt] at hg; exact Option.some.inj hg
          rw [hgg]
          simp only
          congr 1
          apply Array.ext_getElem?
          intro i
          rw [if_neg (by simp), Array.getElem?_setIfInBounds]
          split
          · subst i; split
            · rw [hv]
            · rename_i h3; have := (Array.getElem?_eq_some_iff.1 hv).1; omega
          · rfl
        · rfl
    rw [World.setCells, e]
    exact setCells_self r (o + 1) c hg (fun j u hj => by have := h (j + 1) u (by simpa using hj); rw [show o + 1 + j = o + (j + 1) by omega]; exact this)

section
variable {ops : Array Oper} {rest : List Oper} {o : Oper} {a : Act} {w : World} {Q : Exit → Act → World → Prop}
theorem wp_load_tab {g : Nat} (hb : w.heap[g]? = some (.cells tabA TTab (0, 0))) (hg : o.guard = none) (x : Operand) (ho : o.op = .load TTab x) (hx : a.eval x = .pointer (some ⟨g, 0, none⟩))
    (k : wpList Try.prog ops Q rest (a.put o.dst (.agg tabA)) w) : wpList Try.prog ops Q (o :: rest) a w :=
  wpList_load_row hg TTab x ho g hx TTab tabA (0, 0) _ hb Try.underlying138 rfl (infoTab tabA_size) k
theorem wp_store_tab {g : Nat} (hb : w.heap[g]? = some (.cells tabA TTab (0, 0))) (hg : o.guard = none) (x y : Operand) (ho : o.op = .store TTab x y) (hx : a.eval x = .pointer (some ⟨g, 0, none⟩)) (hy : a.eval y = .agg tabA)
    (k : wpList Try.prog ops Q rest (a.put o.dst undef) w) : wpList Try.prog ops Q (o :: rest) a w := by
  have hth : w.there g 0 tabA.size := fun j hj => ⟨by rw [Nat.zero_add, cells_at hb]; rw [tabA_size] at hj; rw [tabA_at hj]; rfl, thawed_at hb _⟩
  have hself : w.setCells g 0 tabA.toList = w := setCells_self tabA.toList 0 tabA hb (fun j v h => by rw [Nat.zero_add]; rw [Array.getElem?_toList] at h; exact h)
  refine wpList_store_mid hg TTab x y ho g 0 tabA hx hy hth (infoTab tabA_size) (Array.all_eq_true_iff_forall_mem.2 (fun v hv => tabA_one v (by simpa using hv))) ?_
  rw [hself]; exact k
theorem wp_store_tabf (hg : o.guard = none) (x y : Operand) (ho : o.op = .store TTab x y) (hx : a.eval x = .pointer (some ⟨w.heap.size, 0, none⟩)) (hy : a.eval y = .agg tabA)
    (k : wpList Try.prog ops Q rest (a.put o.dst undef) (w.alloc (.cells tabA TTab))) : wpList Try.prog ops Q (o :: rest) a (w.alloc (.cells zTab TTab)) :=
  wpList_store_fresh hg TTab x y ho TTab _ tabA hx hy (infoTab tabA_size) (by rw [tabA_size]; simp [zTab]) tabA_one k
end

set_option maxRecDepth 100000 in
set_option maxHeartbeats 2000000 in
theorem table_any (F : HProp) (w : World) (hF : Sat w F) : Calls Try.prog 81 #[] w fun e w' => e = .returned (.agg tabA) ∧ Hid (Same w w' ∧ Sat w' F) := by
  have HF := Lib.hid hF
  clear hF
  go_enter Try.func81, Try.ntmps81
  go_upto_region 1 with ((with_reducible (refine wpList_alloc_zero ?_ TTab ?_ _ (zeroTab _) ?_)); rfl; rfl)
  have hst : TabSt w w.heap.size F (.int .i64 0) (w.alloc (.cells zTab TTab)) := ⟨⟨0, zTab, by omega, rfl, (Same.refl w).alloc _, by simp [zTab], by intro j hj; omega, HF.out.alloc _⟩⟩
  have HST := Lib.hid hst
  clear hst
  generalize w.alloc (.cells zTab TTab) = w1 at HST ⊢
  generalize w.heap.size = g at HST ⊢
  go_wp2
  go_loopw [1, 2, 3] (fun _ _ i wr => TabSt w g F i wr) (fun _ _ i _ => 256 - (intOf i).toNat)
  case atStart => exact HST.out
  case round =>
    obtain ⟨k, cur, hk, rfl, hsm, hcz, hcells, hs⟩ := hrel.st
    clear hrel HST
    have HS := Lib.hid (And.intro hsm hs)
    have HC := Lib.hid hcells
    clear hsm hcells
    by_cases hlt : k < 256
    · have hltd : decide ((k : Int) < 256) = true := decide_eq_true (by omega)
      have hk0 : (0 : Int) ≤ (k : Int) := by omega
      have hk1 : (k : Int) < 256 := by omega
      have hku : (k : Int) = ((UInt32.ofNat k).toNat : Int) := by simp; omega
      have HKU := Lib.hid hku
      obtain ⟨u, hu⟩ : ∃ u, cur[k]? = some u := ⟨_, Array.getElem?_eq_getElem (by omega)⟩
      have ck : wr.cell? ⟨g, k, none⟩ = some u := by rw [cells_at hs.block]; exact hu
      have fk : wr.frozen? ⟨g, k, none⟩ = false := thawed_at hs.block _
      clear hs hku hu
      go_upto_region 6 with (fail)
      go_loopw [2, 8] (fun v i2 w' => InnSt k w' wr v i2) (fun _ i2 _ => 8 - (intOf i2).toNat)
      case atStart => exact ⟨rfl, 0, by omega, rfl, by show Value.int .u32 (k : Int) = .int .u32 _; rw [HKU.out]; rfl⟩
      case round =>
        obtain ⟨rfl, m, hm, rfl, rfl⟩ := hrel.st
        clear hrel
        have hrl := (crcI m (UInt32.ofNat k)).toNat_lt
        have hcs := crcS_val (crcI m (UInt32.ofNat k))
        have HCS := Lib.hid (show ((crcS (crcI m (UInt32.ofNat k))).toNat : Int) = ((crcI (m + 1) (UInt32.ofNat k)).toNat : Int) from rfl)
        unfold u32V
        by_cases hlt2 : m < 8
        · have hltd2 : decide ((m : Int) < 8) = true := decide_eq_true (by omega)
          have hm1 : (m : Int) ≤ 8 := by omega
          generalize crcI m (UInt32.ofNat k) = r at hrl hcs HCS ⊢
          have HC2 := Lib.hid hcs
          clear hcs
          go_wp2
          go_roundw
          case rel => exact ⟨rfl, m + 1, by omega, rfl, by rw [HC2.out, HCS.out]; rfl⟩
          case measure => simp only [intOf]; omega
        · obtain rfl : m = 8 := by omega
          have hltd2 : decide (((8 : Nat) : Int) < 8) = false := by decide
          clear hcs HCS
          have hcr : crcI 8 (UInt32.ofNat k) = crcT k := rfl
          rw [hcr]
          clear hcr hrl
          go_wp2
          go_roundw
          case rel =>
            refine ⟨⟨k + 1, cur.setIfInBounds k (u32V (crcT k)), by omega, rfl, HS.out.1.setCell _ _, by rw [Array.size_setIfInBounds]; exact hcz, ?_, HS.out.2.setCell _⟩⟩
            intro j hj
            rw [Array.getElem?_setIfInBounds]
            split
            · rename_i hkj; subst hkj; rw [if_pos (by omega)]
            · exact HC.out j (by omega)
          case measure => simp only [intOf]; omega
    · obtain rfl : k = 256 := by omega
      have hltd : decide (((256 : Nat) : Int) < 256) = false := by decide
      have hcur : cur = tabA := by
        apply Array.ext
        · rw [hcz, tabA_size]
        · intro i h1 h2
          have a := HC.out i (by omega)
          have b := tabA_at (j := i) (by omega)
          rw [Array.getElem?_eq_getElem h1] at a
          rw [Array.getElem?_eq_getElem h2] at b
          exact (Option.some.inj a).trans (Option.some.inj b).symm
      subst hcur
      have hblk := hs.block
      clear hs
      go_wp2_with (first
        | ((with_reducible (apply wp_load_tab hblk)); rfl; rfl; rfl)
        | ((with_reducible (apply wp_store_tab hblk)); rfl; rfl; rfl; rfl))
      refine bodyPost_ret (v := .agg tabA) ?_ rfl ⟨rfl, HS.out.1, HS.out.2.right⟩
      exact results_cell_row Try.results81 _ _ g TTab tabA (0, 0) _ rfl hblk Try.underlying138 rfl (infoTab tabA_size)

structure ExtSt (w : World) (g : Nat) (F : HProp) (bs : List UInt8) (r i : Value) (wr : World) : Prop where
  st : ∃ k : Nat, k ≤ bs.length ∧ i = .int .i64 k ∧ r = u32V ((bs.take k).foldl crcB (~~~0)) ∧ Same w wr ∧ Sat wr (pts g (.cells tabA TTab (0, 0)) * F)
/-- A slice of bytes that reads as a list. -/
def BytesAt (w : World) (v : Value) (l : List UInt8) : Prop := ∃ ao cap, v = .slice ao l.length cap ∧ (l ≠ [] → ∃ b off, ao = some ⟨b, off, none⟩ ∧ ∀ j x, l[j]? = some x → w.cell? ⟨b, off + j, none⟩ = some (byteV x))

set_option maxRecDepth 100000 in
set_option maxHeartbeats 2000000 in
theorem extend_any (v : Value) (bs : List UInt8) (F : HProp) (w : World) (hF : Sat w F) (hb : ∀ w', Sat w' F → BytesAt w' v bs) (hl : bs.length ≤ 4611686018427387904) :
    Calls Try.prog 75 #[.int .u32 0, v] w fun e w' => e = .returned (u32V (crcM bs)) ∧ Hid (Same w w' ∧ Sat w' F) := by
  obtain ⟨ao, cap, rfl, _⟩ := hb w hF
  have HF := Lib.hid hF
  have HB := Lib.hid hb
  have HE := Lib.hid (show crcM bs = ~~~(bs.foldl crcB (~~~0)) from rfl)
  clear hF hb
  go_enter Try.func75, Try.ntmps75
  go_upto_region 2 with (first
    | (go_at_call 81; refine (table_any F w HF.out).mono ?_; rintro e w1 ⟨rfl, h1⟩)
    | ((with_reducible (refine wpList_alloc_zero ?_ TTab ?_ _ (zeroTab _) ?_)); rfl; rfl)
    | ((with_reducible (apply wp_store_tabf)); rfl; rfl; rfl; rfl))
  have hst : ExtSt w w1.heap.size F bs (.int .u32 4294967295) (.int .i64 0) (w1.alloc (.cells tabA TTab)) := ⟨⟨0, Nat.zero_le _, rfl, rfl, h1.out.1.alloc _, h1.out.2.alloc _⟩⟩
  have HST := Lib.hid hst
  clear hst h1 HF
  generalize w1.alloc (.cells tabA TTab) = w2 at HST ⊢
  generalize w1.heap.size = g at HST ⊢
  go_wp2
  go_loopw [6, 8, 14] (fun r _ i wr => ExtSt w g F bs r i wr) (fun _ _ i _ => bs.length - (intOf i).toNat)
  case atStart => exact HST.out
  case round =>
    obtain ⟨k, hk, rfl, rfl, hsm, hs⟩ := hrel.st
    clear hrel HST
    have HS := Lib.hid (And.intro hsm hs)
    clear hsm
    have hrl := ((bs.take k).foldl crcB (~~~0)).toNat_lt
    by_cases hlt : k < bs.length
    · have hltd : decide ((k : Int) < (bs.length : Int)) = true := decide_eq_true (by omega)
      have hk1 : (k : Int) ≤ 4611686018427387904 := by omega
      obtain ⟨x, hx⟩ : ∃ x, bs[k]? = some x := ⟨_, List.getElem?_eq_getElem hlt⟩
      obtain ⟨ao', cap', hv, hcell⟩ := HB.out wr hs.right
      simp only [Value.slice.injEq, true_and] at hv
      obtain ⟨rfl, rfl⟩ := hv
      obtain ⟨b, off, rfl, hc⟩ := hcell (by rintro rfl; simp at hlt)
      have cx := hc k x hx
      unfold byteV at cx
      have hfold : (bs.take (k + 1)).foldl crcB (~~~0) = crcB ((bs.take k).foldl crcB (~~~0)) x := by rw [List.take_add_one, hx]; simp [List.foldl_append]
      have HFO := Lib.hid hfold
      have hxl := x.toNat_lt
      unfold u32V
      generalize (bs.take k).foldl crcB (~~~0) = r at hrl HFO ⊢
      have hix : bits .xor .u8 ((r.toNat : Int) % 256) (x.toNat : Int) = (((UInt8.ofNat r.toNat ^^^ x).toNat : Nat) : Int) := by
        rw [UInt8.toNat_xor, UInt8.toNat_ofNat']
        exact (congrArg (fun z => bits .xor .u8 z (x.toNat : Int)) (Int.natCast_emod r.toNat 256).symm).trans (u8_xor_nat _ _ (by omega) hxl)
      have hcb := crcB_val r x
      have HCB := Lib.hid hcb
      have hil := (UInt8.ofNat r.toNat ^^^ x).toNat_lt
      have cg : wr.cell? ⟨g, (UInt8.ofNat r.toNat ^^^ x).toNat, none⟩ = some (u32V (crcT (UInt8.ofNat r.toNat ^^^ x).toNat)) := by rw [cells_at hs.block]; exact tabA_at hil
      unfold u32V at cg
      generalize (UInt8.ofNat r.toNat ^^^ x).toNat = ix at hix hil cg HCB
      have hi0 : (0 : Int) ≤ (ix : Int) := by omega
      have hi1 : (ix : Int) < 256 := by omega
      clear hs hcell hc hx hfold hcb hil
      go_wp2
      rw [HCB.out]
      refine ⟨⟨k + 1, by omega, rfl, by rw [HFO.out]; rfl, HS.out.1, HS.out.2⟩, by simp only [intOf]; omega⟩
    · obtain rfl : k = bs.length := by omega
      have hltd : decide ((bs.length : Int) < (bs.length : Int)) = false := decide_eq_false (by omega)
      rw [List.take_length] at hrl ⊢
      have HE2 := HE.out
      generalize bs.foldl crcB (~~~0) = r at hrl HE2 ⊢
      have HE3 := Lib.hid HE2
      clear HE2 hs
      unfold u32V
      go_wp2
      go_ret
      exact ⟨by rw [HE3.out, u32_not]; rfl, HS.out.1, HS.out.2.right⟩

theorem of_any (v : Value) (bs : List UInt8) (F : HProp) (w : World) (hF : Sat w F) (hb : ∀ w', Sat w' F → BytesAt w' v bs) (hl : bs.length ≤ 4611686018427387904) :
    Calls Try.prog 58 #[v] w fun e w' => e = .returned (u32V (crcM bs)) ∧ Hid (Same w w' ∧ Sat w' F) := by
  have hx := extend_any v bs F w hF hb hl
  unfold u32V at hx ⊢
  clear hF hb
  go_enter Try.func58, Try.ntmps58
  go_wp2_with (go_at_call 75; refine hx.mono ?_; rintro e w1 ⟨rfl, h1⟩; clear hx)
  go_ret
  exact ⟨rfl, h1⟩

end Go.Proofs.Ytbegomjbakidmaa
