import Derived.Test.YtmcclbiaoeilkaaGreatP10
import Derived.Laws.BitsAllLaws
/- Part 11 of a proof; the last part says what is proved. -/
section
namespace Go.Proofs.YtmcclbiaoeilkaaGreat
open Go.RowKit Go.Sl Go.ChangeMaps
abbrev TTab : TypeId := 181
def crcS (r : UInt32) : UInt32 := (r >>> 1) ^^^ (2197175160 &&& (0 - (r &&& 1)))
def crcI : Nat → UInt32 → UInt32
  | 0, r => r
  | k + 1, r => crcS (crcI k r)
def crcT (i : Nat) : UInt32 := crcI 8 (UInt32.ofNat i)
def crcB (r : UInt32) (x : UInt8) : UInt32 := (r >>> 8) ^^^ crcT (UInt8.ofNat r.toNat ^^^ x).toNat
def crcF (l : List UInt8) : UInt32 := l.foldl crcB (~~~0)
def crcM (l : List UInt8) : UInt32 := ~~~(crcF l)
def u32V (r : UInt32) : Value := .int .u32 (r.toNat : Int)
def tabA : Array Value := (Array.range 256).map fun j => u32V (crcT j)
theorem tabA_size : tabA.size = 256 := by simp [tabA]
theorem tabA_at {j : Nat} (h : j < 256) : tabA[j]? = some (u32V (crcT j)) := by simp [tabA, h]
theorem tabA_one : ∀ v ∈ tabA.toList, v.oneCell' = true := by
  intro v hv; simp [tabA] at hv; obtain ⟨j, _, rfl⟩ := hv; rfl
theorem crcS_val (r : UInt32) : bits .xor .u32 ((r.toNat : Int) / 2) (bits .and .u32 2197175160 (-bits .and .u32 (r.toNat : Int) 1 % 4294967296)) = ((crcS r).toNat : Int) := by
  have hr := r.toNat_lt
  have h1 : bits .and .u32 (r.toNat : Int) 1 = (((r &&& 1).toNat : Nat) : Int) := by
    rw [show (1 : Int) = ((1 : Nat) : Int) from rfl, u32_and_nat _ _ hr (by omega), UInt32.toNat_and]; rfl
  rw [h1]
  have h2 : (-(((r &&& 1).toNat : Nat) : Int) % 4294967296) = (((0 - (r &&& 1)).toNat : Nat) : Int) := by
    have := (r &&& 1).toNat_lt
    rw [UInt32.toNat_sub]
    simp only [UInt32.toNat_zero]
    omega
  rw [h2, show (2197175160 : Int) = (((2197175160 : UInt32).toNat : Nat) : Int) from rfl, u32_and_nat _ _ (UInt32.toNat_lt _) (UInt32.toNat_lt _), ← UInt32.toNat_and]
  have h3 : ((r.toNat : Nat) : Int) / (2 : Int) = (((r >>> 1).toNat : Nat) : Int) := by
    rw [UInt32.toNat_shiftRight]
    show _ = ((r.toNat >>> 1 : Nat) : Int)
    rw [Nat.shiftRight_eq_div_pow]; rfl
  refine (congrArg (fun z => bits .xor .u32 z _) h3).trans ?_
  rw [u32_xor_nat _ _ (UInt32.toNat_lt _) (UInt32.toNat_lt _), ← UInt32.toNat_xor]
  rfl
theorem crcB_val (r : UInt32) (x : UInt8) : bits .xor .u32 ((r.toNat : Int) / 256) ((crcT (UInt8.ofNat r.toNat ^^^ x).toNat).toNat : Int) = ((crcB r x).toNat : Int) := by
  have h3 : (r.toNat : Int) / 256 = (((r >>> 8).toNat : Nat) : Int) := by
    rw [UInt32.toNat_shiftRight]
    show _ = ((r.toNat >>> 8 : Nat) : Int)
    rw [Nat.shiftRight_eq_div_pow]; rfl
  refine (congrArg (fun z => bits .xor .u32 z _) h3).trans ?_
  rw [u32_xor_nat _ _ (UInt32.toNat_lt _) (UInt32.toNat_lt _), ← UInt32.toNat_xor]
  rfl
theorem u32_not (r : UInt32) : bits .xor .u32 IntKind.u32.max (r.toNat : Int) = ((~~~r).toNat : Int) := by
  have e : IntKind.u32.max = ((4294967295 : Nat) : Int) := rfl
  rw [e, u32_xor_nat _ _ (by omega) r.toNat_lt]
  congr 1
structure TabSt (w : World) (g : Nat) (F : HProp) (i : Value) (wr : World) : Prop where
  st : ∃ (k : Nat) (cur : Array Value), k ≤ 256 ∧ i = .int .i64 k ∧ Same w wr ∧ cur.size = 256 ∧ (∀ j, j < k → cur[j]? = some (u32V (crcT j))) ∧ Sat wr (pts g (.cells cur TTab (0, 0)) * F)
structure InnSt (i : Nat) (wr w : World) (v i2 : Value) : Prop where
  st : wr = w ∧ ∃ k : Nat, k ≤ 8 ∧ i2 = .int .i64 k ∧ v = u32V (crcI k (UInt32.ofNat i))
def zTab : Array Value := Array.replicate 256 (.int .u32 0)
theorem zeroTab (w : World) : (zeroValue TTab).run Tryz.prog w = .ok (.agg zTab) w := by kernel_rfl
theorem infoTab {c : Array Value} (h : c.size = 256) : (Tryz.prog.info? TTab).map (·.size) = some c.size := by rw [h]; kernel_rfl
theorem setCells_self {w : World} {g : Nat} {T : TypeId} : ∀ (vs : List Value) (o : Nat) (c : Array Value), w.heap[g]? = some (.cells c T (0, 0)) → (∀ j v, vs[j]? = some v → c[o + j]? = some v) → w.setCells g o vs = w
  | [], _, _, _, _ => rfl
  | v :: r, o, c, hg, h => by
    have hv : c[o]? = some v := by have := h 0 v rfl; simpa using this
    have e : w.setCell ⟨g, o, none⟩ v = w := by
      have hlt : g < w.heap.size := (Array.getElem?_eq_some_iff.1 hg).1
      unfold World.setCell
      simp only
      congr 1
      apply Array.ext
      · simp
      · intro i h1 h2
        rw [Array.getElem_modify]
        split
        · subst i
          have hgg : w.heap[g] = .cells c T (0, 0) := by rw [Array.getElem?_eq_getElem hlt] at hg; exact Option.some.inj hg
          rw [hgg]
          simp only
          congr 1
          apply Array.ext_getElem?
          intro i
          rw [if_neg (by simp), Array.getElem?_setIfInBounds]
          split
          · subst i; split
            · rw [hv]
            · rename_i h3; have := (Array.getElem?_eq_some_iff.1 hv).1; omega
          · rfl
        · rfl
    rw [World.setCells, e]
    exact setCells_self r (o + 1) c hg (fun j u hj => by have := h (j + 1) u (by simpa using hj); rw [show o + 1 + j = o + (j + 1) by omega]; exact this)
section
variable {ops : Array Oper} {rest : List Oper} {o : Oper} {a : Act} {w : World} {Q : Exit → Act → World → Prop}
theorem wp_load_tab {g : Nat} (hb : w.heap[g]? = some (.cells tabA TTab (0, 0))) (hg : o.guard = none) (x : Operand) (ho : o.op = .load TTab x) (hx : a.eval x = .pointer (some ⟨g, 0, none⟩))
    (k : wpList Tryz.prog ops Q rest (a.put o.dst (.agg tabA)) w) : wpList Tryz.prog ops Q (o :: rest) a w :=
  wpList_load_row hg TTab x ho g hx TTab tabA (0, 0) _ hb Tryz.underlying181 rfl (infoTab tabA_size) k
theorem wp_store_tab {g : Nat} (hb : w.heap[g]? = some (.cells tabA TTab (0, 0))) (hg : o.guard = none) (x y : Operand) (ho : o.op = .store TTab x y) (hx : a.eval x = .pointer (some ⟨g, 0, none⟩)) (hy : a.eval y = .agg tabA)
    (k : wpList Tryz.prog ops Q rest (a.put o.dst undef) w) : wpList Tryz.prog ops Q (o :: rest) a w := by
  have hth : w.there g 0 tabA.size := fun j hj => ⟨by rw [Nat.zero_add, cells_at hb]; rw [tabA_size] at hj; rw [tabA_at hj]; rfl, thawed_at hb _⟩
  have hself : w.setCells g 0 tabA.toList = w := setCells_self tabA.toList 0 tabA hb (fun j v h => by rw [Nat.zero_add]; rw [Array.getElem?_toList] at h; exact h)
  refine wpList_store_mid hg TTab x y ho g 0 tabA hx hy hth (infoTab tabA_size) (Array.all_eq_true_iff_forall_mem.2 (fun v hv => tabA_one v (by simpa using hv))) ?_
  rw [hself]; exact k
theorem wp_store_tabf (hg : o.guard = none) (x y : Operand) (ho : o.op = .store TTab x y) (hx : a.eval x = .pointer (some ⟨w.heap.size, 0, none⟩)) (hy : a.eval y = .agg tabA)
    (k : wpList Tryz.prog ops Q rest (a.put o.dst undef) (w.alloc (.cells tabA TTab))) : wpList Tryz.prog ops Q (o :: rest) a (w.alloc (.cells zTab TTab)) :=
  wpList_store_fresh hg TTab x y ho TTab _ tabA hx hy (infoTab tabA_size) (by rw [tabA_size]; simp [zTab]) tabA_one k
end
set_option maxRecDepth 100000 in
set_option maxHeartbeats 2000000 in
theorem table_any (F : HProp) (w : World) (hF : Sat w F) : Calls Tryz.prog 159 #[] w fun e w' => e = .returned (.agg tabA) ∧ Hid (Same w w' ∧ Sat w' F) := by
  have HF := Lib.hid hF
  clear hF
  go_enter Tryz.func159, Tryz.ntmps159
  go_upto_region 1 with ((with_reducible (refine wpList_alloc_zero ?_ TTab ?_ _ (zeroTab _) ?_)); rfl; rfl)
  have hst : TabSt w w.heap.size F (.int .i64 0) (w.alloc (.cells zTab TTab)) := ⟨⟨0, zTab, by omega, rfl, (Same.refl w).alloc _, by simp [zTab], by intro j hj; omega, HF.out.alloc _⟩⟩
  have HST := Lib.hid hst
  clear hst
  generalize w.alloc (.cells zTab TTab) = w1 at HST ⊢
  generalize w.heap.size = g at HST ⊢
  go_wp2
  go_loopw [1, 2, 3] (fun _ _ i wr => TabSt w g F i wr) (fun _ _ i _ => 256 - (intOf i).toNat)
  case atStart => exact HST.out
  case round =>
    obtain ⟨k, cur, hk, rfl, hsm, hcz, hcells, hs⟩ := hrel.st
    clear hrel HST
    have HS := Lib.hid (And.intro hsm hs)
    have HC := Lib.hid hcells
    clear hsm hcells
    by_cases hlt : k < 256
    · have hltd : decide ((k : Int) < 256) = true := decide_eq_true (by omega)
      have hk0 : (0 : Int) ≤ (k : Int) := by omega
      have hk1 : (k : Int) < 256 := by omega
      have hku : (k : Int) = ((UInt32.ofNat k).toNat : Int) := by simp; omega
      have HKU := Lib.hid hku
      obtain ⟨u, hu⟩ : ∃ u, cur[k]? = some u := ⟨_, Array.getElem?_eq_getElem (by omega)⟩
      have ck : wr.cell? ⟨g, k, none⟩ = some u := by rw [cells_at hs.block]; exact hu
      have fk : wr.frozen? ⟨g, k, none⟩ = false := thawed_at hs.block _
      clear hs hku hu
      go_upto_region 6 with (fail)
      go_loopw [2, 8] (fun v i2 w' => InnSt k w' wr v i2) (fun _ i2 _ => 8 - (intOf i2).toNat)
      case atStart => exact ⟨rfl, 0, by omega, rfl, by show Value.int .u32 (k : Int) = .int .u32 _; rw [HKU.out]; rfl⟩
      case round =>
        obtain ⟨rfl, m, hm, rfl, rfl⟩ := hrel.st
        clear hrel
        have hrl := (crcI m (UInt32.ofNat k)).toNat_lt
        have hcs := crcS_val (crcI m (UInt32.ofNat k))
        have HCS := Lib.hid (show ((crcS (crcI m (UInt32.ofNat k))).toNat : Int) = ((crcI (m + 1) (UInt32.ofNat k)).toNat : Int) from rfl)
        unfold u32V
        by_cases hlt2 : m < 8
        · have hltd2 : decide ((m : Int) < 8) = true := decide_eq_true (by omega)
          have hm1 : (m : Int) ≤ 8 := by omega
          generalize crcI m (UInt32.ofNat k) = r at hrl hcs HCS ⊢
          have HC2 := Lib.hid hcs
          clear hcs
          go_wp2
          go_roundw
          case rel => exact ⟨rfl, m + 1, by omega, rfl, by rw [HC2.out, HCS.out]; rfl⟩
          case measure => simp only [intOf]; omega
        · obtain rfl : m = 8 := by omega
          have hltd2 : decide (((8 : Nat) : Int) < 8) = false := by decide
          clear hcs HCS
          have hcr : crcI 8 (UInt32.ofNat k) = crcT k := rfl
          rw [hcr]
          clear hcr hrl
          go_wp2
          go_roundw
          case rel =>
            refine ⟨⟨k + 1, cur.setIfInBounds k (u32V (crcT k)), by omega, rfl, HS.out.1.setCell _ _, by rw [Array.size_setIfInBounds]; exact hcz, ?_, HS.out.2.setCell _⟩⟩
            intro j hj
            rw [Array.getElem?_setIfInBounds]
            split
            · rename_i hkj; subst hkj; rw [if_pos (by omega)]
            · exact HC.out j (by omega)
          case measure => simp only [intOf]; omega
    · obtain rfl : k = 256 := by omega
      have hltd : decide (((256 : Nat) : Int) < 256) = false := by decide
      have hcur : cur = tabA := by
        apply Array.ext
        · rw [hcz, tabA_size]
        · intro i h1 h2
          have a := HC.out i (by omega)
          have b := tabA_at (j := i) (by omega)
          rw [Array.getElem?_eq_getElem h1] at a
          rw [Array.getElem?_eq_getElem h2] at b
          exact (Option.some.inj a).trans (Option.some.inj b).symm
      subst hcur
      have hblk := hs.block
      clear hs
      go_wp2_with (first
        | ((with_reducible (apply wp_load_tab hblk)); rfl; rfl; rfl)
        | ((with_reducible (apply wp_store_tab hblk)); rfl; rfl; rfl; rfl))
      refine bodyPost_ret (v := .agg tabA) ?_ rfl ⟨rfl, HS.out.1, HS.out.2.right⟩
      exact results_cell_row Tryz.results159 _ _ g TTab tabA (0, 0) _ rfl hblk Tryz.underlying181 rfl (infoTab tabA_size)
structure ExtSt (w : World) (g : Nat) (F : HProp) (bs : List UInt8) (r i : Value) (wr : World) : Prop where
  st : ∃ k : Nat, k ≤ bs.length ∧ i = .int .i64 k ∧ r = u32V ((bs.take k).foldl crcB (~~~0)) ∧ Same w wr ∧ Sat wr (pts g (.cells tabA TTab (0, 0)) * F)
def BytesAt (w : World) (v : Value) (l : List UInt8) : Prop := ∃ ao cap, v = .slice ao l.length cap ∧ (l ≠ [] → ∃ b off, ao = some ⟨b, off, none⟩ ∧ ∀ j x, l[j]? = some x → w.cell? ⟨b, off + j, none⟩ = some (byteV x))
set_option maxRecDepth 100000 in
set_option maxHeartbeats 2000000 in
theorem extend_any (v : Value) (bs : List UInt8) (F : HProp) (w : World) (hF : Sat w F) (hb : ∀ w', Sat w' F → BytesAt w' v bs) (hl : bs.length ≤ 4611686018427387904) :
    Calls Tryz.prog 153 #[.int .u32 0, v] w fun e w' => e = .returned (u32V (crcM bs)) ∧ Hid (Same w w' ∧ Sat w' F) := by
  obtain ⟨ao, cap, rfl, _⟩ := hb w hF
  have HF := Lib.hid hF
  have HB := Lib.hid hb
  have HE := Lib.hid (show crcM bs = ~~~(bs.foldl crcB (~~~0)) from rfl)
  clear hF hb
  go_enter Tryz.func153, Tryz.ntmps153
  go_upto_region 2 with (first
    | (go_at_call 159; refine (table_any F w HF.out).mono ?_; rintro e w1 ⟨rfl, h1⟩)
    | ((with_reducible (refine wpList_alloc_zero ?_ TTab ?_ _ (zeroTab _) ?_)); rfl; rfl)
    | ((with_reducible (apply wp_store_tabf)); rfl; rfl; rfl; rfl))
  have hst : ExtSt w w1.heap.size F bs (.int .u32 4294967295) (.int .i64 0) (w1.alloc (.cells tabA TTab)) := ⟨⟨0, Nat.zero_le _, rfl, rfl, h1.out.1.alloc _, h1.out.2.alloc _⟩⟩
  have HST := Lib.hid hst
  clear hst h1 HF
  generalize w1.alloc (.cells tabA TTab) = w2 at HST ⊢
  generalize w1.heap.size = g at HST ⊢
  go_wp2
  go_loopw [6, 8, 14] (fun r _ i wr => ExtSt w g F bs r i wr) (fun _ _ i _ => bs.length - (intOf i).toNat)
  case atStart => exact HST.out
  case round =>
    obtain ⟨k, hk, rfl, rfl, hsm, hs⟩ := hrel.st
    clear hrel HST
    have HS := Lib.hid (And.intro hsm hs)
    clear hsm
    have hrl := ((bs.take k).foldl crcB (~~~0)).toNat_lt
    by_cases hlt : k < bs.length
    · have hltd : decide ((k : Int) < (bs.length : Int)) = true := decide_eq_true (by omega)
      have hk1 : (k : Int) ≤ 4611686018427387904 := by omega
      obtain ⟨x, hx⟩ : ∃ x, bs[k]? = some x := ⟨_, List.getElem?_eq_getElem hlt⟩
      obtain ⟨ao', cap', hv, hcell⟩ := HB.out wr hs.right
      simp only [Value.slice.injEq, true_and] at hv
      obtain ⟨rfl, rfl⟩ := hv
      obtain ⟨b, off, rfl, hc⟩ := hcell (by rintro rfl; simp at hlt)
      have cx := hc k x hx
      unfold byteV at cx
      have hfold : (bs.take (k + 1)).foldl crcB (~~~0) = crcB ((bs.take k).foldl crcB (~~~0)) x := by rw [List.take_add_one, hx]; simp [List.foldl_append]
      have HFO := Lib.hid hfold
      have hxl := x.toNat_lt
      unfold u32V
      generalize (bs.take k).foldl crcB (~~~0) = r at hrl HFO ⊢
      have hix : bits .xor .u8 ((r.toNat : Int) % 256) (x.toNat : Int) = (((UInt8.ofNat r.toNat ^^^ x).toNat : Nat) : Int) := by
        rw [UInt8.toNat_xor, UInt8.toNat_ofNat']
        exact (congrArg (fun z => bits .xor .u8 z (x.toNat : Int)) (Int.natCast_emod r.toNat 256).symm).trans (u8_xor_nat _ _ (by omega) hxl)
      have hcb := crcB_val r x
      have HCB := Lib.hid hcb
      have hil := (UInt8.ofNat r.toNat ^^^ x).toNat_lt
      have cg : wr.cell? ⟨g, (UInt8.ofNat r.toNat ^^^ x).toNat, none⟩ = some (u32V (crcT (UInt8.ofNat r.toNat ^^^ x).toNat)) := by rw [cells_at hs.block]; exact tabA_at hil
      unfold u32V at cg
      generalize (UInt8.ofNat r.toNat ^^^ x).toNat = ix at hix hil cg HCB
      have hi0 : (0 : Int) ≤ (ix : Int) := by omega
      have hi1 : (ix : Int) < 256 := by omega
      clear hs hcell hc hx hfold hcb hil
      go_wp2
      rw [HCB.out]
      refine ⟨⟨k + 1, by omega, rfl, by rw [HFO.out]; rfl, HS.out.1, HS.out.2⟩, by simp only [intOf]; omega⟩
    · obtain rfl : k = bs.length := by omega
      have hltd : decide ((bs.length : Int) < (bs.length : Int)) = false := decide_eq_false (by omega)
      rw [List.take_length] at hrl ⊢
      have HE2 := HE.out
      generalize bs.foldl crcB (~~~0) = r at hrl HE2 ⊢
      have HE3 := Lib.hid HE2
      clear HE2 hs
      unfold u32V
      go_wp2
      go_ret
      exact ⟨by rw [HE3.out, u32_not]; rfl, HS.out.1, HS.out.2.right⟩
theorem of_any (v : Value) (bs : List UInt8) (F : HProp) (w : World) (hF : Sat w F) (hb : ∀ w', Sat w' F → BytesAt w' v bs) (hl : bs.length ≤ 4611686018427387904) :
    Calls Tryz.prog 137 #[v] w fun e w' => e = .returned (u32V (crcM bs)) ∧ Hid (Same w w' ∧ Sat w' F) := by
  have hx := extend_any v bs F w hF hb hl
  unfold u32V at hx ⊢
  clear hF hb
  go_enter Tryz.func137, Tryz.ntmps137
  go_wp2_with (go_at_call 153; refine hx.mono ?_; rintro e w1 ⟨rfl, h1⟩; clear hx)
  go_ret
  exact ⟨rfl, h1⟩
end Go.Proofs.YtmcclbiaoeilkaaGreat
end
section
namespace Go.Proofs.YtmcclbiaoeilkaaGreat
open Go.RowKit Go.Sl Go.ChangeMaps
abbrev TByte : TypeId := 5
def ownB (v : Value) (l : List UInt8) : HProp := ownAt TByte 1 v l.length (secL l)
def leB (n k : Nat) : UInt8 := UInt8.ofNat (n / 256 ^ k)
def leL (n m : Nat) : List UInt8 := (List.range m).map (leB n)
theorem leL_length (n m : Nat) : (leL n m).length = m := by simp [leL]
theorem leL_succ (n m : Nat) : leL n (m + 1) = leL n m ++ [leB n m] := by simp [leL, List.range_succ]
theorem leB_val (n k : Nat) : (((n / 256 ^ k : Nat) : Int) % 256) = ((leB n k).toNat : Int) := by
  unfold leB
  rw [UInt8.toNat_ofNat']
  omega
theorem ownB_bytes {w : World} {v : Value} {l : List UInt8} {X : HProp} (h : Sat w (ownB v l * X)) : BytesAt w v l := by
  obtain ⟨ao, cap, rfl⟩ := ownAt_slice h
  refine ⟨ao, cap, rfl, fun hne => ?_⟩
  obtain ⟨g, cap', hv, hc⟩ := ownAt_cells h (by cases l; exact absurd rfl hne; simp)
  simp only [Value.slice.injEq, true_and] at hv
  obtain ⟨rfl, rfl⟩ := hv
  refine ⟨g, 0, rfl, fun j x hj => ?_⟩
  rw [Nat.zero_add]
  exact hc j _ (by simp [secL, hj])
theorem ownB_nil {w : World} {X : HProp} : Sat w (ownB (.slice none 0 0) [] * X) ↔ Sat w X := ownAt_nil
theorem infoB3 : (Tryz.prog.info? TByte).map (fun i => (i.zero, i.size, i.bytes)) = some (some (.int .u8 0), 1, 1) := by kernel_rfl
structure SzSt (f : Nat → Int) (m : Nat) (w0 : World) (n x : Value) (wr : World) : Prop where
  st : wr = w0 ∧ ∃ k : Nat, k ≤ m ∧ n = .int .i64 k ∧ x = .int .u64 (f k)
def sz4 (k : Nat) : Int := match k with | 0 => 4294967295 | 1 => 16777215 | 2 => 65535 | 3 => 255 | _ => 0
def sz2 (k : Nat) : Int := match k with | 0 => 65535 | 1 => 255 | _ => 0
set_option maxHeartbeats 400000 in
theorem sizeOf4 (w : World) : Calls Tryz.prog 152 #[] w fun e w' => e = .returned (.int .i64 4) ∧ w = w' := by
  go_enter Tryz.func152, Tryz.ntmps152
  go_wp2
  go_loopw [1, 2] (fun n x wr => SzSt sz4 4 w n x wr) (fun n _ _ => 4 - (intOf n).toNat)
  case atStart => exact ⟨rfl, 0, by omega, rfl, rfl⟩
  case round =>
    obtain ⟨rfl, k, hk, rfl, rfl⟩ := hrel.st
    clear hrel
    rcases (show k = 0 ∨ k = 1 ∨ k = 2 ∨ k = 3 ∨ k = 4 by omega) with rfl | rfl | rfl | rfl | rfl
    · unfold sz4
      go_wp2
      go_roundw
      case rel => exact ⟨rfl, 1, by omega, rfl, rfl⟩
      case measure => simp [intOf]
    · unfold sz4
      go_wp2
      go_roundw
      case rel => exact ⟨rfl, 2, by omega, rfl, rfl⟩
      case measure => simp [intOf]
    · unfold sz4
      go_wp2
      go_roundw
      case rel => exact ⟨rfl, 3, by omega, rfl, rfl⟩
      case measure => simp [intOf]
    · unfold sz4
      go_wp2
      go_roundw
      case rel => exact ⟨rfl, 4, by omega, rfl, rfl⟩
      case measure => simp [intOf]
    · unfold sz4
      go_wp2
      go_ret
      exact ⟨rfl, rfl⟩
set_option maxHeartbeats 400000 in
theorem sizeOf2 (w : World) : Calls Tryz.prog 151 #[] w fun e w' => e = .returned (.int .i64 2) ∧ w = w' := by
  go_enter Tryz.func151, Tryz.ntmps151
  go_wp2
  go_loopw [1, 2] (fun n x wr => SzSt sz2 2 w n x wr) (fun n _ _ => 2 - (intOf n).toNat)
  case atStart => exact ⟨rfl, 0, by omega, rfl, rfl⟩
  case round =>
    obtain ⟨rfl, k, hk, rfl, rfl⟩ := hrel.st
    clear hrel
    rcases (show k = 0 ∨ k = 1 ∨ k = 2 by omega) with rfl | rfl | rfl
    · unfold sz2
      go_wp2
      go_roundw
      case rel => exact ⟨rfl, 1, by omega, rfl, rfl⟩
      case measure => simp [intOf]
    · unfold sz2
      go_wp2
      go_roundw
      case rel => exact ⟨rfl, 2, by omega, rfl, rfl⟩
      case measure => simp [intOf]
    · unfold sz2
      go_wp2
      go_ret
      exact ⟨rfl, rfl⟩
structure PutSt (w : World) (K : IntKind) (l : List UInt8) (n m : Nat) (F : HProp) (b x i : Value) (wr : World) : Prop where
  st : ∃ k : Nat, k ≤ m ∧ i = .int .i64 k ∧ x = .int K ((n / 256 ^ k : Nat) : Int) ∧ Same w wr ∧ Sat wr (ownB b (l ++ leL n k) * F)
set_option maxHeartbeats 1000000 in
theorem put4_any (v : Value) (l : List UInt8) (n : Nat) (hn : n < 4294967296) (hl : l.length ≤ 1000000) (F : HProp) (w : World) (hS : Sat w (ownB v l * F)) :
    Calls Tryz.prog 136 #[v, .int .u32 (n : Int)] w fun e w' => ∃ v', e = .returned v' ∧ Hid (Same w w' ∧ Sat w' (ownB v' (l ++ leL n 4) * F)) := by
  obtain ⟨ti, hti, hz0, hts, hz2⟩ := info_parts infoB3
  have HS := Lib.hid hS
  clear hS
  go_enter Tryz.func136, Tryz.ntmps136
  go_wp2_with (go_at_call 152; refine (sizeOf4 _).mono ?_; rintro e w' ⟨rfl, rfl⟩)
  go_loopw [0, 1, 6] (fun b x i wr => PutSt w .u32 l n 4 F b x i wr) (fun _ _ i _ => 4 - (intOf i).toNat)
  case atStart => exact ⟨⟨0, by omega, rfl, by simp, Same.refl w, by simpa [leL] using HS.out⟩⟩
  case round =>
    obtain ⟨k, hk, rfl, rfl, hsm, hs⟩ := hrel.st
    clear hrel HS
    have H1 := Lib.hid (And.intro hsm hs)
    obtain ⟨ao, cap, rfl⟩ := ownAt_slice hs
    clear hsm hs
    by_cases hlt : k < 4
    · have hltd : decide ((k : Int) < 4) = true := decide_eq_true (by omega)
      have hk1 : (k : Int) ≤ 4 := by omega
      have hml : n / 256 ^ k < 4294967296 := Nat.lt_of_le_of_lt (Nat.div_le_self _ _) hn
      have hlb := leB_val n k
      have hsucc : n / 256 ^ k / 256 = n / 256 ^ (k + 1) := by rw [Nat.div_div_eq_div_mul, Nat.pow_succ]
      have HLB := Lib.hid hlb
      have HSU := Lib.hid hsucc
      have HLEN := Lib.hid (show (l ++ leL n k).length ≤ 1000004 by rw [List.length_append, leL_length]; omega)
      clear hlb hsucc hl
      generalize n / 256 ^ k = m at hml HLB HSU ⊢
      have hm0 : (0 : Int) ≤ (m : Int) := by omega
      have hm1 : (m : Int) < 4294967296 := by omega
      go_wp2_with (at_builtin; rw [HLB.out]; refine wpList_append_ownAt (F := F) rfl _ _ 69 TByte rfl ti _ Tryz.underlying69 hti hz0 hts hz2 rfl (H1.out.2.allocKeep _) [.int .u8 ((leB n k).toNat : Int)] rfl rfl rfl ?_ (by simp [Value.oneCell']) (by have := HLEN.out; unfold maxLen; omega) (by have := HLEN.out; omega) ?_)
      · intro j u hu
        match j, hu with
        | 0, hu => rw [Addr.add_mid, cells_at (heap_alloc_new _ _)]; simpa using hu
      intro v' w2 h2
      replace H1 := Lib.hid (And.intro ((H1.out.1.alloc _).trans h2.out.1) h2.out.2)
      clear h2
      go_wp2
      refine ⟨⟨k + 1, by omega, rfl, by rw [← HSU.out]; congr 1, H1.out.1, ?_⟩, by simp only [intOf]; omega⟩
      have e : secL (l ++ leL n (k + 1)) = secL (l ++ leL n k) ++ [.int .u8 ((leB n k).toNat : Int)] := by simp [secL, leL_succ, byteV]
      unfold ownB
      rw [e, List.length_append, leL_length]
      have := H1.out.2
      rw [leL_length, Nat.add_assoc] at this
      exact this
    · obtain rfl : k = 4 := by omega
      have hltd : decide (((4 : Nat) : Int) < 4) = false := by decide
      go_wp2
      go_ret
      exact ⟨_, rfl, H1.out⟩
set_option maxHeartbeats 1000000 in
theorem put2_any (v : Value) (l : List UInt8) (n : Nat) (hn : n < 65536) (hl : l.length ≤ 1000000) (F : HProp) (w : World) (hS : Sat w (ownB v l * F)) :
    Calls Tryz.prog 135 #[v, .int .u16 (n : Int)] w fun e w' => ∃ v', e = .returned v' ∧ Hid (Same w w' ∧ Sat w' (ownB v' (l ++ leL n 2) * F)) := by
  obtain ⟨ti, hti, hz0, hts, hz2⟩ := info_parts infoB3
  have HS := Lib.hid hS
  clear hS
  go_enter Tryz.func135, Tryz.ntmps135
  go_wp2_with (go_at_call 151; refine (sizeOf2 _).mono ?_; rintro e w' ⟨rfl, rfl⟩)
  go_loopw [0, 1, 6] (fun b x i wr => PutSt w .u16 l n 2 F b x i wr) (fun _ _ i _ => 2 - (intOf i).toNat)
  case atStart => exact ⟨⟨0, by omega, rfl, by simp, Same.refl w, by simpa [leL] using HS.out⟩⟩
  case round =>
    obtain ⟨k, hk, rfl, rfl, hsm, hs⟩ := hrel.st
    clear hrel HS
    have H1 := Lib.hid (And.intro hsm hs)
    obtain ⟨ao, cap, rfl⟩ := ownAt_slice hs
    clear hsm hs
    by_cases hlt : k < 2
    · have hltd : decide ((k : Int) < 2) = true := decide_eq_true (by omega)
      have hk1 : (k : Int) ≤ 2 := by omega
      have hml : n / 256 ^ k < 65536 := Nat.lt_of_le_of_lt (Nat.div_le_self _ _) hn
      have hlb := leB_val n k
      have hsucc : n / 256 ^ k / 256 = n / 256 ^ (k + 1) := by rw [Nat.div_div_eq_div_mul, Nat.pow_succ]
      have HLB := Lib.hid hlb
      have HSU := Lib.hid hsucc
      have HLEN := Lib.hid (show (l ++ leL n k).length ≤ 1000004 by rw [List.length_append, leL_length]; omega)
      clear hlb hsucc hl
      generalize n / 256 ^ k = m at hml HLB HSU ⊢
      have hm0 : (0 : Int) ≤ (m : Int) := by omega
      have hm1 : (m : Int) < 65536 := by omega
      go_wp2_with (at_builtin; rw [HLB.out]; refine wpList_append_ownAt (F := F) rfl _ _ 69 TByte rfl ti _ Tryz.underlying69 hti hz0 hts hz2 rfl (H1.out.2.allocKeep _) [.int .u8 ((leB n k).toNat : Int)] rfl rfl rfl ?_ (by simp [Value.oneCell']) (by have := HLEN.out; unfold maxLen; omega) (by have := HLEN.out; omega) ?_)
      · intro j u hu
        match j, hu with
        | 0, hu => rw [Addr.add_mid, cells_at (heap_alloc_new _ _)]; simpa using hu
      intro v' w2 h2
      replace H1 := Lib.hid (And.intro ((H1.out.1.alloc _).trans h2.out.1) h2.out.2)
      clear h2
      go_wp2
      refine ⟨⟨k + 1, by omega, rfl, by rw [← HSU.out]; congr 1, H1.out.1, ?_⟩, by simp only [intOf]; omega⟩
      have e : secL (l ++ leL n (k + 1)) = secL (l ++ leL n k) ++ [.int .u8 ((leB n k).toNat : Int)] := by simp [secL, leL_succ, byteV]
      unfold ownB
      rw [e, List.length_append, leL_length]
      have := H1.out.2
      rw [leL_length, Nat.add_assoc] at this
      exact this
    · obtain rfl : k = 2 := by omega
      have hltd : decide (((2 : Nat) : Int) < 2) = false := by decide
      go_wp2
      go_ret
      exact ⟨_, rfl, H1.out⟩
theorem i64_or_nat (a b : Nat) (ha : a < 4611686018427387904) (hb : b < 4611686018427387904) : bits .or .i64 (a : Int) (b : Int) = ((a ||| b : Nat) : Int) := by
  have hx : a ||| b < 2 ^ 62 := Nat.or_lt_two_pow (by omega) (by omega)
  have h1 : (BitVec.ofInt 64 (a : Int)).toNat = a := by
    rw [BitVec.ofInt_natCast, BitVec.toNat_ofNat]; exact Nat.mod_eq_of_lt (by omega)
  have h2 : (BitVec.ofInt 64 (b : Int)).toNat = b := by
    rw [BitVec.ofInt_natCast, BitVec.toNat_ofNat]; exact Nat.mod_eq_of_lt (by omega)
  show IntKind.i64.wrap ((BitVec.ofInt 64 (a : Int) ||| BitVec.ofInt 64 (b : Int)).toNat : Int) = _
  rw [BitVec.toNat_or, h1, h2]
  exact IntWalk.i64_in _ (by omega)
def getM : List UInt8 → Nat
  | [] => 0
  | b :: r => b.toNat + 256 * getM r
theorem getM_lt : ∀ l : List UInt8, getM l < 256 ^ l.length
  | [] => by simp [getM]
  | b :: r => by
    have h1 := getM_lt r
    have h2 := b.toNat_lt
    show b.toNat + 256 * getM r < 256 ^ (r.length + 1)
    rw [Nat.pow_succ]
    omega
theorem getM_snoc : ∀ (l : List UInt8) (b : UInt8), getM (l ++ [b]) = getM l + b.toNat * 256 ^ l.length
  | [], b => by simp [getM]
  | c :: r, b => by
    show c.toNat + 256 * getM (r ++ [b]) = c.toNat + 256 * getM r + b.toNat * 256 ^ (r.length + 1)
    rw [getM_snoc r b, Nat.pow_succ, Nat.mul_add, Nat.mul_comm (256 ^ r.length) 256, Nat.mul_left_comm, Nat.add_assoc]
theorem get_step {g x k : Nat} (hg : g < 256 ^ k) (hx : x < 256) (hk : k < 4) : bits .or .i64 (g : Int) (wrap64 (wrap64 (x : Int) * 2 ^ (8 * k))) = ((g + x * 256 ^ k : Nat) : Int) := by
  have h1 : x * 256 ^ k < 4611686018427387904 := by rcases (show k = 0 ∨ k = 1 ∨ k = 2 ∨ k = 3 by omega) with rfl | rfl | rfl | rfl <;> omega
  have h2 : g < 4611686018427387904 := by rcases (show k = 0 ∨ k = 1 ∨ k = 2 ∨ k = 3 by omega) with rfl | rfl | rfl | rfl <;> omega
  have h3 : wrap64 (wrap64 (x : Int) * 2 ^ (8 * k)) = ((x * 256 ^ k : Nat) : Int) := by
    unfold wrap64
    rcases (show k = 0 ∨ k = 1 ∨ k = 2 ∨ k = 3 by omega) with rfl | rfl | rfl | rfl <;> (try simp only [Nat.mul_zero, Int.pow_zero, Nat.pow_zero, Nat.mul_one]) <;> omega
  rw [h3, i64_or_nat _ _ h2 h1]
  congr 1
  have h4 : x * 256 ^ k = x <<< (8 * k) := by rw [Nat.shiftLeft_eq, show (256 : Nat) = 2 ^ 8 from rfl, ← Nat.pow_mul]
  rw [h4, Nat.or_comm, ← Nat.shiftLeft_add_eq_or_of_lt (by rw [Nat.pow_mul]; exact hg), Nat.add_comm]
structure GetSt (w : World) (l : List UInt8) (n i : Value) (wr : World) : Prop where
  st : wr = w ∧ ∃ k : Nat, k ≤ l.length ∧ i = .int .i64 k ∧ n = .int .i64 (getM (l.take k) : Int)
set_option maxHeartbeats 1000000 in
theorem get_any (l : List UInt8) (hl : l.length ≤ 4) (w : World) :
    Calls Tryz.prog 147 #[.string (strB l)] w fun e w' => e = .returned (.int .i64 (getM l : Int)) ∧ w = w' := by
  have hsz : (strB l).size = l.length := strB_size l
  have HL := Lib.hid (show ∀ s, s = strB l → ∀ (k : Nat) (x : UInt8), l[k]? = some x → ∀ h : k < s.size, s[k]'h = x from fun s hs k x hk h => by
    subst hs
    exact (List.getElem?_eq_some_iff.1 hk).2)
  obtain ⟨s, hs⟩ : ∃ s, strB l = s := ⟨_, rfl⟩
  replace HL := Lib.hid (HL.out s hs.symm)
  rw [hs] at hsz ⊢
  have HSZ := Lib.hid hsz
  clear hs
  go_enter Tryz.func147, Tryz.ntmps147
  go_wp2
  go_loopw [3, 4, 7] (fun n _ i wr => GetSt w l n i wr) (fun _ _ i _ => 4 - (intOf i).toNat)
  case atStart => exact ⟨rfl, 0, by omega, rfl, rfl⟩
  case round =>
    obtain ⟨rfl, k, hk, rfl, rfl⟩ := hrel.st
    clear hrel
    by_cases hlt : k < l.length
    · have hks : k < s.size := by omega
      have hgl := getM_lt (l.take k)
      rw [List.length_take, Nat.min_eq_left (by omega)] at hgl
      have hsn : getM (l.take (k + 1)) = getM (l.take k) + (l[k]).toNat * 256 ^ k := by
        rw [List.take_succ_eq_append_getElem hlt, getM_snoc, List.length_take, Nat.min_eq_left (by omega)]
      have hb := HL.out k _ (List.getElem?_eq_getElem hlt) hks
      have hxl := (l[k]).toNat_lt
      generalize l[k] = x at hsn hb hxl
      have HSN := Lib.hid hsn
      have HB := Lib.hid hb
      have hltd : decide ((k : Int) < (s.size : Int)) = true := decide_eq_true (by omega)
      have hk4 : (k : Int) ≤ 4 := by omega
      clear hsn hb hsz
      go_wp2
      rw [HB.out, get_step hgl hxl (by omega)]
      exact ⟨⟨rfl, k + 1, by omega, rfl, by rw [HSN.out]⟩, by simp only [intOf]; omega⟩
    · obtain rfl : k = l.length := by omega
      rw [List.take_length]
      have hltd : decide ((l.length : Int) < (s.size : Int)) = false := decide_eq_false (by omega)
      clear hsz
      go_wp2
      go_ret
      exact ⟨rfl, rfl⟩
end Go.Proofs.YtmcclbiaoeilkaaGreat
end
section
namespace Go.Proofs.YtmcclbiaoeilkaaGreat
open Go.RowKit Go.Sl Go.ChangeMaps
structure GenM where
  epoch : Int
  count : Int
  deriving DecidableEq
abbrev TGen : TypeId := 42
abbrev genA (g : GenM) : Array Value := #[.int .i64 g.epoch, .int .i64 g.count]
def g0 : GenM := ⟨0, 0⟩
def newerM (a b : GenM) : Bool := decide (b.epoch < a.epoch) || (decide (a.epoch = b.epoch) && decide (b.count < a.count))
def placeOK (a : PlaceM) : Bool := decide (0 ≤ a.disk) && decide (a.disk < 64) && decide (1 ≤ a.area) && decide (a.area ≤ 4) && decide (0 ≤ a.index) && decide (a.index < 65536)
set_option maxHeartbeats 1000000 in
theorem valid_any (a : PlaceM) (w : World) : Calls Tryz.prog 121 #[.agg (plA a)] w fun e w' => e = .returned (.bool (placeOK a)) ∧ Below w.heap.size w w' := by
  have he : placeOK a = (decide (0 ≤ a.disk) && decide (a.disk < 64) && decide (1 ≤ a.area) && decide (a.area ≤ 4) && decide (0 ≤ a.index) && decide (a.index < 65536)) := rfl
  cases h0 : decide (0 ≤ a.disk)
  · rw [he, h0]; clear he
    go_enter Tryz.func121, Tryz.ntmps121
    go_wp2
    go_ret
    exact ⟨rfl, (Below.refl _ _).alloc (Nat.le_refl _) _⟩
  cases h1 : decide (a.disk < 64)
  · rw [he, h0, h1]; clear he
    go_enter Tryz.func121, Tryz.ntmps121
    go_wp2
    go_ret
    exact ⟨rfl, (Below.refl _ _).alloc (Nat.le_refl _) _⟩
  cases h2 : decide (1 ≤ a.area)
  · rw [he, h0, h1, h2]; clear he
    go_enter Tryz.func121, Tryz.ntmps121
    go_wp2
    go_ret
    exact ⟨rfl, (Below.refl _ _).alloc (Nat.le_refl _) _⟩
  cases h3 : decide (a.area ≤ 4)
  · rw [he, h0, h1, h2, h3]; clear he
    go_enter Tryz.func121, Tryz.ntmps121
    go_wp2
    go_ret
    exact ⟨rfl, (Below.refl _ _).alloc (Nat.le_refl _) _⟩
  cases h4 : decide (0 ≤ a.index)
  · rw [he, h0, h1, h2, h3, h4]; clear he
    go_enter Tryz.func121, Tryz.ntmps121
    go_wp2
    go_ret
    exact ⟨rfl, (Below.refl _ _).alloc (Nat.le_refl _) _⟩
  cases h5 : decide (a.index < 65536)
  · rw [he, h0, h1, h2, h3, h4, h5]; clear he
    go_enter Tryz.func121, Tryz.ntmps121
    go_wp2
    go_ret
    exact ⟨rfl, (Below.refl _ _).alloc (Nat.le_refl _) _⟩
  rw [he, h0, h1, h2, h3, h4, h5]; clear he
  go_enter Tryz.func121, Tryz.ntmps121
  go_wp2
  go_ret
  exact ⟨rfl, (Below.refl _ _).alloc (Nat.le_refl _) _⟩
def genOK (g : GenM) : Bool := decide (0 ≤ min g.epoch g.count) && decide (max g.epoch g.count < 4294967296) && decide (g ≠ g0)
set_option maxHeartbeats 1000000 in
theorem validGen_any (g : GenM) (w : World) : Calls Tryz.prog 134 #[.agg (genA g)] w fun e w' => e = .returned (.bool (genOK g)) ∧ Below w.heap.size w w' := by
  have he : genOK g = (decide (0 ≤ min g.epoch g.count) && decide (max g.epoch g.count < 4294967296) && decide (g ≠ g0)) := rfl
  cases h0 : decide (0 ≤ min g.epoch g.count)
  · rw [he, h0]; clear he
    go_enter Tryz.func134, Tryz.ntmps134
    go_wp2
    go_ret
    exact ⟨rfl, (Below.refl _ _).alloc (Nat.le_refl _) _⟩
  cases h1 : decide (max g.epoch g.count < 4294967296)
  · rw [he, h0, h1]; clear he
    go_enter Tryz.func134, Tryz.ntmps134
    go_wp2
    go_ret
    exact ⟨rfl, (Below.refl _ _).alloc (Nat.le_refl _) _⟩
  rw [he, h0, h1]; clear he
  obtain ⟨e, c⟩ := g
  simp only at h0 h1
  by_cases e0 : e = 0
  · subst e0
    by_cases c0 : c = 0
    · subst c0
      go_enter Tryz.func134, Tryz.ntmps134
      go_wp2
      go_ret
      exact ⟨by simp [g0], (Below.refl _ _).alloc (Nat.le_refl _) _⟩
    · have cb : (c == 0) = false := by simp [c0]
      rw [show (true && true && decide ((⟨0, c⟩ : GenM) ≠ g0)) = true by simp [g0, c0]]
      clear c0
      go_enter Tryz.func134, Tryz.ntmps134
      go_wp2
      go_ret
      exact ⟨by rfl, (Below.refl _ _).alloc (Nat.le_refl _) _⟩
  · have eb : (e == 0) = false := by simp [e0]
    rw [show (true && true && decide ((⟨e, c⟩ : GenM) ≠ g0)) = true by simp [g0, e0]]
    clear e0
    go_enter Tryz.func134, Tryz.ntmps134
    go_wp2
    go_ret
    exact ⟨by rfl, (Below.refl _ _).alloc (Nat.le_refl _) _⟩
end Go.Proofs.YtmcclbiaoeilkaaGreat
end
