import Derived.Test.YtnilepaicnnbhaaGreatDoorKh
import Derived.Test.YtnilepaicnnbhaaGreatDoorSp
import Derived.Shelf.SlIterI.Sorted
import Derived.Test.YtnilepaicnnbhaaGreatDoorKe
/- slices.Sorted of integers. -/
namespace Go.GF
open Go
def sortI (L : List Int) : List Int := L.mergeSort fun x y => decide (x ≤ y)
theorem sortI_len (L : List Int) : (sortI L).length = L.length := by unfold sortI; simp
theorem sortI_mem {L : List Int} {x : Int} : x ∈ sortI L ↔ x ∈ L := by unfold sortI; exact List.mem_mergeSort
theorem sortI_sorted (L : List Int) : (sortI L).Pairwise (· ≤ ·) := by
  unfold sortI
  have := List.pairwise_mergeSort (le := fun x y : Int => decide (x ≤ y)) (fun a b c h1 h2 => by simp at *; omega) (fun a b => by simp; omega) L
  exact this.imp fun h => by simpa using h
end Go.GF
namespace Go.Proofs.YtnilepaicnnbhaaGreatDoor
open Go.RowKit Go.GF Go.Sl Go.Shelf Go.Sort
theorem encZ_map (L : List Int) : L.map encZ = intsV L := rfl
set_option maxRecDepth 20000 in
set_option maxHeartbeats 1000000 in
theorem sorted_any (gf : Nat) (lb : Array Value) (eg : ∀ args w, (callFunc gf args).run Tryz.prog w = .ok (.enter gf args) w) (L : List Int) (hL : L.length ≤ 100000) (w : World) (hseq : ∀ w' m, Below w.heap.size w w' → SeqRows Fence.wide m Tryz.prog gf lb L.length (ValR L) (Below w.heap.size) w') :
    Calls Tryz.prog 27 #[.func (.func gf) #[] lb] w fun e w' => ∃ v, e = .returned v ∧ OwnI w.heap.size w' v (sortI L) ∧ Below w.heap.size w w' := by
  have HA := Lib.hid (collect_any gf lb eg L hL w hseq)
  clear hseq eg
  go_enter Tryz.func27, Tryz.ntmps27
  go_upto_region 2 with (go_at_call 46; refine HA.out.mono ?_; rintro e W ⟨v, rfl, h1, h2⟩)
  have HO := Lib.hid (And.intro h1 h2)
  rcases h1.2 with ⟨rfl, hz⟩ | ⟨gb, cap, cur, rfl, hbase, hgb, r1, r2, r3, r4⟩
  · have hnil : L = [] := List.eq_nil_of_length_eq_zero hz
    subst hnil
    clear h1 h2
    go_wp2_with (go_at_call 47; refine (AnyM.slices_Sort_int_none Tryz.sortA none 0 W).mono ?_; rintro e w' ⟨rfl, rfl⟩)
    go_ret
    exact ⟨_, rfl, by rw [show sortI [] = [] by simp [sortI]]; exact OwnI.nil _ _, HO.out.2⟩
  · have hH : Holds encZ W gb 0 L.toArray := holds_of_block_i hgb (by rw [Nat.mul_one] at r4; exact r4)
    have hgl : gb < W.heap.size := (Array.getElem?_eq_some_iff.1 hgb).1
    have HC := Lib.hid (AnyM.slices_Sort_int Tryz.sortA gb 0 cap L W hH hgl (by omega))
    have HR := Lib.hid (And.intro hbase (And.intro hgb (And.intro r1 (And.intro r2 r3))))
    clear h1 h2 hH hgl hbase hgb r1 r2 r3 r4
    go_wp2_with (go_at_call 47; refine HC.out.mono ?_; rintro e w' ⟨rfl, nn, os, hw⟩)
    go_ret
    obtain ⟨hbase, hgb, r1, r2, r3⟩ := HR.out
    subst hw
    refine ⟨_, rfl, ?_, HO.out.2.grown (grownBy_sorted_i _) HO.out.2.size (fun j hj => by cases hj; exact hbase)⟩
    have := ownsRow_sorted_i (n := nn) (os := os) (ts := sortI L) (by rw [sortI_len]) hbase hgb r1 r2 r3
    show World.ownsRow _ _ TI 1 _ (sortI L).length (intsV (sortI L))
    rw [sortI_len]
    exact this
end Go.Proofs.YtnilepaicnnbhaaGreatDoor

/- slices.Compact of an own row of integers. -/
namespace Go.GF
open Go
/-- The first n elements, each that is equal to the one before it left out. -/
def cmpN (L : List Int) : Nat → List Int
  | 0 => []
  | m + 1 => if m = 0 ∨ L[m]? ≠ L[m - 1]? then cmpN L m ++ [(L[m]?).getD 0] else cmpN L m
def compactL (L : List Int) : List Int := cmpN L L.length
theorem cmpN_le (L : List Int) : ∀ m, (cmpN L m).length ≤ m
  | 0 => Nat.le_refl _
  | m + 1 => by
    have := cmpN_le L m
    unfold cmpN
    split
    · simp; omega
    · omega
theorem cmpN_ne {L : List Int} {m : Nat} (hne : L[m]? ≠ L[m - 1]?) : cmpN L (m + 1) = cmpN L m ++ [(L[m]?).getD 0] := by
  show (if m = 0 ∨ L[m]? ≠ L[m - 1]? then _ else _) = _
  rw [if_pos (.inr hne)]
theorem cmpN_eq {L : List Int} {m : Nat} (h1 : 1 ≤ m) (he : L[m]? = L[m - 1]?) : cmpN L (m + 1) = cmpN L m := by
  show (if m = 0 ∨ L[m]? ≠ L[m - 1]? then _ else _) = _
  rw [if_neg (by rintro (h | h); omega; exact h he)]
theorem cmpN_one {L : List Int} (h : 0 < L.length) : cmpN L 1 = L.take 1 := by
  show (if 0 = 0 ∨ L[0]? ≠ L[0 - 1]? then cmpN L 0 ++ [(L[0]?).getD 0] else _) = _
  rw [if_pos (.inl rfl), List.getElem?_eq_getElem h]
  cases L with
  | nil => cases h
  | cons x r => rfl
/-- Of a sorted row: what is left is increasing, and has the same elements. -/
theorem cmpN_sorted {L : List Int} (hs : L.Pairwise (· ≤ ·)) : ∀ m, m ≤ L.length → (cmpN L m).Pairwise (· < ·) ∧ (∀ x, x ∈ cmpN L m ↔ ∃ i : Nat, i < m ∧ L[i]? = some x)
  | 0, _ => ⟨List.Pairwise.nil, fun x => ⟨fun h => (by cases h), fun ⟨i, h, _⟩ => absurd h (by omega)⟩⟩
  | m + 1, hm => by
    obtain ⟨h1, h2⟩ := cmpN_sorted hs m (by omega)
    have hml : m < L.length := by omega
    have hx := List.getElem?_eq_getElem hml
    have hle : ∀ (i j : Nat) (x y : Int), i ≤ j → L[i]? = some x → L[j]? = some y → x ≤ y := fun i j x y hij hi hj => by
      rcases Nat.lt_or_ge i j with h | h
      · obtain ⟨a1, a2⟩ := List.getElem?_eq_some_iff.1 hi
        obtain ⟨b1, b2⟩ := List.getElem?_eq_some_iff.1 hj
        have := (List.pairwise_iff_getElem.1 hs) i j a1 b1 h
        rw [a2, b2] at this; exact this
      · obtain rfl : i = j := by omega
        rw [hi] at hj; cases hj; exact Int.le_refl _
    by_cases hc : m = 0 ∨ L[m]? ≠ L[m - 1]?
    · have e : cmpN L (m + 1) = cmpN L m ++ [L[m]] := by
        show (if m = 0 ∨ L[m]? ≠ L[m - 1]? then _ else _) = _
        rw [if_pos hc, hx]; rfl
      rw [e]
      refine ⟨List.pairwise_append.2 ⟨h1, List.pairwise_singleton _ _, fun a ha b hb => ?_⟩, fun x => ?_⟩
      · obtain rfl := List.mem_singleton.1 hb
        obtain ⟨i, hi, hia⟩ := (h2 a).1 ha
        rcases hc with h0 | hne
        · omega
        · have hm1 : m - 1 < L.length := by omega
          have hy := List.getElem?_eq_getElem hm1
          have a1 := hle i (m - 1) _ _ (by omega) hia hy
          have a2 := hle (m - 1) m _ _ (by omega) hy hx
          rw [hx, hy] at hne
          have a3 : L[m] ≠ L[m - 1] := fun e => hne (by rw [e])
          omega
      · rw [List.mem_append, h2, List.mem_singleton]
        constructor
        · rintro (⟨i, hi, he⟩ | rfl)
          · exact ⟨i, by omega, he⟩
          · exact ⟨m, by omega, hx⟩
        · rintro ⟨i, hi, he⟩
          rcases Nat.lt_or_ge i m with h | h
          · exact .inl ⟨i, h, he⟩
          · obtain rfl : i = m := by omega
            rw [hx] at he; cases he; exact .inr rfl
    · have hc' : m ≠ 0 ∧ L[m]? = L[m - 1]? := ⟨fun h => hc (.inl h), Classical.byContradiction fun h => hc (.inr h)⟩
      have e : cmpN L (m + 1) = cmpN L m := cmpN_eq (by omega) hc'.2
      rw [e]
      refine ⟨h1, fun x => ?_⟩
      rw [h2]
      constructor
      · rintro ⟨i, hi, he⟩; exact ⟨i, by omega, he⟩
      · rintro ⟨i, hi, he⟩
        rcases Nat.lt_or_ge i m with h | h
        · exact ⟨i, h, he⟩
        · obtain rfl : i = m := by omega
          exact ⟨i - 1, by omega, by rw [← hc'.2]; exact he⟩
/-- The names of racks: sorted, each once. -/
def namesL (L : List Int) : List Int := compactL (sortI L)
theorem names_nodup (L : List Int) : (namesL L).Nodup := (cmpN_sorted (sortI_sorted L) _ (Nat.le_refl _)).1.imp fun h e => by omega
theorem names_mem (L : List Int) (x : Int) : x ∈ namesL L ↔ x ∈ L := by
  unfold namesL compactL
  rw [(cmpN_sorted (sortI_sorted L) _ (Nat.le_refl _)).2, ← sortI_mem]
  constructor
  · rintro ⟨i, -, he⟩; exact List.mem_of_getElem? he
  · intro h
    obtain ⟨i, hi⟩ := List.mem_iff_getElem?.1 h
    exact ⟨i, (List.getElem?_eq_some_iff.1 hi).1, hi⟩
theorem names_len (L : List Int) : (namesL L).length ≤ L.length := by
  have := cmpN_le (sortI L) (sortI L).length
  rw [sortI_len] at this
  unfold namesL compactL
  rw [sortI_len]; exact this
end Go.GF
namespace Go.Proofs.YtnilepaicnnbhaaGreatDoor
open Go.RowKit Go.GF Go.Sl Go.Shelf
theorem zeroCells_one {n : Nat} : ∀ u ∈ (Builtin.zeroCells (Value.int .i64 0).cells n).toList, Value.oneCell' u = true := by
  intro u hu
  rw [Array.mem_toList_iff] at hu
  obtain ⟨i, hi, rfl⟩ := Array.mem_iff_getElem.1 hu
  simp [Builtin.zeroCells, Value.cells, Value.oneCell', Nat.mod_one]
structure CpA (w : World) (base g n cap : Nat) (L : List Int) (v : Value) (wr : World) : Prop where
  st : ∃ k : Nat, 1 ≤ k ∧ k ≤ n ∧ v = .int .i64 (k : Int) ∧ cmpN L k = L.take k ∧ OwnI base wr (.slice (some ⟨g, 0, none⟩) n cap) L ∧ Below base w wr
structure CpB (w : World) (base g n cap k0 : Nat) (L : List Int) (v3 v5 : Value) (wr : World) : Prop where
  st : ∃ (k2 k : Nat) (L' : List Int), 1 ≤ k2 ∧ k0 + k2 ≤ n ∧ v5 = .int .i64 (k2 : Int) ∧ v3 = .int .i64 (k : Int) ∧ (cmpN L (k0 + k2)).length = k ∧ k < k0 + k2 ∧ L'.length = n ∧ OwnI base wr (.slice (some ⟨g, 0, none⟩) n cap) L' ∧ L'.take k = cmpN L (k0 + k2) ∧ (∀ j, k0 + k2 ≤ j + 1 → L'[j]? = L[j]?) ∧ Below base w wr
set_option maxRecDepth 20000 in
set_option maxHeartbeats 4000000 in
theorem compact_any (base : Nat) (v : Value) (L : List Int) (hL : L.length ≤ 100000) (w : World) (ho : OwnI base w v L) :
    Calls Tryz.prog 26 #[v] w fun e w' => ∃ v', e = .returned v' ∧ OwnI base w' v' (compactL L) ∧ Below base w w' := by
  have HO := Lib.hid ho
  obtain ⟨ao, cap, rfl⟩ := ho.shape
  by_cases h2 : L.length < 2
  · have hd : decide ((L.length : Int) < 2) = true := decide_eq_true (by omega)
    have hc : compactL L = L := by
      unfold compactL
      rcases Nat.lt_or_ge L.length 1 with h | h
      · have : L = [] := List.eq_nil_of_length_eq_zero (by omega)
        subst this; rfl
      · rw [show L.length = 1 by omega, cmpN_one (by omega)]
        exact List.take_of_length_le (by omega)
    rw [hc]
    clear ho h2 hc
    go_enter Tryz.func26, Tryz.ntmps26
    go_wp2
    go_ret
    exact ⟨_, rfl, HO.out, Below.refl _ _⟩
  · have hd : decide ((L.length : Int) < 2) = false := decide_eq_false (by omega)
    obtain ⟨g, cap', hv, hgb, hlc⟩ : ∃ g cap', (Value.slice ao L.length cap) = .slice (some ⟨g, 0, none⟩) L.length cap' ∧ base ≤ g ∧ L.length ≤ cap' := by
      rcases ho.2 with ⟨h0, hz⟩ | ⟨g, cap', cur, hv, hb, hg, h1, -⟩
      · omega
      · exact ⟨g, cap', hv, hb, h1⟩
    simp only [Value.slice.injEq] at hv
    obtain ⟨rfl, -, rfl⟩ := hv
    obtain ⟨n, hn⟩ : ∃ n, L.length = n := ⟨_, rfl⟩
    rw [hn] at ho hd h2 hlc ⊢
    rw [hn] at HO
    have HN := Lib.hid hn
    have hn2 : 2 ≤ n := by omega
    have hn63 : (n : Int) ≤ 100000 := by omega
    clear ho h2 hn
    go_enter Tryz.func26, Tryz.ntmps26
    go_wp2
    go_loopw [3] (fun v wr => CpA w base g n cap L v wr) (fun v _ => n - (intOf v).toNat)
    case atStart => exact ⟨⟨1, Nat.le_refl _, by omega, rfl, cmpN_one (by rw [HN.out]; omega), HO.out, Below.refl _ _⟩⟩
    case round =>
      clear HO
      obtain ⟨k, hk1, hkn, rfl, hcm, ho, hb⟩ := hrel.st
      clear hrel
      by_cases hlt : k < n
      · have hltd : decide ((k : Int) < (n : Int)) = true := decide_eq_true (by omega)
        have hwk : IntKind.i64.wrap ((k : Int) + 1) = (k : Int) + 1 := IntWalk.i64_in _ (by omega)
        have hwm : IntKind.i64.wrap ((k : Int) - 1) = ((k - 1 : Nat) : Int) := by rw [IntWalk.i64_in _ (by omega)]; omega
        obtain ⟨x, hx⟩ : ∃ x, L[k]? = some x := ⟨_, List.getElem?_eq_getElem (by rw [HN.out]; exact hlt)⟩
        obtain ⟨y, hy⟩ : ∃ y, L[k - 1]? = some y := ⟨_, List.getElem?_eq_getElem (by rw [HN.out]; omega)⟩
        have e1 := (ho.cell hx).1
        have e2 := (ho.cell hy).1
        have hk1n : k - 1 < n := by omega
        have HX := Lib.hid (And.intro hx (And.intro hy (And.intro hcm (And.intro ho hb))))
        clear hx hy hcm ho hb
        by_cases hxy : x = y
        · subst hxy
          have hck : cap ≠ k := by omega
          have hrun := fun W => run_sl_lo (P := Tryz.prog) (T := 26) (e := TI) (k := 1) Tryz.underlying26 (by kernel_rfl) g 0 n cap k hkn W
          rw [if_neg hck, Nat.zero_add, Nat.mul_one] at hrun
          have HRUN := Lib.hid hrun
          clear hrun
          go_upto_region 6 with (fail)
          go_quiet (fail)
          go_wp2_with (refine wpList_sl rfl _ _ _ _ rfl rfl rfl rfl (HRUN.out _) ?_)
          have HST := Lib.hid (show CpB w base g n cap k L (.int .i64 (k : Int)) (.int .i64 ((1 : Nat) : Int)) (wr.drewN nq) from by
            obtain ⟨hx, hy, hcm, ho, hb⟩ := HX.out
            have hce : cmpN L (k + 1) = L.take k := by rw [cmpN_eq hk1 (by rw [hx, hy])]; exact hcm
            refine ⟨⟨1, k, L, Nat.le_refl _, by omega, rfl, rfl, by rw [hce, List.length_take, HN.out]; omega, by omega, HN.out, ho.below (below_drewN (Below.refl _ wr) _), by rw [hce], fun _ _ => rfl, below_drewN hb _⟩⟩)
          clear HX e1 e2 HRUN
          generalize wr.drewN nq = wq at HST ⊢
          go_loopw [3, 5] (fun v3 v5 wr => CpB w base g n cap k L v3 v5 wr) (fun _ v5 _ => n - k - (intOf v5).toNat)
          case atStart => exact HST.out
          case round =>
            clear HST
            obtain ⟨k2, kk, L', h1, h2, rfl, rfl, h3, h4, h5, ho, h6, h7, hb⟩ := hrel.st
            clear hrel
            have hwk2 : IntKind.i64.wrap ((k2 : Int) + 1) = (k2 : Int) + 1 := IntWalk.i64_in _ (by omega)
            have hwkk : IntKind.i64.wrap ((kk : Int) + 1) = (kk : Int) + 1 := IntWalk.i64_in _ (by omega)
            have hwk3 : IntKind.i64.wrap ((k2 : Int) - 1) = ((k2 - 1 : Nat) : Int) := by rw [IntWalk.i64_in _ (by omega)]; omega
            by_cases hlt2 : k2 < n - k
            · have hltd2 : decide ((k2 : Int) < ((n - k : Nat) : Int)) = true := decide_eq_true (by omega)
              obtain ⟨x2, hx2⟩ : ∃ x, L[k + k2]? = some x := ⟨_, List.getElem?_eq_getElem (by rw [HN.out]; omega)⟩
              obtain ⟨y2, hy2⟩ : ∃ x, L[k + (k2 - 1)]? = some x := ⟨_, List.getElem?_eq_getElem (by rw [HN.out]; omega)⟩
              have d1 := (ho.cell ((h7 (k + k2) (by omega)).trans hx2)).1
              have d2 := (ho.cell ((h7 (k + (k2 - 1)) (by omega)).trans hy2)).1
              obtain ⟨z3, hz3⟩ : ∃ x, L'[kk]? = some x := ⟨_, List.getElem?_eq_getElem (by rw [h5]; omega)⟩
              have hkkn : kk < n := by omega
              have hk2n : k2 - 1 < n - k := by omega
              have HX := Lib.hid (And.intro hx2 (And.intro hy2 (And.intro h3 (And.intro ho (And.intro h6 (And.intro h7 (And.intro hb (And.intro hz3 (And.intro h4 (And.intro h5 (And.intro h1 h2)))))))))))
              have hgl : g < wr.heap.size := World.block_lt_of_cell? wr _ d1
              clear hx2 hy2 h3 ho h6 h7 hb hz3 h4 h5 h1
              by_cases hxy2 : x2 = y2
              · subst hxy2
                go_upto_region 11 with (fail)
                go_quiet (fail)
                go_wp2
                obtain ⟨hx2, hy2, h3, ho, h6, h7, hb, hz3, h4, h5, h1, h2⟩ := HX.out
                have hce : cmpN L (k + (k2 + 1)) = cmpN L (k + k2) := by
                  rw [← Nat.add_assoc]
                  exact cmpN_eq (by omega) (by rw [show k + k2 - 1 = k + (k2 - 1) by omega, hx2, hy2])
                refine ⟨⟨⟨k2 + 1, kk, L', by omega, by omega, by rw [Int.natCast_add]; rfl, rfl, by rw [hce]; exact h3, by omega, h5, ho.below (below_drewN (Below.refl _ wr) _), by rw [hce]; exact h6, fun j hj => h7 j (by omega), below_drewN hb _⟩⟩, ?_⟩
                simp only [intOf]; omega
              · have hxyd2 : (x2 != y2) = true := by simp [hxy2]
                go_upto_region 11 with (fail)
                go_quiet (fail)
                have f3 := (HX.out.2.2.2.1.cell HX.out.2.2.2.2.2.2.2.1).1
                have f4 := (HX.out.2.2.2.1.cell HX.out.2.2.2.2.2.2.2.1).2
                go_wp2
                obtain ⟨hx2, hy2, h3, ho, h6, h7, hb, hz3, h4, h5, h1, h2⟩ := HX.out
                have hce : cmpN L (k + (k2 + 1)) = cmpN L (k + k2) ++ [x2] := by
                  rw [← Nat.add_assoc, cmpN_ne (by rw [show k + k2 - 1 = k + (k2 - 1) by omega, hx2, hy2]; exact fun e => hxy2 (Option.some.inj e)), hx2]; rfl
                refine ⟨⟨⟨k2 + 1, kk + 1, L'.set kk x2, by omega, by omega, by rw [Int.natCast_add]; rfl, by rw [Int.natCast_add]; rfl, by rw [hce, List.length_append, h3]; rfl, by omega, by rw [List.length_set]; exact h5, ?_, ?_, fun j hj => ?_, ?_⟩⟩, ?_⟩
                · have := (ho.below (below_drewN (Below.refl _ wr) nq)).set kk x2
                  exact this
                · rw [hce, List.take_add_one, List.getElem?_set_self (by omega), ← h6, List.take_set_of_le (Nat.le_refl _)]; rfl
                · rw [List.getElem?_set_ne (by omega)]; exact h7 j (by omega)
                · exact (below_drewN hb nq).setCell (p := ⟨g, kk, none⟩) hgb _
                · simp only [intOf]; omega
            · have hltd2 : decide ((k2 : Int) < ((n - k : Nat) : Int)) = false := decide_eq_false (by omega)
              have hke : k + k2 = n := by omega
              have hckk : cap ≠ kk := by omega
              have hkkn : kk ≤ n := by omega
              have hrun := fun W => run_sl_lo (P := Tryz.prog) (T := 26) (e := TI) (k := 1) Tryz.underlying26 (by kernel_rfl) g 0 n cap kk hkkn W
              rw [if_neg hckk, Nat.zero_add, Nat.mul_one] at hrun
              have hrun2 := fun W => run_sl_hi (P := Tryz.prog) (T := 26) (e := TI) (k := 1) Tryz.underlying26 (by kernel_rfl) g 0 n cap kk (by omega) W
              have HRUN := Lib.hid hrun
              have HRUN2 := Lib.hid hrun2
              rw [hke] at h3 h4 h6
              obtain ⟨W2, hcl, hW2⟩ : ∃ W2, (∀ ty, (Builtin.clear_ #[26] ty #[.slice (some ⟨g, kk, none⟩) (n - kk) (cap - kk)]).run Tryz.prog wr = .ok (.tuple #[]) W2) ∧ OwnI base W2 (.slice (some ⟨g, 0, none⟩) kk cap) (cmpN L n) ∧ Below base wr W2 := by
                rcases ho.2 with ⟨h0, -⟩ | ⟨g', cap', cur, hv', hb', hg', r1, r2, r3, r4⟩
                · cases h0
                · simp only [Value.slice.injEq, Option.some.injEq, Addr.mk.injEq] at hv'
                  obtain ⟨⟨rfl, -⟩, -, rfl⟩ := hv'
                  rw [h5, Nat.mul_one] at r4
                  rw [Nat.mul_one] at r3
                  have hzl : (Builtin.zeroCells (Value.int .i64 0).cells (n - kk)).toList.length = n - kk := by
                    rw [Array.length_toList, size_zeroCells]; show (n - kk) * 1 = _; omega
                  have hr := fun ty => run_clear_row (P := Tryz.prog) (w := wr) 26 TI ty (.int .i64 0) Tryz.underlying26 (fun w => by kernel_rfl) g kk (n - kk) (cap - kk) cur hg' (by omega) (by rw [hzl]; show n - kk = (n - kk) * 1; omega) (by show kk + (n - kk) * 1 ≤ _; omega) (fun u hu => zeroCells_one u hu)
                  refine ⟨_, hr, ?_, below_setRow (Below.refl _ _) hgb _⟩
                  refine ⟨by rw [intsV_len, Nat.mul_one], .inr ⟨g, cap, _, by rw [h3], hgb, setRow_heap wr g _ _ TI (0, 0) hg', by omega, r2, ?_, ?_⟩⟩
                  · simp only [List.size_toArray, List.length_append, List.length_take, List.length_drop, Array.length_toList, hzl]
                    show min kk cur.size + (n - kk) + (cur.size - (kk + (n - kk) * 1)) = _
                    omega
                  · rw [h3, Nat.mul_one, List.append_assoc, List.take_append_of_le_length (by rw [List.length_take, Array.length_toList]; omega), List.take_take, Nat.min_self, ← h6]
                    have := congrArg (List.take kk) r4
                    rw [List.take_take, Nat.min_eq_left (by omega)] at this
                    rw [this]
                    unfold intsV
                    rw [List.map_take]
              have HCL := Lib.hid hcl
              have HW := Lib.hid (And.intro hW2 hb)
              clear hrun hrun2 hcl hW2 ho h6 h7 hb h3 h5 h1 h2
              go_wp2_with (refine wpList_sl rfl _ _ _ _ rfl rfl rfl rfl (HRUN.out _) ?_)
              rw [HCL.out]
              go_wp2_with (refine wpList_sl rfl _ _ _ _ rfl rfl rfl rfl (HRUN2.out _) ?_)
              go_ret
              refine ⟨_, rfl, ?_, HW.out.2.trans HW.out.1.2⟩
              unfold compactL
              rw [HN.out]
              exact HW.out.1.1
        · have hxyd : (x == y) = false := by rw [beq_eq_false_iff_ne]; exact hxy
          go_upto_region 6 with (fail)
          go_quiet (fail)
          go_wp2
          go_roundw
          case rel => exact ⟨⟨k + 1, by omega, by omega, by rw [Int.natCast_add]; rfl, by
            obtain ⟨hx, hy, hcm, -⟩ := HX.out
            rw [cmpN_ne (by rw [hx, hy]; exact fun e => hxy (Option.some.inj e)), hcm, hx, List.take_add_one, hx]; rfl, HX.out.2.2.2.1.below (below_drewN (Below.refl _ wr) _), below_drewN HX.out.2.2.2.2 _⟩⟩
          case measure => simp only [intOf]; omega
      · obtain rfl : k = n := by omega
        have hltd : decide ((k : Int) < (k : Int)) = false := decide_eq_false (by omega)
        have HX := Lib.hid (And.intro hcm (And.intro ho hb))
        clear hcm ho hb
        go_wp2
        go_ret
        refine ⟨_, rfl, ?_, HX.out.2.2⟩
        unfold compactL
        rw [HN.out, HX.out.1, List.take_of_length_le (by rw [HN.out]; exact Nat.le_refl _)]
        exact HX.out.2.1
end Go.Proofs.YtnilepaicnnbhaaGreatDoor

/- slices.Contains of integers. -/
namespace Go.Proofs.YtnilepaicnnbhaaGreatDoor
open Go.RowKit Go.GF Go.Sl Go.Shelf
structure IxS2 (w : World) (L : List Int) (x : Int) (i : Value) (wr : World) : Prop where
  st : ∃ k : Nat, k ≤ L.length ∧ i = .int .i64 (k : Int) ∧ (L.take k).contains x = false ∧ wr = w
set_option maxRecDepth 20000 in
set_option maxHeartbeats 1000000 in
theorem index_any (v : Value) (L : List Int) (hL : L.length ≤ 100000) (x : Int) (w : World) (hv : RowI w v (intsV L)) :
    Calls Tryz.prog 52 #[v, .int .i64 x] w fun e w' => (∃ k : Int, e = .returned (.int .i64 k) ∧ decide (0 ≤ k) = L.contains x) ∧ w' = w := by
  obtain ⟨ao, cp, rfl, -, -, hrow⟩ := hv
  rw [intsV_len] at *
  have HR := Lib.hid hrow
  have hl : (L.length : Int) ≤ 100000 := by omega
  clear hrow
  go_enter Tryz.func52, Tryz.ntmps52
  go_wp2
  go_loopw [8] (fun i wr => IxS2 w L x i wr) (fun i _ => L.length - (intOf i).toNat)
  case atStart => exact ⟨⟨0, Nat.zero_le _, rfl, rfl, rfl⟩⟩
  case round =>
    obtain ⟨k, hk, rfl, ha, rfl⟩ := hrel.st
    clear hrel
    by_cases hlt : k < L.length
    · have hltd : decide ((k : Int) < (L.length : Int)) = true := decide_eq_true (by omega)
      have hwk : IntKind.i64.wrap ((k : Int) + 1) = (k : Int) + 1 := IntWalk.i64_in _ (by omega)
      obtain ⟨y, hy⟩ : ∃ y, L[k]? = some y := ⟨_, List.getElem?_eq_getElem hlt⟩
      obtain ⟨b, off, rfl, hbl, hc⟩ := HR.out (by omega)
      have e0 := hc k _ (intsV_at hy)
      have HY := Lib.hid (And.intro hy ha)
      clear hy ha hc
      by_cases hxy : x = y
      · subst hxy
        have hxd : (x == x) = true := by simp
        go_wp2
        go_ret
        refine ⟨⟨(k : Int), rfl, ?_⟩, rfl⟩
        rw [decide_eq_true (by omega)]
        exact (List.contains_iff_mem.2 (List.mem_of_getElem? HY.out.1)).symm
      · have hxd : (x == y) = false := by rw [beq_eq_false_iff_ne]; exact hxy
        go_wp2
        go_roundw
        case rel =>
          refine ⟨⟨k + 1, hlt, rfl, ?_, rfl⟩⟩
          obtain ⟨hy, ha⟩ := HY.out
          rw [List.take_add_one, hy, Option.toList_some, List.contains_eq_any_beq, List.any_append, ← List.contains_eq_any_beq, ha]
          simp [hxy]
        case measure => simp only [intOf]; omega
    · have hke : k = L.length := by omega
      have hltd : decide ((k : Int) < (L.length : Int)) = false := decide_eq_false (by omega)
      have HY := Lib.hid (show L.contains x = false by rw [hke, List.take_length] at ha; exact ha)
      clear ha hke
      go_wp2
      go_ret
      exact ⟨⟨-1, rfl, by rw [HY.out]; rfl⟩, rfl⟩
set_option maxRecDepth 20000 in
theorem contains_any (v : Value) (L : List Int) (hL : L.length ≤ 100000) (x : Int) (w : World) (hv : RowI w v (intsV L)) :
    Calls Tryz.prog 30 #[v, .int .i64 x] w fun e w' => e = .returned (.bool (decide (x ∈ L))) ∧ w' = w := by
  have HI := Lib.hid (index_any v L hL x w hv)
  go_enter Tryz.func30, Tryz.ntmps30
  go_wp2_with (go_at_call 52; refine HI.out.mono ?_; rintro e w1 ⟨⟨k, rfl, hk⟩, rfl⟩)
  go_ret
  exact ⟨rfl, rfl⟩
end Go.Proofs.YtnilepaicnnbhaaGreatDoor
