/- wal.Append in one; ref.Same; the law's config and text. -/
import Derived.Test.YtbegomjbakidmaaGt
import Derived.Test.YtbegomjbakidmaaGs
namespace Go.Proofs.Ytbegomjbakidmaa
open Go.RowKit Go.Sl Go.ChangeMaps

def StrsAt (w : World) (v : Value) (l : List ByteArray) : Prop := ∃ ao cap, v = .slice ao l.length cap ∧ (l ≠ [] → ∃ b off, ao = some ⟨b, off, none⟩ ∧ ∀ j x, l[j]? = some x → w.cell? ⟨b, off + j * 1, none⟩ = some (.string x))
theorem ownAt_strs {w : World} {v : Value} {l : List ByteArray} {F : HProp} {n : Nat} (h : Sat w (ownAt TString 1 v n (l.map Value.string) * F)) : StrsAt w v l := by
  have hl := ownAt_len h
  simp at hl
  subst hl
  obtain ⟨ao, cap, rfl⟩ := ownAt_slice h
  refine ⟨ao, cap, rfl, fun hne => ?_⟩
  obtain ⟨g, cap', he, hc⟩ := ownAt_cells h (List.length_pos_iff.2 hne)
  injection he with h1 h2 h3
  exact ⟨g, 0, h1, fun j x hj => by rw [Nat.zero_add, Nat.mul_one]; exact hc j _ (by rw [List.getElem?_map, hj]; rfl)⟩

theorem bytes_eq {x y : ByteArray} (h : x.toList = y.toList) : x = y := by
  rw [Lib.toList_data, Lib.toList_data] at h
  cases x; cases y; congr 1; exact Array.toList_inj.1 h
theorem run_neq_str {P : Program} {t : TypeId} (w : World) {x y : ByteArray} (b : Bool) (hb : b = !decide (x = y)) : (binOp .neq t (.string x) (.string y)).run P w = .ok (.bool b) w := by
  have e : (x.toList == y.toList) = decide (x = y) := by
    by_cases h : x = y
    · subst h; simp
    · rw [decide_eq_false h]; simp; exact fun h' => h (bytes_eq h')
  simp [binOp, Op.stringOp, e, hb]

structure EqualSt (w : World) (la lb : List ByteArray) (i : Value) (wr : World) : Prop where
  st : ∃ k : Nat, k ≤ la.length ∧ i = .int .i64 k ∧ la.take k = lb.take k ∧ Below w.heap.size w wr

set_option maxHeartbeats 400000 in
theorem same18_any (va vb : Value) (la lb : List ByteArray) (w : World) (ha : StrsAt w va la) (hb : StrsAt w vb lb) (hm : la.length ≤ 4611686018427387904) :
    Calls Try.prog 14 #[va, vb] w fun e w' => e = .returned (.bool (decide (la = lb))) ∧ Below w.heap.size w w' := by
  obtain ⟨aa, ca, rfl, ha0⟩ := ha
  obtain ⟨ab, cb, rfl, hb0⟩ := hb
  by_cases hl : la.length = lb.length
  · by_cases hne : la = []
    · have hne' : lb = [] := by apply List.eq_nil_of_length_eq_zero; rw [← hl, hne]; rfl
      subst hne hne'
      clear ha0 hb0 hl
      go_enter Try.func14, Try.ntmps14
      go_wp2
      go_loopw [5] (fun i wr => i = .int .i64 0 ∧ wr = w) (fun i _ => 0)
      case atStart => exact ⟨rfl, rfl⟩
      case round =>
        obtain ⟨rfl, rfl⟩ := hrel
        go_wp2
        go_ret
        exact ⟨rfl, Below.refl _ _⟩
    obtain ⟨ba, oa, rfl, ha⟩ := ha0 hne
    obtain ⟨bb, ob, rfl, hb⟩ := hb0 (by rintro rfl; apply hne; apply List.eq_nil_of_length_eq_zero; rw [hl]; rfl)
    have hq : ((la.length : Int) != (lb.length : Int)) = false := by simp; omega
    have HL := Lib.hid hl
    have HA := Lib.hid ha
    have HB := Lib.hid hb
    obtain ⟨ti3, hti3, hz03, hts3, hz23⟩ := info_parts (show (Try.prog.info? 9).map (fun i => (i.zero, i.size, i.bytes)) = some (some (.string ByteArray.empty), 1, 16) from by kernel_rfl)
    clear ha0 hb0 ha hb hl hz03 hz23
    go_enter Try.func14, Try.ntmps14
    go_wp2
    go_loopw [5] (fun i wr => EqualSt w la lb i wr) (fun i _ => la.length - (intOf i).toNat)
    case atStart => exact ⟨⟨0, Nat.zero_le _, rfl, rfl, Below.refl _ _⟩⟩
    case round =>
      obtain ⟨k, hk, rfl, htk, hbw⟩ := hrel.st
      clear hrel
      have HT := Lib.hid htk
      have HBW := Lib.hid hbw
      by_cases hlt : k < la.length
      · have hltd : decide ((k : Int) < (la.length : Int)) = true := decide_eq_true (by omega)
        have hl2 := HL.out
        have hki : (k : Int) ≤ 4611686018427387904 := by omega
        obtain ⟨x, hx⟩ : ∃ x, la[k]? = some x := ⟨_, List.getElem?_eq_getElem hlt⟩
        obtain ⟨y, hy⟩ : ∃ y, lb[k]? = some y := ⟨_, List.getElem?_eq_getElem (by omega)⟩
        have hlt2 : k < lb.length := by omega
        have c1 : wr.cell? ⟨ba, oa + k * 1, none⟩ = some (.string x) := (hbw.cell (World.block_lt_of_cell? _ _ (HA.out k x hx))).trans (HA.out k x hx)
        have c2 : wr.cell? ⟨bb, ob + k * 1, none⟩ = some (.string y) := (hbw.cell (World.block_lt_of_cell? _ _ (HB.out k y hy))).trans (HB.out k y hy)
        have HX := Lib.hid hx
        have HY := Lib.hid hy
        clear hx hy hl2 htk hbw
        by_cases hxy : x = y
        · subst hxy
          go_upto_region 6 with (fail)
          have hS0 : wr.drew.cell? ⟨ba, oa + k * 1, none⟩ = some (.string x) ∧ wr.drew.cell? ⟨bb, ob + k * 1, none⟩ = some (.string x) := ⟨c1, c2⟩
          refine reg_begin (fun w' => w'.cell? ⟨ba, oa + k * 1, none⟩ = some (.string x) ∧ w'.cell? ⟨bb, ob + k * 1, none⟩ = some (.string x)) (by kernel_rfl) ?_
          (apply reg_take 0 rfl rfl (by decide +kernel) rfl); (rintro w' ⟨h1, h2⟩; go_simp; rfl); exact hS0; simp only [List.setIfInBounds_toArray, List.set_cons_succ, List.set_cons_zero]
          (apply reg_take 1 rfl rfl (by decide +kernel) rfl); (rintro w' ⟨h1, h2⟩; go_simp; rfl); exact hS0; simp only [List.setIfInBounds_toArray, List.set_cons_succ, List.set_cons_zero]
          refine reg_take 2 (v := .pointer (some ⟨ba, oa + k * 1, none⟩)) rfl rfl (by decide +kernel) rfl (fun _ _ => exec_index_slice rfl rfl rfl Try.underlying22 hti3 hts3 hlt) hS0 ?_; simp only [List.setIfInBounds_toArray, List.set_cons_succ, List.set_cons_zero]
          refine reg_take 3 (v := .string x) rfl rfl (by decide +kernel) rfl (fun _ h => exec_load_cell rfl rfl Try.underlying9 rfl h.1) hS0 ?_; simp only [List.setIfInBounds_toArray, List.set_cons_succ, List.set_cons_zero]
          (apply reg_take 4 rfl rfl (by decide +kernel) rfl); (rintro w' ⟨h1, h2⟩; go_simp; rfl); exact hS0; simp only [List.setIfInBounds_toArray, List.set_cons_succ, List.set_cons_zero]
          (apply reg_take 5 rfl rfl (by decide +kernel) rfl); (rintro w' ⟨h1, h2⟩; go_simp; rfl); exact hS0; simp only [List.setIfInBounds_toArray, List.set_cons_succ, List.set_cons_zero]
          refine reg_take 6 (v := .pointer (some ⟨bb, ob + k * 1, none⟩)) rfl rfl (by decide +kernel) rfl (fun _ _ => exec_index_slice rfl rfl rfl Try.underlying22 hti3 hts3 hlt2) hS0 ?_; simp only [List.setIfInBounds_toArray, List.set_cons_succ, List.set_cons_zero]
          refine reg_take 7 (v := .string x) rfl rfl (by decide +kernel) rfl (fun _ h => exec_load_cell rfl rfl Try.underlying9 rfl h.2) hS0 ?_; simp only [List.setIfInBounds_toArray, List.set_cons_succ, List.set_cons_zero]
          refine reg_take 8 (v := .bool false) rfl rfl (by decide +kernel) rfl (fun w' _ => exec_binop rfl rfl rfl rfl (run_neq_str w' false (by simp))) hS0 ?_; simp only [List.setIfInBounds_toArray, List.set_cons_succ, List.set_cons_zero]
          refine reg_done (by decide +kernel) ?_
          go_wp2
          go_roundw
          case rel =>
            refine ⟨⟨k + 1, hlt, rfl, ?_, HBW.out.drew⟩⟩
            rw [List.take_add_one, List.take_add_one, HT.out, HX.out, HY.out]
          case measure =>
            simp only [intOf]; omega
        · skip
          go_upto_region 6 with (fail)
          have hS0 : wr.drew.cell? ⟨ba, oa + k * 1, none⟩ = some (.string x) ∧ wr.drew.cell? ⟨bb, ob + k * 1, none⟩ = some (.string y) := ⟨c1, c2⟩
          refine reg_begin (fun w' => w'.cell? ⟨ba, oa + k * 1, none⟩ = some (.string x) ∧ w'.cell? ⟨bb, ob + k * 1, none⟩ = some (.string y)) (by kernel_rfl) ?_
          (apply reg_take 0 rfl rfl (by decide +kernel) rfl); (rintro w' ⟨h1, h2⟩; go_simp; rfl); exact hS0; simp only [List.setIfInBounds_toArray, List.set_cons_succ, List.set_cons_zero]
          (apply reg_take 1 rfl rfl (by decide +kernel) rfl); (rintro w' ⟨h1, h2⟩; go_simp; rfl); exact hS0; simp only [List.setIfInBounds_toArray, List.set_cons_succ, List.set_cons_zero]
          refine reg_take 2 (v := .pointer (some ⟨ba, oa + k * 1, none⟩)) rfl rfl (by decide +kernel) rfl (fun _ _ => exec_index_slice rfl rfl rfl Try.underlying22 hti3 hts3 hlt) hS0 ?_; simp only [List.setIfInBounds_toArray, List.set_cons_succ, List.set_cons_zero]
          refine reg_take 3 (v := .string x) rfl rfl (by decide +kernel) rfl (fun _ h => exec_load_cell rfl rfl Try.underlying9 rfl h.1) hS0 ?_; simp only [List.setIfInBounds_toArray, List.set_cons_succ, List.set_cons_zero]
          (apply reg_take 4 rfl rfl (by decide +kernel) rfl); (rintro w' ⟨h1, h2⟩; go_simp; rfl); exact hS0; simp only [List.setIfInBounds_toArray, List.set_cons_succ, List.set_cons_zero]
          (apply reg_take 5 rfl rfl (by decide +kernel) rfl); (rintro w' ⟨h1, h2⟩; go_simp; rfl); exact hS0; simp only [List.setIfInBounds_toArray, List.set_cons_succ, List.set_cons_zero]
          refine reg_take 6 (v := .pointer (some ⟨bb, ob + k * 1, none⟩)) rfl rfl (by decide +kernel) rfl (fun _ _ => exec_index_slice rfl rfl rfl Try.underlying22 hti3 hts3 hlt2) hS0 ?_; simp only [List.setIfInBounds_toArray, List.set_cons_succ, List.set_cons_zero]
          refine reg_take 7 (v := .string y) rfl rfl (by decide +kernel) rfl (fun _ h => exec_load_cell rfl rfl Try.underlying9 rfl h.2) hS0 ?_; simp only [List.setIfInBounds_toArray, List.set_cons_succ, List.set_cons_zero]
          refine reg_take 8 (v := .bool true) rfl rfl (by decide +kernel) rfl (fun w' _ => exec_binop rfl rfl rfl rfl (run_neq_str w' true (by simp [hxy]))) hS0 ?_; simp only [List.setIfInBounds_toArray, List.set_cons_succ, List.set_cons_zero]
          refine reg_done (by decide +kernel) ?_
          go_wp2
          go_ret
          have hd : decide (la = lb) = false := decide_eq_false (by rintro rfl; apply hxy; have h1 := HX.out; rw [HY.out] at h1; exact (Option.some.inj h1).symm)
          rw [hd]
          exact ⟨rfl, HBW.out.drew⟩
      · have hke : k = la.length := by omega
        have hltd : decide ((k : Int) < (la.length : Int)) = false := decide_eq_false (by omega)
        clear htk hbw
        go_wp2
        go_ret
        have hd : decide (la = lb) = true := decide_eq_true (by have := HT.out; rwa [hke, List.take_length, HL.out, List.take_length] at this)
        rw [hd]
        exact ⟨rfl, HBW.out⟩
  · have hq : ((la.length : Int) != (lb.length : Int)) = true := by simp; omega
    have hd : decide (la = lb) = false := decide_eq_false (by rintro rfl; exact hl rfl)
    rw [hd]
    clear hl ha0 hb0 hd
    go_enter Try.func14, Try.ntmps14
    go_wp2
    go_ret
    exact ⟨rfl, Below.refl _ _⟩


theorem map_strB_inj {l m : List (List UInt8)} : l.map strB = m.map strB ↔ l = m := by
  constructor
  · intro h
    have e : ∀ (a b : List (List UInt8)), a.map strB = b.map strB → a = b := by
      intro a
      induction a with
      | nil => intro b h; cases b with
        | nil => rfl
        | cons _ _ => cases h
      | cons x r ih => intro b h; cases b with
        | nil => cases h
        | cons y q =>
          simp only [List.map_cons, List.cons.injEq] at h
          rw [strB_inj.1 h.1, ih q h.2]
    exact e l m h
  · rintro rfl; rfl
theorem sealed_ok {d nx : Int} {g : GenM} {t : TailM} {r : List UInt8} {c : CfgM} (hd : 0 ≤ d ∧ d < 64) (h0 : 0 ≤ nx) (hl : logN c ≤ 65533) (hfit : nx + (recN r : Int) ≤ logN c) (hg : genV g = true) (ht : tailV t = true) (hn : newerM g t.gen = true) (k : Nat) (hk : k < recN r) : sealOK ⟨d, 1, nx + (k : Int)⟩ g (payL t r k) = true := by
  obtain ⟨m1, m2, m3, m4⟩ := genV_iff.1 hg
  obtain ⟨k1, k2, _, _⟩ := genV_iff.1 (tailV_iff.1 ht).2.2.2.2
  unfold sealOK
  simp only [Bool.and_eq_true, decide_eq_true_eq]
  refine ⟨⟨placeOK_iff.2 ⟨hd.1, hd.2, by simp, by simp, by simp only; omega, by simp only; omega⟩, genOK_iff.2 ⟨m1, m2, m3, m4, newer_ne hn k1 k2⟩⟩, ?_⟩
  rw [payL_length]; omega
/-- wal.Append. -/
theorem append_any (p : Nat) (S : ShelfM) (F : HProp) (d : Int) (t : TailM) (g : GenM) (r : List UInt8) (hrl : r.length ≤ 9223372036854775807) (w : World) (hS : Sat w (shelfAt SH p S * F)) :
    Calls Try.prog 15 #[.pointer (some ⟨p, 0, none⟩), .int .i64 d, .agg (tailA t), .agg (genA g), .string (strB r)] w fun e w' => e = .returned (.tuple #[.agg (tailA (appM S d t g r).2.1), .int .i64 (appM S d t g r).2.2]) ∧ Hid (Same w w' ∧ Sat w' (shelfAt SH p (appM S d t g r).1 * F)) := by
  have hwf := (shelfAt_wf hS).cfg
  obtain ⟨nx, nu, ⟨ge, gc⟩⟩ := t
  obtain ⟨ep, cn⟩ := g
  by_cases h1 : 0 ≤ d ∧ d < S.cfg.disks ∧ tailV ⟨nx, nu, ⟨ge, gc⟩⟩ = true ∧ genV ⟨ep, cn⟩ = true
  · have hbv : (decide (0 ≤ d) && decide (d < S.cfg.disks) && tailV ⟨nx, nu, ⟨ge, gc⟩⟩) = true := by simp [h1.1, h1.2.1, h1.2.2.1]
    cases hn : newerM ⟨ep, cn⟩ ⟨ge, gc⟩ with
    | false =>
      have hz : appErr S.cfg d ⟨nx, nu, ⟨ge, gc⟩⟩ ⟨ep, cn⟩ r = 9 := by unfold appErr; rw [if_neg (by simpa using h1), if_pos hn]
      rw [appM_err rfl (by rw [hz]; decide), hz]
      exact append_stale p S F d nx nu ge gc ep cn r true true false hbv h1.2.2.2 hn (by omega) rfl rfl rfl w hS
    | true =>
      by_cases hl : 4096 < r.length
      · have hz : appErr S.cfg d ⟨nx, nu, ⟨ge, gc⟩⟩ ⟨ep, cn⟩ r = 2 := by unfold appErr; rw [if_neg (by simpa using h1), if_neg (by rw [hn]; decide), if_pos hl]
        rw [appM_err rfl (by rw [hz]; decide), hz]
        exact append_long p S F d nx nu ge gc ep cn r true true true hbv h1.2.2.2 hn (by omega) rfl rfl rfl hl w hS
      · obtain ⟨t1, t2, t3, t4, t5⟩ := tailV_iff.1 h1.2.2.1
        simp only at t1 t2 t3 t4 t5
        by_cases hf : logN S.cfg < nx + (recN r : Int)
        · have hz : appErr S.cfg d ⟨nx, nu, ⟨ge, gc⟩⟩ ⟨ep, cn⟩ r = 16 := by unfold appErr; rw [if_neg (by simpa using h1), if_neg (by rw [hn]; decide), if_neg hl, if_pos hf]
          rw [appM_err rfl (by rw [hz]; decide), hz]
          exact append_full p S F d nx nu ge gc ep cn r true true true hbv h1.2.2.2 hn (by omega) rfl rfl rfl (by omega) ⟨t1, t3⟩ hf w hS
        · obtain ⟨g1, g2, g3, g4⟩ := genV_iff.1 t5
          simp only at g1 g2 g3 g4
          have hd64 : 0 ≤ d ∧ d < 64 := ⟨h1.1, by have := hwf.disks; omega⟩
          have hlg : logN S.cfg ≤ 65533 := by have := hwf.log; unfold logN; omega
          have hso := sealed_ok (c := S.cfg) hd64 t1 hlg (show nx + (recN r : Int) ≤ logN S.cfg by omega) h1.2.2.2 h1.2.2.1 hn
          have hz : appErr S.cfg d ⟨nx, nu, ⟨ge, gc⟩⟩ ⟨ep, cn⟩ r = 0 := appErr_of h1 hn (by omega) (by show nx + _ ≤ _; omega)
          obtain ⟨nu, rfl⟩ := Int.eq_ofNat_of_zero_le t2
          obtain ⟨ge, rfl⟩ := Int.eq_ofNat_of_zero_le g1
          obtain ⟨gc, rfl⟩ := Int.eq_ofNat_of_zero_le g2
          refine (callsIn_wide.1 (append_in Fence.wide (free_wide _) 3 (by omega) p S F d nx ep cn nu ge gc r true true true hbv h1.2.2.2 hn (by omega) rfl rfl rfl (by omega) ⟨t1, t3⟩ (by omega) (by omega) (by omega) (by omega) hd64 hso w hS)).mono ?_
          rintro e w' ⟨t', ha, hb, rfl, hs⟩
          unfold appM
          rw [hz, if_neg (by simp)]
          by_cases h0 : (wrN S d ⟨nx, (nu : Int), ⟨(ge : Int), (gc : Int)⟩⟩ ⟨ep, cn⟩ r (recN r)).2 = 0
          · rw [if_neg (by simpa using h0), ha h0, h0]
            exact ⟨rfl, hs⟩
          · rw [if_pos h0, hb h0]
            exact ⟨rfl, hs⟩
  · have hz : appErr S.cfg d ⟨nx, nu, ⟨ge, gc⟩⟩ ⟨ep, cn⟩ r = 1 := by unfold appErr; rw [if_pos h1]
    rw [appM_err rfl (by rw [hz]; decide), hz]
    refine append_arg p S F d nx nu ge gc ep cn r _ _ _ rfl rfl rfl (by omega) ?_ w hS
    rw [Bool.eq_false_iff]
    intro hh
    simp only [Bool.and_eq_true, decide_eq_true_eq] at hh
    exact h1 ⟨hh.1.1.1, hh.1.1.2, hh.1.2, hh.2⟩

theorem config18_any (n : Int) (h0 : -1000 ≤ n) (h1 : n ≤ 1000) (w : World) : Calls Try.prog 19 #[.int .i64 n] w fun e w' => e = .returned (.agg (cfgA (cfgW n))) ∧ Below w.heap.size w w' := by
  go_enter Try.func19, Try.ntmps19
  go_wp2
  refine bodyPost_ret (v := .agg (cfgA (cfgW n))) (results_cell_row Try.results19 _ _ w.heap.size TCfg (cfgA (cfgW n)) (0, 0) _ rfl (heap_alloc_new w _) Try.underlying53 rfl (infoTCfg _)) rfl ⟨rfl, (Below.refl _ _).alloc (Nat.le_refl _) _⟩
/-- The text of a law: so many letters. -/
def textL (n : Nat) : List UInt8 := (List.range n).map fun i => UInt8.ofNat (97 + i % 7)
theorem textL_succ (n : Nat) : textL (n + 1) = textL n ++ [UInt8.ofNat (97 + n % 7)] := by simp [textL, List.range_succ]
theorem textL_length (n : Nat) : (textL n).length = n := by simp [textL]
structure TextSt (w : World) (F : HProp) (n : Nat) (v i : Value) (wr : World) : Prop where
  st : ∃ k : Nat, k ≤ n ∧ i = .int .i64 (k : Int) ∧ Same w wr ∧ Sat wr (ownB v (textL k) * F)
set_option maxHeartbeats 1000000 in
theorem text_any (n : Nat) (hn : 0 < n) (hn2 : n ≤ 1000) (F : HProp) (w : World) (hF : Sat w F) :
    Calls Try.prog 25 #[.int .i64 (n : Int), .int .u8 97] w fun e w' => e = .returned (.string (strB (textL n))) ∧ Hid (Same w w' ∧ Sat w' F) := by
  obtain ⟨ti, hti, hz0, hts, hz2⟩ := info_parts infoB3
  have HST := Lib.hid (show TextSt w F n (.slice none 0 0) (.int .i64 ((0 : Nat) : Int)) w from ⟨⟨0, by omega, rfl, Same.refl w, ownB_nil.2 hF⟩⟩)
  clear hF
  go_enter Try.func25, Try.ntmps25
  go_wp2
  go_loopw [5, 6] (fun v i wr => TextSt w F n v i wr) (fun _ i _ => n - (intOf i).toNat)
  case atStart => exact HST.out
  case round =>
    obtain ⟨k, hk, rfl, hsm, hs⟩ := hrel.st
    clear hrel HST
    obtain ⟨ao, cap, rfl⟩ := ownAt_slice hs
    have H1 := Lib.hid (And.intro hsm hs)
    clear hsm hs
    by_cases hlt : k < n
    · have hltd : decide ((k : Int) < (n : Int)) = true := decide_eq_true (by omega)
      have hk2 : (k : Int) ≤ 1000 := by omega
      have hm : (k : Int) % 7 = ((k % 7 : Nat) : Int) := by omega
      have hm7 : k % 7 < 7 := Nat.mod_lt _ (by decide)
      have HB := Lib.hid (show (97 : Int) + ((k % 7 : Nat) : Int) = ((UInt8.ofNat (97 + k % 7)).toNat : Int) by rw [u8_ofNat_toNat (by omega)]; omega)
      have HT := Lib.hid (textL_succ k)
      have HL := Lib.hid (textL_length k)
      generalize k % 7 = m at hm hm7 HB HT
      have hmi : (m : Int) < 7 := by omega
      go_wp2_with (at_builtin; rw [HB.out]; refine wpList_append_ownAt (F := F) rfl _ _ 95 TByte rfl ti _ Try.underlying95 hti hz0 hts hz2 rfl (H1.out.2.allocKeep _) [.int .u8 ((UInt8.ofNat (97 + m)).toNat : Int)] rfl rfl rfl ?_ (by simp [Value.oneCell']) (by have := HL.out; unfold maxLen; omega) (by have := HL.out; omega) ?_)
      · intro j u hu
        match j, hu with
        | 0, hu => rw [Addr.add_mid, cells_at (heap_alloc_new _ _)]; simpa using hu
      intro v' w2 h2
      replace H1 := Lib.hid (And.intro ((H1.out.1.alloc _).trans h2.out.1) h2.out.2)
      clear h2
      go_wp2
      refine ⟨⟨⟨k + 1, by omega, rfl, H1.out.1, ?_⟩⟩, by simp only [intOf]; omega⟩
      rw [HT.out]
      unfold ownB
      rw [List.length_append, show secL (textL k ++ [UInt8.ofNat (97 + m)]) = secL (textL k) ++ [.int .u8 ((UInt8.ofNat (97 + m)).toNat : Int)] by simp [secL, byteV]]
      exact H1.out.2
    · obtain rfl : k = n := by omega
      have hltd : decide ((k : Int) < (k : Int)) = false := by simp
      have hcv := run_str_own (by rw [textL_length]; exact hn) H1.out.2
      have HLN := Lib.hid (textL_length k)
      obtain ⟨tx, htx⟩ : ∃ tx, textL k = tx := ⟨_, rfl⟩
      rw [htx] at H1 hcv HLN ⊢
      have HTX := Lib.hid htx
      clear htx
      generalize tx.length = tl at hcv HLN ⊢
      clear hn hn2 hk hlt
      go_wp2
      go_ret
      exact ⟨by rw [HTX.out]; rfl, H1.out.1, H1.out.2.right⟩
end Go.Proofs.Ytbegomjbakidmaa
