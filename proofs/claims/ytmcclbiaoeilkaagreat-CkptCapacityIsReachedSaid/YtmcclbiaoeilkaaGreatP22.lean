import Derived.Test.YtmcclbiaoeilkaaGreatP21
import Derived.OrdersIn
import Derived.Test.YtmcclbiaoeilkaaGreatP16
/- Part 22 of a proof; the last part says what is proved. -/
section
namespace Go.Proofs.YtmcclbiaoeilkaaGreat
open Go.RowKit Go.Sl Go.ChangeMaps
def ldF (p : Nat) (S : ShelfM) (r a : Nat) (A : Array Value) (X : HProp) : HProp := shelfAt SH p S * (pts r (.cells #[.int .i64 0, .int .i64 0, .int .i64 0, .string ⟨#[]⟩] TCk (0, 0)) * (pts a (.cells A TCk (0, 0)) * X))
structure LdS (w : World) (p : Nat) (S : ShelfM) (r a : Nat) (F : HProp) (m : Nat) (fv iv : Value) (wr : World) : Prop where
  st : ∃ (k : Nat) (X : HProp), k ≤ m ∧ iv = .int .i64 (k : Int) ∧ fv = .int .i64 (loadK S k).2 ∧ Hid (Same w wr ∧ Sat wr (ldF p S r a (ckA (loadK S k).1) (X * F)))
theorem loadK_succ (S : ShelfM) (k : Nat) {ar be bc bsq eb ne nc nsq en : Int} {bi ni : List UInt8} (hb : loadK S k = (⟨⟨be, bc⟩, bsq, bi⟩, eb)) (hn : newestM S k = (ar, ⟨⟨ne, nc⟩, nsq, ni⟩, en)) : loadK S (k + 1) = if en = 0 ∧ (eb ≠ 0 ∨ newerM ⟨ne, nc⟩ ⟨be, bc⟩ = true) then (⟨⟨ne, nc⟩, nsq, ni⟩, 0) else (⟨⟨be, bc⟩, bsq, bi⟩, eb) := by
  unfold loadK; rw [hn]; simp only; rw [hb]
theorem ld_cells {p : Nat} {S : ShelfM} {r a : Nat} {a0 a1 a2 a3 : Value} {X : HProp} {w : World} (h : Sat w (ldF p S r a #[a0, a1, a2, a3] X)) :
    (w.frozen? ⟨r, 0, none⟩ = false ∧ w.frozen? ⟨r, 1, none⟩ = false ∧ w.frozen? ⟨r, 2, none⟩ = false ∧ w.frozen? ⟨r, 3, none⟩ = false) ∧ (w.cell? ⟨r, 0, none⟩ = some (.int .i64 0) ∧ w.cell? ⟨r, 1, none⟩ = some (.int .i64 0) ∧ w.cell? ⟨r, 2, none⟩ = some (.int .i64 0) ∧ w.cell? ⟨r, 3, none⟩ = some (.string ⟨#[]⟩)) ∧
    (w.cell? ⟨a, 0, none⟩ = some a0 ∧ w.cell? ⟨a, 1, none⟩ = some a1 ∧ w.cell? ⟨a, 2, none⟩ = some a2 ∧ w.cell? ⟨a, 3, none⟩ = some a3) := by
  unfold ldF at h
  have h1 := h.right.block
  have h2 := h.right.right.block
  exact ⟨⟨thawed_at h1 0, thawed_at h1 1, thawed_at h1 2, thawed_at h1 3⟩, ⟨cells_at h1 0, cells_at h1 1, cells_at h1 2, cells_at h1 3⟩, cells_at h2 0, cells_at h2 1, cells_at h2 2, cells_at h2 3⟩
theorem ld_res {p : Nat} {S : ShelfM} {r : Nat} {X : HProp} {w : World} (h : Sat w (shelfAt SH p S * (pts r (.cells #[.int .i64 0, .int .i64 0, .int .i64 0, .string ⟨#[]⟩] TCk (0, 0)) * X))) (x y z u : Value) :
    Sat ((((w.setCell ⟨r, 0, none⟩ x).setCell ⟨r, 1, none⟩ y).setCell ⟨r, 2, none⟩ z).setCell ⟨r, 3, none⟩ u) (pts r (.cells #[x, y, z, u] TCk (0, 0)) * (shelfAt SH p S * X)) :=
  ((((h.perm (show _ = pts r (.cells #[.int .i64 0, .int .i64 0, .int .i64 0, .string ⟨#[]⟩] TCk (0, 0)) * (shelfAt SH p S * X) from by ac_rfl)).setCell (i := 0) x).setCell (i := 1) y).setCell (i := 2) z).setCell (i := 3) u
set_option maxRecDepth 20000 in
set_option maxHeartbeats 4000000 in
theorem load_any (p : Nat) (S : ShelfM) (F : HProp) (w : World) (hS : Sat w (shelfAt SH p S * F)) :
    Calls Tryz.prog 14 #[.pointer (some ⟨p, 0, none⟩)] w (CkOut p S F (loadM S) w) := by
  have hwf := shelfAt_wf hS
  obtain ⟨m, hm⟩ : ∃ m : Nat, S.cfg.disks = (m : Int) := ⟨S.cfg.disks.toNat, by have := hwf.cfg.disks; omega⟩
  have hm64 : m ≤ 64 := by have := hwf.cfg.disks; omega
  obtain ⟨R, hR⟩ : ∃ R, loadM S = R := ⟨_, rfl⟩
  rw [hR]
  unfold loadM at hR
  rw [show S.cfg.disks.toNat = m by omega] at hR
  have HUP := Lib.hid (show ∀ (W : World) (X : HProp), Sat W (shelfAt SH p S * X) → Calls Tryz.prog 35 #[.pointer (some ⟨p, 0, none⟩)] W fun e w' => e = .returned (.bool (!S.off)) ∧ W = w' from fun W X h => up_any p S X W h)
  have HCF := Lib.hid (show ∀ (W : World) (X : HProp), Sat W (shelfAt SH p S * X) → Calls Tryz.prog 26 #[.pointer (some ⟨p, 0, none⟩)] W fun e w' => e = .returned (.agg (cfgA S.cfg)) ∧ Below W.heap.size W w' from fun W X h => config_any p S X W h)
  have HNE := Lib.hid (show ∀ (W : World) (k : Nat) (X : HProp), Sat W (shelfAt SH p S * X) → Calls Tryz.prog 18 #[.pointer (some ⟨p, 0, none⟩), .int .i64 (k : Int)] W (NwOut p S X (newestM S k) W) from fun W k X h => newest_any p S X k W h)
  have H1 := Lib.hid (And.intro ((Same.refl w).alloc (.cells #[.int .i64 0, .int .i64 0, .int .i64 0, .string ⟨#[]⟩] TCk)) ((hS.alloc (.cells #[.int .i64 0, .int .i64 0, .int .i64 0, .string ⟨#[]⟩] TCk)).perm (show _ = shelfAt SH p S * (pts w.heap.size (.cells #[.int .i64 0, .int .i64 0, .int .i64 0, .string ⟨#[]⟩] TCk (0, 0)) * F) from by ac_rfl)))
  clear hS hwf
  go_enter Tryz.func14, Tryz.ntmps14
  go_upto_region 1 with ((with_reducible (refine wpList_alloc_zero ?_ TCk ?_ _ (zeroCk _) ?_)); rfl; rfl)
  generalize w.alloc (.cells #[.int .i64 0, .int .i64 0, .int .i64 0, .string ⟨#[]⟩] TCk) = w1 at H1 ⊢
  generalize w.heap.size = rB at H1 ⊢
  have HFIN := Lib.hid (show ∀ (W : World) (r : CkM × Int) (X : HProp), Same w W → Sat W (pts rB (.cells (ckA r.1) TCk (0, 0)) * (shelfAt SH p S * (X * F))) → R = r → CkOut p S F R w (.returned (.tuple #[.agg (ckA r.1), .int .i64 r.2])) W from fun W r X h1 h2 h3 => by
    subst h3
    exact ⟨rfl, h1, (h2.perm (show _ = (pts rB (.cells (ckA R.1) TCk (0, 0)) * X) * (shelfAt SH p S * F) from by ac_rfl)).right⟩)
  cases hoff : S.off with
  | true =>
    rw [hoff] at hR HUP
    have HR := Lib.hid (show R = (ck0, 14) from hR.symm)
    clear hR HCF HNE hm hm64
    have h1 := H1.out.2.right.block
    have f0 := thawed_at h1 0
    have f1 := thawed_at h1 1
    have f2 := thawed_at h1 2
    have f3 := thawed_at h1 3
    have r0 := cells_at h1 0
    have r1 := cells_at h1 1
    have r2 := cells_at h1 2
    have r3 := cells_at h1 3
    clear h1
    go_wp2_with (go_at_call 35; refine (HUP.out w1 _ H1.out.2).mono ?_; rintro e w2 ⟨rfl, rfl⟩)
    have H2 := Lib.hid (And.intro ((((H1.out.1.setCell ⟨rB, 0, none⟩ (.int .i64 0)).setCell ⟨rB, 1, none⟩ (.int .i64 0)).setCell ⟨rB, 2, none⟩ (.int .i64 0)).setCell ⟨rB, 3, none⟩ (.string ⟨#[]⟩)) (ld_res H1.out.2 (.int .i64 0) (.int .i64 0) (.int .i64 0) (.string ⟨#[]⟩)))
    refine bodyPost_ret (v := .tuple #[.agg #[.int .i64 0, .int .i64 0, .int .i64 0, .string ⟨#[]⟩], .int .i64 14]) (results2 Tryz.results14 (ResIs.row rfl H2.out.2.block Tryz.underlying44 rfl (infoCk rfl)) (.tmp rfl)) rfl ?_
    exact HFIN.out _ (ck0, 14) emp H2.out.1 (H2.out.2.perm (by rw [emp_star]; rfl)) HR.out
  | false =>
    rw [hoff] at hR HUP
    have HR := Lib.hid (show loadK S m = R from hR)
    clear hR hoff
    go_upto_region 4 with (go_at_call 35; refine (HUP.out w1 _ H1.out.2).mono ?_; rintro e w2 ⟨rfl, rfl⟩)
    replace H1 := Lib.hid (And.intro (H1.out.1.alloc (.cells #[.int .i64 0, .int .i64 0, .int .i64 0, .string ⟨#[]⟩] TCk)) ((H1.out.2.alloc (.cells #[.int .i64 0, .int .i64 0, .int .i64 0, .string ⟨#[]⟩] TCk)).perm (show _ = ldF p S rB w1.heap.size #[.int .i64 0, .int .i64 0, .int .i64 0, .string ⟨#[]⟩] (emp * F) from by unfold ldF; rw [emp_star]; ac_rfl)))
    generalize w1.alloc (.cells #[.int .i64 0, .int .i64 0, .int .i64 0, .string ⟨#[]⟩] TCk) = w3 at H1 ⊢
    generalize w1.heap.size = bB at H1 ⊢
    go_upto_region 5 with (go_at_call 26; refine (HCF.out w3 _ H1.out.2).mono ?_; rintro e w4 ⟨rfl, hb⟩; replace H1 := Lib.hid (And.intro (H1.out.1.below hb) (H1.out.2.below hb)); clear hb; have hfd : (Instr.field 23 (.agg (cfgA S.cfg)) 0).run Tryz.prog w4 = .ok (.int .i64 (m : Int)) w4 := by rw [← hm]; exact run_disks S.cfg w4)
    clear HUP HCF hm
    go_loopw [5, 18] (fun fv iv wr => LdS w p S rB bB F m fv iv wr) (fun _ iv _ => m - (intOf iv).toNat)
    case atStart => exact ⟨⟨0, emp, Nat.zero_le _, rfl, rfl, H1.out⟩⟩
    case round =>
      clear H1
      obtain ⟨k, X, hk, rfl, rfl, H1⟩ := hrel.st
      clear hrel
      obtain ⟨⟨⟨⟨be, bc⟩, bsq, bi⟩, eb⟩, hbk⟩ : ∃ r, loadK S k = r := ⟨_, rfl⟩
      rw [hbk] at H1 ⊢
      by_cases hlt : k < m
      · have hltd : decide ((k : Int) < (m : Int)) = true := decide_eq_true (by omega)
        have hki : (k : Int) < (m : Int) := by omega
        have hw1 : IntKind.i64.wrap ((k : Int) + 1) = (k : Int) + 1 := IntWalk.i64_in _ (by omega)
        obtain ⟨⟨ar, ⟨⟨ne, nc⟩, nsq, ni⟩, en⟩, hnk⟩ : ∃ r, newestM S k = r := ⟨_, rfl⟩
        have HN1 := Lib.hid (HNE.out wr k _ H1.out.2)
        rw [hnk] at HN1
        have HK := Lib.hid (And.intro hlt (loadK_succ S k hbk hnk))
        have HNW := Lib.hid (show ∀ W, Calls Tryz.prog 69 #[.agg #[.int .i64 ne, .int .i64 nc], .agg #[.int .i64 be, .int .i64 bc]] W fun e w' => e = .returned (.bool (newerM ⟨ne, nc⟩ ⟨be, bc⟩)) ∧ Below W.heap.size W w' from fun W => newer_any ⟨ne, nc⟩ ⟨be, bc⟩ W)
        clear hlt hbk hnk hk
        go_upto_region 8 with (go_at_call 18; refine HN1.out.mono ?_; rintro e w5 ⟨rfl, h2, h3⟩; replace H1 := Lib.hid (And.intro (H1.out.1.trans h2) h3); clear h2 h3; unfold ckA)
        replace H1 := Lib.hid (And.intro (H1.out.1.alloc (.cells #[.int .i64 ne, .int .i64 nc, .int .i64 nsq, .string (strB ni)] TCk)) ((H1.out.2.alloc (.cells #[.int .i64 ne, .int .i64 nc, .int .i64 nsq, .string (strB ni)] TCk)).perm (show _ = nwF p S bB rB w5.heap.size #[.int .i64 be, .int .i64 bc, .int .i64 bsq, .string (strB bi)] #[.int .i64 0, .int .i64 0, .int .i64 0, .string ⟨#[]⟩] #[.int .i64 ne, .int .i64 nc, .int .i64 nsq, .string (strB ni)] (X * F) from by unfold nwF; ac_rfl)))
        generalize w5.alloc (.cells #[.int .i64 ne, .int .i64 nc, .int .i64 nsq, .string (strB ni)] TCk) = w6 at H1 ⊢
        generalize w5.heap.size = cB at H1 ⊢
        clear HN1
        obtain ⟨⟨f0, f1, f2, f3⟩, ⟨r0, r1, r2, r3⟩, ⟨a0, a1, a2, a3⟩, b0, b1, b2, b3⟩ := nwF_cells H1.out.2
        by_cases hen : en = 0
        case neg =>
          have hed : (en == 0) = false := by simp [hen]
          have HR1 := Lib.hid (show loadK S (k + 1) = (⟨⟨be, bc⟩, bsq, bi⟩, eb) from by rw [HK.out.2, if_neg (fun h => hen h.1)])
          clear hen HNW
          go_wp2
          go_roundw
          case rel => exact ⟨⟨k + 1, pts cB (.cells #[.int .i64 ne, .int .i64 nc, .int .i64 nsq, .string (strB ni)] TCk (0, 0)) * X, HK.out.1, congrArg (Value.int .i64) (by omega), by rw [HR1.out], Lib.hid ⟨H1.out.1, by rw [HR1.out]; exact H1.out.2.perm (by unfold nwF ldF; ac_rfl)⟩⟩⟩
          case measure => have := HK.out.1; simp [intOf]; omega
        case pos =>
          subst hen
          by_cases heb : eb = 0
          case neg =>
            have hed : (eb != 0) = true := bne_iff_ne.2 heb
            have HR1 := Lib.hid (show loadK S (k + 1) = (⟨⟨ne, nc⟩, nsq, ni⟩, 0) from by rw [HK.out.2, if_pos ⟨rfl, .inl heb⟩])
            clear heb HNW
            go_wp2
            have H2 := Lib.hid (And.intro ((((H1.out.1.setCell ⟨bB, 0, none⟩ (.int .i64 ne)).setCell ⟨bB, 1, none⟩ (.int .i64 nc)).setCell ⟨bB, 2, none⟩ (.int .i64 nsq)).setCell ⟨bB, 3, none⟩ (.string (strB ni))) (nwF_res H1.out.2 (.int .i64 ne) (.int .i64 nc) (.int .i64 nsq) (.string (strB ni))))
            go_roundw
            case rel => exact ⟨⟨k + 1, pts cB (.cells #[.int .i64 ne, .int .i64 nc, .int .i64 nsq, .string (strB ni)] TCk (0, 0)) * X, HK.out.1, congrArg (Value.int .i64) (by omega), by rw [HR1.out], Lib.hid ⟨H2.out.1, by rw [HR1.out]; exact H2.out.2.perm (by unfold ldF; ac_rfl)⟩⟩⟩
            case measure => have := HK.out.1; simp [intOf]; omega
          case pos =>
            subst heb
            cases hnw : newerM ⟨ne, nc⟩ ⟨be, bc⟩ with
            | false =>
              have HR1 := Lib.hid (show loadK S (k + 1) = (⟨⟨be, bc⟩, bsq, bi⟩, 0) from by rw [HK.out.2, hnw, if_neg (by simp)])
              go_wp2_with (go_at_call 69; refine (HNW.out w6).mono ?_; rintro e w7 ⟨rfl, hb⟩; replace H1 := Lib.hid (And.intro (H1.out.1.below hb) (H1.out.2.below hb)); clear hb; clear f0 f1 f2 f3 r0 r1 r2 r3 a0 a1 a2 a3 b0 b1 b2 b3; obtain ⟨⟨f0, f1, f2, f3⟩, ⟨r0, r1, r2, r3⟩, ⟨a0, a1, a2, a3⟩, b0, b1, b2, b3⟩ := nwF_cells H1.out.2; rw [hnw])
              clear hnw HNW
              go_roundw
              case rel => exact ⟨⟨k + 1, pts cB (.cells #[.int .i64 ne, .int .i64 nc, .int .i64 nsq, .string (strB ni)] TCk (0, 0)) * X, HK.out.1, congrArg (Value.int .i64) (by omega), by rw [HR1.out], Lib.hid ⟨H1.out.1, by rw [HR1.out]; exact H1.out.2.perm (by unfold nwF ldF; ac_rfl)⟩⟩⟩
              case measure => have := HK.out.1; simp [intOf]; omega
            | true =>
              have HR1 := Lib.hid (show loadK S (k + 1) = (⟨⟨ne, nc⟩, nsq, ni⟩, 0) from by rw [HK.out.2, hnw, if_pos ⟨rfl, .inr rfl⟩])
              go_wp2_with (go_at_call 69; refine (HNW.out w6).mono ?_; rintro e w7 ⟨rfl, hb⟩; replace H1 := Lib.hid (And.intro (H1.out.1.below hb) (H1.out.2.below hb)); clear hb; clear f0 f1 f2 f3 r0 r1 r2 r3 a0 a1 a2 a3 b0 b1 b2 b3; obtain ⟨⟨f0, f1, f2, f3⟩, ⟨r0, r1, r2, r3⟩, ⟨a0, a1, a2, a3⟩, b0, b1, b2, b3⟩ := nwF_cells H1.out.2; rw [hnw])
              clear hnw HNW
              have H2 := Lib.hid (And.intro ((((H1.out.1.setCell ⟨bB, 0, none⟩ (.int .i64 ne)).setCell ⟨bB, 1, none⟩ (.int .i64 nc)).setCell ⟨bB, 2, none⟩ (.int .i64 nsq)).setCell ⟨bB, 3, none⟩ (.string (strB ni))) (nwF_res H1.out.2 (.int .i64 ne) (.int .i64 nc) (.int .i64 nsq) (.string (strB ni))))
              go_roundw
              case rel => exact ⟨⟨k + 1, pts cB (.cells #[.int .i64 ne, .int .i64 nc, .int .i64 nsq, .string (strB ni)] TCk (0, 0)) * X, HK.out.1, congrArg (Value.int .i64) (by omega), by rw [HR1.out], Lib.hid ⟨H2.out.1, by rw [HR1.out]; exact H2.out.2.perm (by unfold ldF; ac_rfl)⟩⟩⟩
              case measure => have := HK.out.1; simp [intOf]; omega
      · have hltd : decide ((k : Int) < (m : Int)) = false := decide_eq_false (by omega)
        have hki : ¬ (k : Int) < (m : Int) := by omega
        obtain rfl : k = m := by omega
        have HR2 := Lib.hid (show R = (⟨⟨be, bc⟩, bsq, bi⟩, eb) from HR.out.symm.trans hbk)
        clear hlt hbk HNE HR
        obtain ⟨⟨f0, f1, f2, f3⟩, ⟨r0, r1, r2, r3⟩, a0, a1, a2, a3⟩ := ld_cells H1.out.2
        go_wp2
        have H2 := Lib.hid (And.intro ((((H1.out.1.setCell ⟨rB, 0, none⟩ (.int .i64 be)).setCell ⟨rB, 1, none⟩ (.int .i64 bc)).setCell ⟨rB, 2, none⟩ (.int .i64 bsq)).setCell ⟨rB, 3, none⟩ (.string (strB bi))) (ld_res H1.out.2 (.int .i64 be) (.int .i64 bc) (.int .i64 bsq) (.string (strB bi))))
        refine bodyPost_ret (v := .tuple #[.agg #[.int .i64 be, .int .i64 bc, .int .i64 bsq, .string (strB bi)], .int .i64 eb]) (results2 Tryz.results14 (ResIs.row rfl H2.out.2.block Tryz.underlying44 rfl (infoCk rfl)) (.tmp rfl)) rfl ?_
        exact HFIN.out _ (⟨⟨be, bc⟩, bsq, bi⟩, eb) (pts bB (.cells #[.int .i64 be, .int .i64 bc, .int .i64 bsq, .string (strB bi)] TCk (0, 0)) * X) H2.out.1 (H2.out.2.perm (by ac_rfl)) HR2.out
end Go.Proofs.YtmcclbiaoeilkaaGreat
end
section
namespace Go.Sl
open Go Go.RowKit
structure Free (F : Fence) (P : Program) : Prop where
  round : F.round = none
  depth : F.depth = none
  fn : ∀ f, F.fn f
  calls : ∀ (n : Nat) (f : FuncId) (args : Array Value) (w : World) (R : Ending → World → Prop), Calls P f args w R → CallsIn F n P f args w R
theorem free_wide (P : Program) : Free Fence.wide P := ⟨rfl, rfl, fun _ => trivial, fun _ _ _ _ _ h => callsIn_wide.2 h⟩
theorem Free.callsR {F : Fence} {P : Program} (h : Free F P) (l n : Nat) {f : FuncId} {args : Array Value} {w : World} {R : Ending → World → Prop} (hc : Calls P f args w R) : CallsIn (F.inRound l) n P f args w R := h.calls n f args w R hc
theorem Free.ask {F : Fence} {P : Program} (h : Free F P) (k : Nat) : (F.depth.isSome = true → 1 ≤ k) := fun h2 => by rw [h.depth] at h2; cases h2
section
variable {F : Fence} {n : Nat} {P : Program} {ops : Array Oper} {Q : Exit → Act → World → Prop} {S : World → Prop}
theorem YieldsIf.wpOpI (hF : Free F P) {i : Nat} {o : Oper} {v : Value} {a : Act} (hi : ops[i]? = some o) (hy : YieldsIf P ops S o v a) {K : Act → World → Prop} {w : World} (hS : S w) (h : K (a.put o.dst v) w) : wpOpIn F n P ops Q i K a w := by
  unfold Go.wpOpIn
  simp only [hi]
  rcases hy with ⟨hw, hv⟩ | ⟨hw, rfl⟩
  · simp only [hw, if_true, Oper.wpIn, hF.round, Oper.semAt_none, hv w hS, Oper.uponIn]; exact ⟨fun _ _ => hF.fn _, h⟩
  · simp only [hw, Bool.false_eq_true, if_false]; exact ⟨fun _ _ => hF.fn _, h⟩
theorem wpOpI_put (hF : Free F P) {j : Nat} {oi oj : Oper} {v : Value} (hj : ops[j]? = some oj) (hap : oi.apart ops oj = true) (hsi : ∀ cs b, oi.op ≠ .select cs b) (hsj : ∀ cs b, oj.op ≠ .select cs b)
    (hQ : ∀ c a w, Q (.panic c) (a.put oi.dst v) w → Q (.panic c) a w) {K : Act → World → Prop} {a : Act} {w : World} (hy : YieldsIf P ops S oi v a) (h : wpOpIn F n P ops Q j K (a.put oi.dst v) w) :
    wpOpIn F n P ops Q j (fun a' w' => YieldsIf P ops S oi v a' ∧ K (a'.put oi.dst v) w') a w := by
  obtain ⟨h1, h2, h3⟩ := Oper.apart_spec hap
  have keep : ∀ b : Act, YieldsIf P ops S oi v b → ∀ u, YieldsIf P ops S oi v (b.put oj.dst u) := fun b hb u => hb.of_same (execOp_put oi hsi b oj.dst u h3) (wanted_put oi b oj.dst u h3)
  unfold wpOpIn at *
  simp only [hj] at *
  rw [wanted_put oj a oi.dst v h1] at h
  cases hw : Region.wanted oj (yielded ops a.tmps) with
  | false =>
    simp only [hw, Bool.false_eq_true, if_false] at h ⊢
    exact ⟨fun _ _ => hF.fn _, keep a hy _, by rw [← Act.put_comm a v undef h2]; exact h.2⟩
  | true =>
    simp only [hw, if_true] at h ⊢
    unfold Oper.wpIn at *
    refine ⟨fun _ _ => hF.fn _, ?_⟩
    have h := h.2
    rw [hF.round, Oper.semAt_none, execOp_put oj hsj a oi.dst v h1] at h
    rw [hF.round, Oper.semAt_none]
    cases hr : (execOp a.eval oj).run P w with
    | ok x w' =>
      rw [hr] at h
      cases x <;> simp only [Oper.uponIn] at h ⊢
      case value u => exact ⟨keep a hy u, by rw [← Act.put_comm a v u h2]; exact h⟩
      case skip => exact ⟨keep a hy _, by rw [← Act.put_comm a v undef h2]; exact h⟩
      case defer d =>
        refine ⟨keep ⟨a.tmps, d :: a.defers⟩ (hy.of_same rfl rfl) _, ?_⟩
        rw [← Act.put_comm _ v undef h2, ← Act.put_defers]
        exact h
      case enter f args =>
        refine ⟨h.1, CallsIn.mono h.2 fun e w'' he => ?_⟩
        cases e with
        | returned u => exact ⟨keep a hy u, by rw [← Act.put_comm a v u h2]; exact he⟩
        | panicked c => exact hQ _ _ _ he
        | outgrown => exact he
      case row row args => exact ⟨h.1, RowsIn.mono h.2 fun u w'' he => ⟨keep a hy u, by rw [← Act.put_comm a v u h2]; exact he⟩⟩
      case round l f tmps assign body =>
        refine ⟨h.1, RoundIn.mono h.2 fun e w'' he => ?_⟩
        cases e with
        | returned u => exact ⟨keep a hy u, by rw [← Act.put_comm a v u h2]; exact he⟩
        | panicked c => exact hQ _ _ _ he
        | outgrown => exact he
    | halt x w' =>
      rw [hr] at h
      cases x <;> simp only [Oper.uponIn] at h ⊢
      exact hQ _ _ _ h
def pivB (ops : Array Oper) (j : Nat) : Bool := (List.range ops.size).all fun i => i == j || reachB ops 12 j i || reachB ops 12 i j
theorem not_piv {i j : Nat} {listed : Array Bool} (hc : Closed ops listed) (hi : i ∈ Region.ready .any ops listed) (hj : j ∈ Region.ready .any ops listed) (hne : j ≠ i) : pivB ops j = false := by
  obtain ⟨hiun, oi, hoi, halli⟩ := mem_ready.1 hi
  obtain ⟨hjun, oj, hoj, hall⟩ := mem_ready.1 hj
  cases ht : pivB ops j with
  | false => rfl
  | true =>
    exfalso
    unfold pivB at ht
    have hisz : i < ops.size := (Array.getElem?_eq_some_iff.1 hoi).1
    have h1 := List.all_eq_true.1 ht i (by simp [hisz])
    have h2 : (i == j) = false := by simp; exact Ne.symm hne
    rw [h2, Bool.false_or, Bool.or_eq_true] at h1
    rcases h1 with h1 | h1
    · have h3 := hc.reach _ j i oj hoj hall h1
      rcases Nat.lt_or_ge i listed.size with h' | h'
      · simp [h'] at hiun h3; rw [hiun] at h3; cases h3
      · simp [Array.getElem?_eq_none h'] at h3
    · have h3 := hc.reach _ i j oi hoi halli h1
      rcases Nat.lt_or_ge j listed.size with h' | h'
      · simp [h'] at hjun h3; rw [hjun] at h3; cases h3
      · simp [Array.getElem?_eq_none h'] at h3
def wpAnyGI (F : Fence) (n : Nat) (P : Program) (ops : Array Oper) (Q : Exit → Act → World → Prop) (S : World → Prop) : Nat → Array Bool → Act → World → Prop
  | 0, listed, a, w => Region.ready .any ops listed = [] ∧ Q .normal a w
  | fuel + 1, listed, a, w =>
    (Region.ready .any ops listed = [] → Q .normal a w) ∧
    ∀ i ∈ Region.ready .any ops listed, wpOpIn F n P ops Q i (fun a' w' => (pivB ops i = true ∨ S w') ∧ wpAnyGI F n P ops Q S fuel (listed.setIfInBounds i true) a' w') a w
theorem wpAnyIn_of_GI : ∀ (fuel : Nat) (listed : Array Bool) (a : Act) (w : World), wpAnyGI F n P ops Q S fuel listed a w → wpAnyIn F n P .any ops Q fuel listed a w
  | 0, _, _, _, h => h
  | fuel + 1, _, _, _, h => ⟨h.1, fun i hi => wpOpIn_mono (fun a' w' h' => wpAnyIn_of_GI fuel _ a' w' h'.2) (h.2 i hi)⟩
theorem wpAnyGI_first (hF : Free F P) {i : Nat} {oi : Oper} {v : Value} (hi : ops[i]? = some oi) (hsel : ∀ (j : Nat) (o : Oper) cs b, ops[j]? = some o → o.op ≠ .select cs b)
    (hQ : ∀ c a w, Q (.panic c) (a.put oi.dst v) w → Q (.panic c) a w) :
    ∀ (fuel : Nat) (listed : Array Bool) (a : Act) (w : World), Closed ops listed →
      (∀ j oj, ops[j]? = some oj → j ≠ i → listed.getD j true = false → (∀ e ∈ oj.after, Region.binds .any e = true → e.on ≠ i) → oi.apart ops oj = true) →
      i ∈ Region.ready .any ops listed → YieldsIf P ops S oi v a → S w →
      wpAnyGI F n P ops Q S fuel (listed.setIfInBounds i true) (a.put oi.dst v) w → wpAnyGI F n P ops Q S (fuel + 1) listed a w := by
  intro fuel
  induction fuel with
  | zero =>
    intro listed a w _ _ hr hy hS H
    refine ⟨fun h => (by rw [h] at hr; cases hr), fun j hj => ?_⟩
    by_cases hji : j = i
    · subst hji; exact YieldsIf.wpOpI hF hi hy hS ⟨.inr hS, H⟩
    · have := ready_mono hj hji
      rw [H.1] at this
      cases this
  | succ fuel ih =>
    intro listed a w hc hfree hr hy hS H
    refine ⟨fun h => (by rw [h] at hr; cases hr), fun j hj => ?_⟩
    by_cases hji : j = i
    · subst hji; exact YieldsIf.wpOpI hF hi hy hS ⟨.inr hS, H⟩
    · have h1 := H.2 j (ready_mono hj hji)
      obtain ⟨hjun, oj, hoj, hall⟩ := mem_ready.1 hj
      have hnot : ∀ e ∈ oj.after, Region.binds .any e = true → e.on ≠ i := fun e he hb heq => by
        have h1 := hall e he hb
        have h0 := (mem_ready.1 hr).1
        rw [heq] at h1
        rcases Nat.lt_or_ge i listed.size with h' | h'
        · simp [h'] at h0 h1; rw [h0] at h1; cases h1
        · simp [Array.getElem?_eq_none h'] at h1
      have h2 := wpOpI_put hF hoj (hfree j oj hoj hji hjun hnot) (fun cs b => hsel i oi cs b hi) (fun cs b => hsel j oj cs b hoj) hQ hy h1
      have hfree' : ∀ k ok, ops[k]? = some ok → k ≠ i → (listed.setIfInBounds j true).getD k true = false →
          (∀ e ∈ ok.after, Region.binds .any e = true → e.on ≠ i) → oi.apart ops ok = true := fun k ok hk hki hun hno => by
        refine hfree k ok hk hki ?_ hno
        by_cases hjk : j = k
        · subst hjk; exact hjun
        · rw [getD_set_ne true hjk] at hun; exact hun
      have hnt := not_piv hc hr hj hji
      refine wpOpIn_mono (fun a' w' h3 => ?_) h2
      have hS' : S w' := by
        rcases h3.2.1 with h | h
        · rw [hnt] at h; cases h
        · exact h
      refine ⟨.inr hS', ih (listed.setIfInBounds j true) a' w' (hc.set hj) hfree' (ready_mono hr (Ne.symm hji)) h3.1 hS' ?_⟩
      rw [Array.setIfInBounds_comm _ _ hji]
      exact h3.2.2
end
structure RegI (F : Fence) (n : Nat) (P : Program) (ops : Array Oper) (Q : Exit → Act → World → Prop) (S : World → Prop) (fuel : Nat) (listed : Array Bool) (t : Array Value) (df : List Deferred) (w : World) : Prop where
  out : Closed ops listed → wpAnyGI F n P ops (NoPanic Q) S fuel listed ⟨t, df⟩ w
section
variable {F : Fence} {n : Nat} {P : Program} {ops : Array Oper} {Q : Exit → Act → World → Prop} {S : World → Prop} {fuel : Nat} {listed : Array Bool} {t : Array Value} {df : List Deferred} {w : World}
theorem regi_begin (S : World → Prop) {id : Nat} (hm : P.follows .mixedOrders = true) (h : RegI F n P ops Q S ops.size (Array.replicate ops.size false) t df w.drew) : (Code.region id ops true).wpIn F n P Q ⟨t, df⟩ w :=
  wpIn_mono (wpIn_region_any hm (wpAnyIn_of_GI _ _ _ _ (h.out (Closed.init ops)))) NoPanic.imp
theorem regi_take (hF : Free F P) (i : Nat) {o : Oper} {d : Tmp} {v : Value} (ho : ops[i]? = some o) (hd : o.dst = some d) (hck : takeOK ops listed i = true) (hw : Region.wanted o (yielded ops t) = true)
    (hr : ∀ w', S w' → (execOp (Act.eval ⟨t, df⟩) o).run P w' = .ok (.value v) w') (hS : S w)
    (k : RegI F n P ops Q S fuel (listed.setIfInBounds i true) (t.setIfInBounds d v) df w) : RegI F n P ops Q S (fuel + 1) listed t df w := by
  simp only [takeOK, Bool.and_eq_true] at hck
  exact ⟨fun hc => wpAnyGI_first hF ho (Region.noSelect_spec hck.1.1) (fun _ _ _ h => h) _ _ _ _ hc (Region.free_spec ho hck.1.2) (by simpa using hck.2) (.inl ⟨hw, hr⟩) hS (by rw [hd]; exact k.out (hc.set (by simpa using hck.2)))⟩
theorem regi_op (hF : Free F P) (i : Nat) {o : Oper} (ho : ops[i]? = some o) (hck : aloneOK ops listed i = true) (hw : Region.wanted o (yielded ops t) = true)
    (k : o.uponIn F n P ⟨t, df⟩ (fun a' w' => S w' ∧ RegI F n P ops Q S fuel (listed.setIfInBounds i true) a'.tmps a'.defers w') (NoPanic Q) ((execOp (Act.eval ⟨t, df⟩) o).run P w)) : RegI F n P ops Q S (fuel + 1) listed t df w := by
  have hck' : Region.ready .any ops listed = [i] := by simpa [aloneOK] using hck
  constructor
  intro hc
  have hci : Closed ops (listed.setIfInBounds i true) := hc.set (by rw [hck']; simp)
  refine ⟨fun h => (by rw [hck'] at h; cases h), fun j hj => ?_⟩
  rw [hck'] at hj
  obtain rfl : j = i := by simpa using hj
  unfold wpOpIn
  simp only [ho, hw, if_true]
  refine Oper.wpIn_mono (K := fun a' w' => S w' ∧ RegI F n P ops Q S fuel (listed.setIfInBounds j true) a'.tmps a'.defers w') (fun a' w' h => ⟨.inr h.1, h.2.out hci⟩) ?_
  unfold Oper.wpIn
  rw [hF.round, Oper.semAt_none]
  exact ⟨fun _ _ => hF.fn _, k⟩
theorem regi_run (hF : Free F P) (i : Nat) {o : Oper} {d : Tmp} (v : Value) (w' : World) (ho : ops[i]? = some o) (hd : o.dst = some d) (hck : aloneOK ops listed i = true) (hw : Region.wanted o (yielded ops t) = true)
    (hr : (execOp (Act.eval ⟨t, df⟩) o).run P w = .ok (.value v) w') (hS : S w')
    (k : RegI F n P ops Q S fuel (listed.setIfInBounds i true) (t.setIfInBounds d v) df w') : RegI F n P ops Q S (fuel + 1) listed t df w :=
  regi_op hF i ho hck hw (by rw [hr]; simp only [Oper.uponIn, hd, put_some]; exact ⟨hS, k⟩)
theorem regi_call (hF : Free F P) (i : Nat) {o : Oper} {d : Tmp} {f : FuncId} {args : Array Value} {R : Value → World → Prop} (ho : ops[i]? = some o) (hd : o.dst = some d) (hck : aloneOK ops listed i = true) (hw : Region.wanted o (yielded ops t) = true)
    (hr : (execOp (Act.eval ⟨t, df⟩) o).run P w = .ok (.enter f args) w) (hc : Calls P f args w fun e w' => ∃ v, e = .returned v ∧ R v w')
    (k : ∀ v w', R v w' → S w' ∧ RegI F n P ops Q S fuel (listed.setIfInBounds i true) (t.setIfInBounds d v) df w') : RegI F n P ops Q S (fuel + 1) listed t df w :=
  regi_op hF i ho hck hw (by
    rw [hr]
    refine ⟨hF.ask _, (hF.calls _ _ _ _ _ hc).mono ?_⟩
    rintro e w' ⟨v, rfl, h⟩
    simp only [hd, put_some]
    exact k v w' h)
theorem regi_round (hF : Free F P) (i : Nat) {o : Oper} {d l : Nat} {f : FuncId} {tmps : Array Value} {assign body : Code} {w1 : World} {R : Value → World → Prop} (ho : ops[i]? = some o) (hd : o.dst = some d) (hck : aloneOK ops listed i = true) (hw : Region.wanted o (yielded ops t) = true)
    (hr : (execOp (Act.eval ⟨t, df⟩) o).run P w = .ok (.round l f tmps assign body) w1) (hc : RoundIn F (n - 1) P l f tmps assign body w1 fun e w' => ∃ v, e = .returned v ∧ R v w')
    (k : ∀ v w', R v w' → S w' ∧ RegI F n P ops Q S fuel (listed.setIfInBounds i true) (t.setIfInBounds d v) df w') : RegI F n P ops Q S (fuel + 1) listed t df w :=
  regi_op hF i ho hck hw (by
    rw [hr]
    refine ⟨hF.ask _, hc.mono ?_⟩
    rintro e w' ⟨v, rfl, h⟩
    simp only [hd, put_some]
    exact k v w' h)
theorem regi_done (hr : (Region.ready .any ops listed).isEmpty = true) (h : Q .normal ⟨t, df⟩ w) : RegI F n P ops Q S fuel listed t df w := by
  have hr' : Region.ready .any ops listed = [] := by simpa using hr
  constructor
  intro _
  cases fuel with
  | zero => exact ⟨hr', NoPanic.normal h⟩
  | succ n => exact ⟨fun _ => NoPanic.normal h, fun j hj => by rw [hr'] at hj; cases hj⟩
end
end Go.Sl
end
