/- solventlaw28.do. Printed by ad.py. -/
import Derived.Test.YtmgcgdkndkibgaaGreatWd
namespace Go.Proofs.YtmgcgdkndkibgaaGreat
open Go.RowKit Go.Vol Go.Sl

/-- What do answers: the space's pointer, the error. -/
def DoOut2 (w : World) (S : SpaceM) (o : VOp) (e : Ending) (w' : World) : Prop := ∃ p : Nat, e = .returned (.tuple #[.pointer (some ⟨p, 0, none⟩), .int .i64 (stepM S o).e]) ∧ Hid (Below w.heap.size w w' ∧ SpaceAt TNode TSp w' p (doM S o))
abbrev TOp28 : TypeId := 72

set_option maxRecDepth 20000 in
set_option maxHeartbeats 1000000 in
theorem lawdo1_any (p : Nat) (S : SpaceM) (a b c : Int) (w : World) (hS : SpaceAt TNode TSp w p S) (hwf : S.WF) :
    Calls Tryz.prog 31 #[.pointer (some ⟨p, 0, none⟩), .agg #[.int .i64 1, .int .i64 a, .int .i64 b, .int .i64 c]] w (DoOut2 w S ⟨1, a, b, c⟩) := by
  have hb0 := (Below.refl w.heap.size w).alloc (Nat.le_refl _) (.cells #[.int .i64 1, .int .i64 a, .int .i64 b, .int .i64 c] TOp28)
  have HC := Lib.hid (createN_any p S a (w.alloc (.cells #[.int .i64 1, .int .i64 a, .int .i64 b, .int .i64 c] TOp28)) (hS.below hb0) hwf)
  have hst : stepM S ⟨1, a, b, c⟩ = S.create a Vol.empty := by simp [stepM]
  have HB := Lib.hid (And.intro hb0 hS)
  rcases (show (S.create a Vol.empty).Link from create_link _ _ _) with ⟨h0, T, hT⟩ | ⟨h0, hT⟩
  · have HO := Lib.hid (And.intro h0 (And.intro hT (And.intro hst (show doM S ⟨1, a, b, c⟩ = T by unfold doM; rw [hst, hT]))))
    clear hS hwf hb0 hst h0 hT
    go_enter Tryz.func31, Tryz.ntmps31
    go_wp2_with (go_at_call 49; refine HC.out.mono ?_; rintro e w1 h; obtain ⟨p1, rfl, h1⟩ := Res3.ok h HO.out.1 HO.out.2.1; clear h)
    refine bodyPost_ret (v := .tuple #[_, _]) (by simp [results, Tryz.results31, go_sem]; exact ⟨rfl, rfl⟩) rfl ?_
    refine ⟨p1, ?_, HB.out.1.trans (h1.out.1.mono HB.out.1.size), by rw [HO.out.2.2.2]; exact h1.out.2⟩
    rw [HO.out.2.2.1, HO.out.1]
  · have HO := Lib.hid (And.intro h0 (And.intro hT (And.intro hst (show doM S ⟨1, a, b, c⟩ = S by unfold doM; rw [hst, hT]))))
    have hne : ((S.create a Vol.empty).e != 0) = true := by simpa using h0
    generalize hE : (S.create a Vol.empty).e = E at hne
    have HE := Lib.hid hE
    clear hS hwf hb0 hst h0 hT hE
    go_enter Tryz.func31, Tryz.ntmps31
    go_wp2_with (go_at_call 49; refine HC.out.mono ?_; rintro e w1 h; obtain ⟨rfl, h1⟩ := Res3.no h HO.out.2.1; clear h; rw [HE.out])
    refine bodyPost_ret (v := .tuple #[_, _]) (by simp [results, Tryz.results31, go_sem]; exact ⟨rfl, rfl⟩) rfl ?_
    refine ⟨p, ?_, HB.out.1.trans (h1.out.mono HB.out.1.size), by rw [HO.out.2.2.2]; exact (HB.out.2.below HB.out.1).below h1.out⟩
    rw [HO.out.2.2.1, HE.out]

set_option maxRecDepth 20000 in
set_option maxHeartbeats 1000000 in
theorem lawdo2_any (p : Nat) (S : SpaceM) (a b c : Int) (w : World) (hS : SpaceAt TNode TSp w p S) (hwf : S.WF) :
    Calls Tryz.prog 31 #[.pointer (some ⟨p, 0, none⟩), .agg #[.int .i64 2, .int .i64 a, .int .i64 b, .int .i64 c]] w (DoOut2 w S ⟨2, a, b, c⟩) := by
  have hb0 := (Below.refl w.heap.size w).alloc (Nat.le_refl _) (.cells #[.int .i64 2, .int .i64 a, .int .i64 b, .int .i64 c] TOp28)
  have HC := Lib.hid (deleteS_any p S a (w.alloc (.cells #[.int .i64 2, .int .i64 a, .int .i64 b, .int .i64 c] TOp28)) (hS.below hb0) hwf)
  have hst : stepM S ⟨2, a, b, c⟩ = S.delete a := by simp [stepM]
  have HB := Lib.hid (And.intro hb0 hS)
  rcases (show (S.delete a).Link from delete_link _ _) with ⟨h0, T, hT⟩ | ⟨h0, hT⟩
  · have HO := Lib.hid (And.intro h0 (And.intro hT (And.intro hst (show doM S ⟨2, a, b, c⟩ = T by unfold doM; rw [hst, hT]))))
    clear hS hwf hb0 hst h0 hT
    go_enter Tryz.func31, Tryz.ntmps31
    go_wp2_with (go_at_call 50; refine HC.out.mono ?_; rintro e w1 h; obtain ⟨p1, rfl, h1⟩ := Res2.ok h HO.out.1 HO.out.2.1; clear h)
    refine bodyPost_ret (v := .tuple #[_, _]) (by simp [results, Tryz.results31, go_sem]; exact ⟨rfl, rfl⟩) rfl ?_
    refine ⟨p1, ?_, HB.out.1.trans (h1.out.1.mono HB.out.1.size), by rw [HO.out.2.2.2]; exact h1.out.2⟩
    rw [HO.out.2.2.1, HO.out.1]
  · have HO := Lib.hid (And.intro h0 (And.intro hT (And.intro hst (show doM S ⟨2, a, b, c⟩ = S by unfold doM; rw [hst, hT]))))
    have hne : ((S.delete a).e != 0) = true := by simpa using h0
    generalize hE : (S.delete a).e = E at hne
    have HE := Lib.hid hE
    clear hS hwf hb0 hst h0 hT hE
    go_enter Tryz.func31, Tryz.ntmps31
    go_wp2_with (go_at_call 50; refine HC.out.mono ?_; rintro e w1 h; obtain ⟨rfl, h1⟩ := Res2.no h HO.out.2.1; clear h; rw [HE.out])
    refine bodyPost_ret (v := .tuple #[_, _]) (by simp [results, Tryz.results31, go_sem]; exact ⟨rfl, rfl⟩) rfl ?_
    refine ⟨p, ?_, HB.out.1.trans (h1.out.mono HB.out.1.size), by rw [HO.out.2.2.2]; exact (HB.out.2.below HB.out.1).below h1.out⟩
    rw [HO.out.2.2.1, HE.out]

set_option maxRecDepth 20000 in
set_option maxHeartbeats 1000000 in
theorem lawdo3_any (p : Nat) (S : SpaceM) (a b c : Int) (w : World) (hS : SpaceAt TNode TSp w p S) (hwf : S.WF) :
    Calls Tryz.prog 31 #[.pointer (some ⟨p, 0, none⟩), .agg #[.int .i64 3, .int .i64 a, .int .i64 b, .int .i64 c]] w (DoOut2 w S ⟨3, a, b, c⟩) := by
  have hb0 := (Below.refl w.heap.size w).alloc (Nat.le_refl _) (.cells #[.int .i64 3, .int .i64 a, .int .i64 b, .int .i64 c] TOp28)
  have HC := Lib.hid (giveS_any p S a b (w.alloc (.cells #[.int .i64 3, .int .i64 a, .int .i64 b, .int .i64 c] TOp28)) (hS.below hb0) hwf)
  have hst : stepM S ⟨3, a, b, c⟩ = S.give a b := by simp [stepM]
  have HB := Lib.hid (And.intro hb0 hS)
  rcases (show (S.give a b).Link from change_link _ _ _ _) with ⟨h0, T, hT⟩ | ⟨h0, hT⟩
  · have HO := Lib.hid (And.intro h0 (And.intro hT (And.intro hst (show doM S ⟨3, a, b, c⟩ = T by unfold doM; rw [hst, hT]))))
    clear hS hwf hb0 hst h0 hT
    go_enter Tryz.func31, Tryz.ntmps31
    go_wp2_with (go_at_call 51; refine HC.out.mono ?_; rintro e w1 h; obtain ⟨p1, rfl, h1⟩ := Res2.ok h HO.out.1 HO.out.2.1; clear h)
    refine bodyPost_ret (v := .tuple #[_, _]) (by simp [results, Tryz.results31, go_sem]; exact ⟨rfl, rfl⟩) rfl ?_
    refine ⟨p1, ?_, HB.out.1.trans (h1.out.1.mono HB.out.1.size), by rw [HO.out.2.2.2]; exact h1.out.2⟩
    rw [HO.out.2.2.1, HO.out.1]
  · have HO := Lib.hid (And.intro h0 (And.intro hT (And.intro hst (show doM S ⟨3, a, b, c⟩ = S by unfold doM; rw [hst, hT]))))
    have hne : ((S.give a b).e != 0) = true := by simpa using h0
    generalize hE : (S.give a b).e = E at hne
    have HE := Lib.hid hE
    clear hS hwf hb0 hst h0 hT hE
    go_enter Tryz.func31, Tryz.ntmps31
    go_wp2_with (go_at_call 51; refine HC.out.mono ?_; rintro e w1 h; obtain ⟨rfl, h1⟩ := Res2.no h HO.out.2.1; clear h; rw [HE.out])
    refine bodyPost_ret (v := .tuple #[_, _]) (by simp [results, Tryz.results31, go_sem]; exact ⟨rfl, rfl⟩) rfl ?_
    refine ⟨p, ?_, HB.out.1.trans (h1.out.mono HB.out.1.size), by rw [HO.out.2.2.2]; exact (HB.out.2.below HB.out.1).below h1.out⟩
    rw [HO.out.2.2.1, HE.out]

set_option maxRecDepth 20000 in
set_option maxHeartbeats 1000000 in
theorem lawdo4_any (p : Nat) (S : SpaceM) (a b c : Int) (w : World) (hS : SpaceAt TNode TSp w p S) (hwf : S.WF) :
    Calls Tryz.prog 31 #[.pointer (some ⟨p, 0, none⟩), .agg #[.int .i64 4, .int .i64 a, .int .i64 b, .int .i64 c]] w (DoOut2 w S ⟨4, a, b, c⟩) := by
  have hb0 := (Below.refl w.heap.size w).alloc (Nat.le_refl _) (.cells #[.int .i64 4, .int .i64 a, .int .i64 b, .int .i64 c] TOp28)
  have HC := Lib.hid (mapS_any p S a b c (w.alloc (.cells #[.int .i64 4, .int .i64 a, .int .i64 b, .int .i64 c] TOp28)) (hS.below hb0) hwf)
  have hst : stepM S ⟨4, a, b, c⟩ = S.map a b c := by simp [stepM]
  have HB := Lib.hid (And.intro hb0 hS)
  rcases (show (S.map a b c).Link from change_link _ _ _ _) with ⟨h0, T, hT⟩ | ⟨h0, hT⟩
  · have HO := Lib.hid (And.intro h0 (And.intro hT (And.intro hst (show doM S ⟨4, a, b, c⟩ = T by unfold doM; rw [hst, hT]))))
    clear hS hwf hb0 hst h0 hT
    go_enter Tryz.func31, Tryz.ntmps31
    go_wp2_with (go_at_call 52; refine HC.out.mono ?_; rintro e w1 h; obtain ⟨p1, rfl, h1⟩ := Res2.ok h HO.out.1 HO.out.2.1; clear h)
    refine bodyPost_ret (v := .tuple #[_, _]) (by simp [results, Tryz.results31, go_sem]; exact ⟨rfl, rfl⟩) rfl ?_
    refine ⟨p1, ?_, HB.out.1.trans (h1.out.1.mono HB.out.1.size), by rw [HO.out.2.2.2]; exact h1.out.2⟩
    rw [HO.out.2.2.1, HO.out.1]
  · have HO := Lib.hid (And.intro h0 (And.intro hT (And.intro hst (show doM S ⟨4, a, b, c⟩ = S by unfold doM; rw [hst, hT]))))
    have hne : ((S.map a b c).e != 0) = true := by simpa using h0
    generalize hE : (S.map a b c).e = E at hne
    have HE := Lib.hid hE
    clear hS hwf hb0 hst h0 hT hE
    go_enter Tryz.func31, Tryz.ntmps31
    go_wp2_with (go_at_call 52; refine HC.out.mono ?_; rintro e w1 h; obtain ⟨rfl, h1⟩ := Res2.no h HO.out.2.1; clear h; rw [HE.out])
    refine bodyPost_ret (v := .tuple #[_, _]) (by simp [results, Tryz.results31, go_sem]; exact ⟨rfl, rfl⟩) rfl ?_
    refine ⟨p, ?_, HB.out.1.trans (h1.out.mono HB.out.1.size), by rw [HO.out.2.2.2]; exact (HB.out.2.below HB.out.1).below h1.out⟩
    rw [HO.out.2.2.1, HE.out]

set_option maxRecDepth 20000 in
set_option maxHeartbeats 1000000 in
theorem lawdo5_any (p : Nat) (S : SpaceM) (a b c : Int) (w : World) (hS : SpaceAt TNode TSp w p S) (hwf : S.WF) :
    Calls Tryz.prog 31 #[.pointer (some ⟨p, 0, none⟩), .agg #[.int .i64 5, .int .i64 a, .int .i64 b, .int .i64 c]] w (DoOut2 w S ⟨5, a, b, c⟩) := by
  have hb0 := (Below.refl w.heap.size w).alloc (Nat.le_refl _) (.cells #[.int .i64 5, .int .i64 a, .int .i64 b, .int .i64 c] TOp28)
  have HC := Lib.hid (unmapS_any p S a b (w.alloc (.cells #[.int .i64 5, .int .i64 a, .int .i64 b, .int .i64 c] TOp28)) (hS.below hb0) hwf)
  have hst : stepM S ⟨5, a, b, c⟩ = S.unmap a b := by simp [stepM]
  have HB := Lib.hid (And.intro hb0 hS)
  rcases (show (S.unmap a b).Link from change_link _ _ _ _) with ⟨h0, T, hT⟩ | ⟨h0, hT⟩
  · have HO := Lib.hid (And.intro h0 (And.intro hT (And.intro hst (show doM S ⟨5, a, b, c⟩ = T by unfold doM; rw [hst, hT]))))
    clear hS hwf hb0 hst h0 hT
    go_enter Tryz.func31, Tryz.ntmps31
    go_wp2_with (go_at_call 53; refine HC.out.mono ?_; rintro e w1 h; obtain ⟨p1, rfl, h1⟩ := Res2.ok h HO.out.1 HO.out.2.1; clear h)
    refine bodyPost_ret (v := .tuple #[_, _]) (by simp [results, Tryz.results31, go_sem]; exact ⟨rfl, rfl⟩) rfl ?_
    refine ⟨p1, ?_, HB.out.1.trans (h1.out.1.mono HB.out.1.size), by rw [HO.out.2.2.2]; exact h1.out.2⟩
    rw [HO.out.2.2.1, HO.out.1]
  · have HO := Lib.hid (And.intro h0 (And.intro hT (And.intro hst (show doM S ⟨5, a, b, c⟩ = S by unfold doM; rw [hst, hT]))))
    have hne : ((S.unmap a b).e != 0) = true := by simpa using h0
    generalize hE : (S.unmap a b).e = E at hne
    have HE := Lib.hid hE
    clear hS hwf hb0 hst h0 hT hE
    go_enter Tryz.func31, Tryz.ntmps31
    go_wp2_with (go_at_call 53; refine HC.out.mono ?_; rintro e w1 h; obtain ⟨rfl, h1⟩ := Res2.no h HO.out.2.1; clear h; rw [HE.out])
    refine bodyPost_ret (v := .tuple #[_, _]) (by simp [results, Tryz.results31, go_sem]; exact ⟨rfl, rfl⟩) rfl ?_
    refine ⟨p, ?_, HB.out.1.trans (h1.out.mono HB.out.1.size), by rw [HO.out.2.2.2]; exact (HB.out.2.below HB.out.1).below h1.out⟩
    rw [HO.out.2.2.1, HE.out]

set_option maxRecDepth 20000 in
set_option maxHeartbeats 1000000 in
theorem lawdo6_any (p : Nat) (S : SpaceM) (a b c : Int) (w : World) (hS : SpaceAt TNode TSp w p S) (hwf : S.WF) :
    Calls Tryz.prog 31 #[.pointer (some ⟨p, 0, none⟩), .agg #[.int .i64 6, .int .i64 a, .int .i64 b, .int .i64 c]] w (DoOut2 w S ⟨6, a, b, c⟩) := by
  have hb0 := (Below.refl w.heap.size w).alloc (Nat.le_refl _) (.cells #[.int .i64 6, .int .i64 a, .int .i64 b, .int .i64 c] TOp28)
  have HC := Lib.hid (snapshotS_any p S a (w.alloc (.cells #[.int .i64 6, .int .i64 a, .int .i64 b, .int .i64 c] TOp28)) (hS.below hb0) hwf)
  have hst : stepM S ⟨6, a, b, c⟩ = S.snapshot a := by simp [stepM]
  have HB := Lib.hid (And.intro hb0 hS)
  rcases (show (S.snapshot a).Link from snapshot_link _ _) with ⟨h0, T, hT⟩ | ⟨h0, hT⟩
  · have HO := Lib.hid (And.intro h0 (And.intro hT (And.intro hst (show doM S ⟨6, a, b, c⟩ = T by unfold doM; rw [hst, hT]))))
    clear hS hwf hb0 hst h0 hT
    go_enter Tryz.func31, Tryz.ntmps31
    go_wp2_with (go_at_call 54; refine HC.out.mono ?_; rintro e w1 h; obtain ⟨p1, rfl, h1⟩ := Res3.ok h HO.out.1 HO.out.2.1; clear h)
    refine bodyPost_ret (v := .tuple #[_, _]) (by simp [results, Tryz.results31, go_sem]; exact ⟨rfl, rfl⟩) rfl ?_
    refine ⟨p1, ?_, HB.out.1.trans (h1.out.1.mono HB.out.1.size), by rw [HO.out.2.2.2]; exact h1.out.2⟩
    rw [HO.out.2.2.1, HO.out.1]
  · have HO := Lib.hid (And.intro h0 (And.intro hT (And.intro hst (show doM S ⟨6, a, b, c⟩ = S by unfold doM; rw [hst, hT]))))
    have hne : ((S.snapshot a).e != 0) = true := by simpa using h0
    generalize hE : (S.snapshot a).e = E at hne
    have HE := Lib.hid hE
    clear hS hwf hb0 hst h0 hT hE
    go_enter Tryz.func31, Tryz.ntmps31
    go_wp2_with (go_at_call 54; refine HC.out.mono ?_; rintro e w1 h; obtain ⟨rfl, h1⟩ := Res3.no h HO.out.2.1; clear h; rw [HE.out])
    refine bodyPost_ret (v := .tuple #[_, _]) (by simp [results, Tryz.results31, go_sem]; exact ⟨rfl, rfl⟩) rfl ?_
    refine ⟨p, ?_, HB.out.1.trans (h1.out.mono HB.out.1.size), by rw [HO.out.2.2.2]; exact (HB.out.2.below HB.out.1).below h1.out⟩
    rw [HO.out.2.2.1, HE.out]

set_option maxRecDepth 20000 in
set_option maxHeartbeats 1000000 in
theorem lawdo7_any (p : Nat) (S : SpaceM) (a b c : Int) (w : World) (hS : SpaceAt TNode TSp w p S) (hwf : S.WF) :
    Calls Tryz.prog 31 #[.pointer (some ⟨p, 0, none⟩), .agg #[.int .i64 7, .int .i64 a, .int .i64 b, .int .i64 c]] w (DoOut2 w S ⟨7, a, b, c⟩) := by
  have hb0 := (Below.refl w.heap.size w).alloc (Nat.le_refl _) (.cells #[.int .i64 7, .int .i64 a, .int .i64 b, .int .i64 c] TOp28)
  have HC := Lib.hid (dropS_any p S a (w.alloc (.cells #[.int .i64 7, .int .i64 a, .int .i64 b, .int .i64 c] TOp28)) (hS.below hb0) hwf)
  have hst : stepM S ⟨7, a, b, c⟩ = S.drop a := by simp [stepM]
  have HB := Lib.hid (And.intro hb0 hS)
  rcases (show (S.drop a).Link from drop_link _ _) with ⟨h0, T, hT⟩ | ⟨h0, hT⟩
  · have HO := Lib.hid (And.intro h0 (And.intro hT (And.intro hst (show doM S ⟨7, a, b, c⟩ = T by unfold doM; rw [hst, hT]))))
    clear hS hwf hb0 hst h0 hT
    go_enter Tryz.func31, Tryz.ntmps31
    go_wp2_with (go_at_call 55; refine HC.out.mono ?_; rintro e w1 h; obtain ⟨p1, rfl, h1⟩ := Res2.ok h HO.out.1 HO.out.2.1; clear h)
    refine bodyPost_ret (v := .tuple #[_, _]) (by simp [results, Tryz.results31, go_sem]; exact ⟨rfl, rfl⟩) rfl ?_
    refine ⟨p1, ?_, HB.out.1.trans (h1.out.1.mono HB.out.1.size), by rw [HO.out.2.2.2]; exact h1.out.2⟩
    rw [HO.out.2.2.1, HO.out.1]
  · have HO := Lib.hid (And.intro h0 (And.intro hT (And.intro hst (show doM S ⟨7, a, b, c⟩ = S by unfold doM; rw [hst, hT]))))
    have hne : ((S.drop a).e != 0) = true := by simpa using h0
    generalize hE : (S.drop a).e = E at hne
    have HE := Lib.hid hE
    clear hS hwf hb0 hst h0 hT hE
    go_enter Tryz.func31, Tryz.ntmps31
    go_wp2_with (go_at_call 55; refine HC.out.mono ?_; rintro e w1 h; obtain ⟨rfl, h1⟩ := Res2.no h HO.out.2.1; clear h; rw [HE.out])
    refine bodyPost_ret (v := .tuple #[_, _]) (by simp [results, Tryz.results31, go_sem]; exact ⟨rfl, rfl⟩) rfl ?_
    refine ⟨p, ?_, HB.out.1.trans (h1.out.mono HB.out.1.size), by rw [HO.out.2.2.2]; exact (HB.out.2.below HB.out.1).below h1.out⟩
    rw [HO.out.2.2.1, HE.out]

set_option maxRecDepth 20000 in
set_option maxHeartbeats 1000000 in
theorem lawdo8_any (p : Nat) (S : SpaceM) (a b c : Int) (w : World) (hS : SpaceAt TNode TSp w p S) (hwf : S.WF) :
    Calls Tryz.prog 31 #[.pointer (some ⟨p, 0, none⟩), .agg #[.int .i64 8, .int .i64 a, .int .i64 b, .int .i64 c]] w (DoOut2 w S ⟨8, a, b, c⟩) := by
  have hb0 := (Below.refl w.heap.size w).alloc (Nat.le_refl _) (.cells #[.int .i64 8, .int .i64 a, .int .i64 b, .int .i64 c] TOp28)
  have HC := Lib.hid (cloneS_any p S a b (w.alloc (.cells #[.int .i64 8, .int .i64 a, .int .i64 b, .int .i64 c] TOp28)) (hS.below hb0) hwf)
  have hst : stepM S ⟨8, a, b, c⟩ = S.clone a b := by simp [stepM]
  have HB := Lib.hid (And.intro hb0 hS)
  rcases (show (S.clone a b).Link from clone_link _ _ _) with ⟨h0, T, hT⟩ | ⟨h0, hT⟩
  · have HO := Lib.hid (And.intro h0 (And.intro hT (And.intro hst (show doM S ⟨8, a, b, c⟩ = T by unfold doM; rw [hst, hT]))))
    clear hS hwf hb0 hst h0 hT
    go_enter Tryz.func31, Tryz.ntmps31
    go_wp2_with (go_at_call 56; refine HC.out.mono ?_; rintro e w1 h; obtain ⟨p1, rfl, h1⟩ := Res3.ok h HO.out.1 HO.out.2.1; clear h)
    refine bodyPost_ret (v := .tuple #[_, _]) (by simp [results, Tryz.results31, go_sem]; exact ⟨rfl, rfl⟩) rfl ?_
    refine ⟨p1, ?_, HB.out.1.trans (h1.out.1.mono HB.out.1.size), by rw [HO.out.2.2.2]; exact h1.out.2⟩
    rw [HO.out.2.2.1, HO.out.1]
  · have HO := Lib.hid (And.intro h0 (And.intro hT (And.intro hst (show doM S ⟨8, a, b, c⟩ = S by unfold doM; rw [hst, hT]))))
    have hne : ((S.clone a b).e != 0) = true := by simpa using h0
    generalize hE : (S.clone a b).e = E at hne
    have HE := Lib.hid hE
    clear hS hwf hb0 hst h0 hT hE
    go_enter Tryz.func31, Tryz.ntmps31
    go_wp2_with (go_at_call 56; refine HC.out.mono ?_; rintro e w1 h; obtain ⟨rfl, h1⟩ := Res3.no h HO.out.2.1; clear h; rw [HE.out])
    refine bodyPost_ret (v := .tuple #[_, _]) (by simp [results, Tryz.results31, go_sem]; exact ⟨rfl, rfl⟩) rfl ?_
    refine ⟨p, ?_, HB.out.1.trans (h1.out.mono HB.out.1.size), by rw [HO.out.2.2.2]; exact (HB.out.2.below HB.out.1).below h1.out⟩
    rw [HO.out.2.2.1, HE.out]

set_option maxRecDepth 20000 in
set_option maxHeartbeats 1000000 in
theorem lawdo9_any (p : Nat) (S : SpaceM) (a b c : Int) (w : World) (hS : SpaceAt TNode TSp w p S) (hwf : S.WF) :
    Calls Tryz.prog 31 #[.pointer (some ⟨p, 0, none⟩), .agg #[.int .i64 9, .int .i64 a, .int .i64 b, .int .i64 c]] w (DoOut2 w S ⟨9, a, b, c⟩) := by
  have hb0 := (Below.refl w.heap.size w).alloc (Nat.le_refl _) (.cells #[.int .i64 9, .int .i64 a, .int .i64 b, .int .i64 c] TOp28)
  have HC := Lib.hid (restoreS_any p S a b (w.alloc (.cells #[.int .i64 9, .int .i64 a, .int .i64 b, .int .i64 c] TOp28)) (hS.below hb0) hwf)
  have hst : stepM S ⟨9, a, b, c⟩ = S.restore a b := by simp [stepM]
  have HB := Lib.hid (And.intro hb0 hS)
  rcases (show (S.restore a b).Link from restore_link _ _ _) with ⟨h0, T, hT⟩ | ⟨h0, hT⟩
  · have HO := Lib.hid (And.intro h0 (And.intro hT (And.intro hst (show doM S ⟨9, a, b, c⟩ = T by unfold doM; rw [hst, hT]))))
    clear hS hwf hb0 hst h0 hT
    go_enter Tryz.func31, Tryz.ntmps31
    go_wp2_with (go_at_call 57; refine HC.out.mono ?_; rintro e w1 h; obtain ⟨p1, rfl, h1⟩ := Res2.ok h HO.out.1 HO.out.2.1; clear h)
    refine bodyPost_ret (v := .tuple #[_, _]) (by simp [results, Tryz.results31, go_sem]; exact ⟨rfl, rfl⟩) rfl ?_
    refine ⟨p1, ?_, HB.out.1.trans (h1.out.1.mono HB.out.1.size), by rw [HO.out.2.2.2]; exact h1.out.2⟩
    rw [HO.out.2.2.1, HO.out.1]
  · have HO := Lib.hid (And.intro h0 (And.intro hT (And.intro hst (show doM S ⟨9, a, b, c⟩ = S by unfold doM; rw [hst, hT]))))
    have hne : ((S.restore a b).e != 0) = true := by simpa using h0
    generalize hE : (S.restore a b).e = E at hne
    have HE := Lib.hid hE
    clear hS hwf hb0 hst h0 hT hE
    go_enter Tryz.func31, Tryz.ntmps31
    go_wp2_with (go_at_call 57; refine HC.out.mono ?_; rintro e w1 h; obtain ⟨rfl, h1⟩ := Res2.no h HO.out.2.1; clear h; rw [HE.out])
    refine bodyPost_ret (v := .tuple #[_, _]) (by simp [results, Tryz.results31, go_sem]; exact ⟨rfl, rfl⟩) rfl ?_
    refine ⟨p, ?_, HB.out.1.trans (h1.out.mono HB.out.1.size), by rw [HO.out.2.2.2]; exact (HB.out.2.below HB.out.1).below h1.out⟩
    rw [HO.out.2.2.1, HE.out]

set_option maxRecDepth 20000 in
set_option maxHeartbeats 1000000 in
theorem lawdo0_any (p : Nat) (S : SpaceM) (d a b c : Int) (w : World) (hS : SpaceAt TNode TSp w p S) (h1 : d ≠ 1) (h2 : d ≠ 2) (h3 : d ≠ 3) (h4 : d ≠ 4) (h5 : d ≠ 5) (h6 : d ≠ 6) (h7 : d ≠ 7) (h8 : d ≠ 8) (h9 : d ≠ 9) :
    Calls Tryz.prog 31 #[.pointer (some ⟨p, 0, none⟩), .agg #[.int .i64 d, .int .i64 a, .int .i64 b, .int .i64 c]] w (DoOut2 w S ⟨d, a, b, c⟩) := by
  have hb0 := (Below.refl w.heap.size w).alloc (Nat.le_refl _) (.cells #[.int .i64 d, .int .i64 a, .int .i64 b, .int .i64 c] TOp28)
  have hst : stepM S ⟨d, a, b, c⟩ = ⟨some S, 0, 0⟩ := by simp [stepM, h1, h2, h3, h4, h5, h6, h7, h8, h9]
  have HO := Lib.hid (And.intro hst (show doM S ⟨d, a, b, c⟩ = S by unfold doM; rw [hst]))
  have HB := Lib.hid (And.intro hb0 hS)
  have n1 : (d == 1) = false := by simpa using h1
  have n2 : (d == 2) = false := by simpa using h2
  have n3 : (d == 3) = false := by simpa using h3
  have n4 : (d == 4) = false := by simpa using h4
  have n5 : (d == 5) = false := by simpa using h5
  have n6 : (d == 6) = false := by simpa using h6
  have n7 : (d == 7) = false := by simpa using h7
  have n8 : (d == 8) = false := by simpa using h8
  have n9 : (d == 9) = false := by simpa using h9
  clear hS hb0 hst h1 h2 h3 h4 h5 h6 h7 h8 h9
  go_enter Tryz.func31, Tryz.ntmps31
  go_wp2
  refine bodyPost_ret (v := .tuple #[_, _]) (by simp [results, Tryz.results31, go_sem]; exact ⟨rfl, rfl⟩) rfl ?_
  exact ⟨p, by rw [HO.out.1], HB.out.1, by rw [HO.out.2]; exact HB.out.2.below HB.out.1⟩

theorem lawdo_any (p : Nat) (S : SpaceM) (o : VOp) (w : World) (hS : SpaceAt TNode TSp w p S) (hwf : S.WF) :
    Calls Tryz.prog 31 #[.pointer (some ⟨p, 0, none⟩), .agg #[.int .i64 o.d, .int .i64 o.a, .int .i64 o.b, .int .i64 o.c]] w (DoOut2 w S o) := by
  obtain ⟨d, a, b, c⟩ := o
  by_cases h1 : d = 1
  · subst h1; exact lawdo1_any p S a b c w hS hwf
  by_cases h2 : d = 2
  · subst h2; exact lawdo2_any p S a b c w hS hwf
  by_cases h3 : d = 3
  · subst h3; exact lawdo3_any p S a b c w hS hwf
  by_cases h4 : d = 4
  · subst h4; exact lawdo4_any p S a b c w hS hwf
  by_cases h5 : d = 5
  · subst h5; exact lawdo5_any p S a b c w hS hwf
  by_cases h6 : d = 6
  · subst h6; exact lawdo6_any p S a b c w hS hwf
  by_cases h7 : d = 7
  · subst h7; exact lawdo7_any p S a b c w hS hwf
  by_cases h8 : d = 8
  · subst h8; exact lawdo8_any p S a b c w hS hwf
  by_cases h9 : d = 9
  · subst h9; exact lawdo9_any p S a b c w hS hwf
  exact lawdo0_any p S d a b c w hS h1 h2 h3 h4 h5 h6 h7 h8 h9

end Go.Proofs.YtmgcgdkndkibgaaGreat
