/- solventlaw16.contents. -/
import Derived.Test.YtdeblpnkpefbcaaLs
import Derived.Test.YtdeblpnkpefbcaaAp
namespace Go.Proofs.Ytdeblpnkpefbcaa
open Go.RowKit Go.Sl Go.ChangeMaps

abbrev TStr : TypeId := 9
def strL (D : DiskM) (k : Nat) : List Value := (List.range k).map fun j => Value.string (strV (D.content j))
theorem strL_length (D : DiskM) (k : Nat) : (strL D k).length = k := by simp [strL]
theorem strL_succ (D : DiskM) (k : Nat) : strL D (k + 1) = strL D k ++ [Value.string (strV (D.content k))] := by simp [strL, List.range_succ]
theorem strL_at (D : DiskM) {k j : Nat} (h : j < k) : (strL D k)[j]? = some (Value.string (strV (D.content j))) := by simp [strL, h]

structure ConSt (w : World) (p : Nat) (D : DiskM) (F : HProp) (l i : Value) (wr : World) : Prop where
  st : ∃ k : Nat, k ≤ D.n ∧ i = .int .i64 k ∧ Same w wr ∧ Sat wr (ownAt TStr 1 l k (strL D k) * (diskAt TD TS p D * F))

theorem info_str : (Try.prog.info? TStr).map (fun i => (i.zero, i.size, i.bytes)) = some (some (.string ByteArray.empty), 1, 16) := by kernel_rfl

set_option maxHeartbeats 400000 in
theorem contents_any (p : Nat) (D : DiskM) (F : HProp) (w : World) (hS : Sat w (diskAt TD TS p D * F)) :
    Calls Try.prog 22 #[.pointer (some ⟨p, 0, none⟩), .int .i64 (D.n : Int)] w fun e w' => ∃ v, e = .returned v ∧ Hid (Same w w' ∧ Sat w' (ownAt TStr 1 v D.n (strL D D.n) * (diskAt TD TS p D * F))) := by
  have hsm := (diskAt_wf hS).small
  obtain ⟨ti, hti, hz0, hts, hz2⟩ := info_parts info_str
  have HS := Lib.hid hS
  clear hS
  go_enter Try.func22, Try.ntmps22
  go_wp2
  go_loopw [5, 10] (fun l i wr => ConSt w p D F l i wr) (fun _ i _ => D.n - (intOf i).toNat)
  case atStart => exact ⟨⟨0, Nat.zero_le _, rfl, Same.refl w, ownAt_nil.2 HS.out⟩⟩
  case round =>
    obtain ⟨k, hk, rfl, hsm1, hs1⟩ := hrel.st
    clear hrel
    have H1 := Lib.hid (And.intro hsm1 hs1)
    obtain ⟨ao, cap, rfl⟩ := ownAt_slice hs1
    clear hsm1 hs1
    by_cases hlt : k < D.n
    · have hltd : decide ((k : Int) < (D.n : Int)) = true := decide_eq_true (by omega)
      have hki : (k : Int) ≤ 65536 := by omega
      have hrd : D.read (k : Int) = (D.content k, 0) := by unfold DiskM.read; rw [if_pos (by rw [DiskM.has_iff]; omega)]; simp
      have HR := Lib.hid hrd
      clear hrd
      go_upto_region 6 with (go_at_call 18; refine (step_read (k : Int) (H1.out.2.perm (show _ = diskAt TD TS p D * (ownAt TStr 1 _ k (strL D k) * F) from by ac_rfl)) HR.out).mono ?_; rintro e w' ⟨rfl, hb⟩; replace H1 := Lib.hid (And.intro (H1.out.1.below hb.out) (H1.out.2.below hb.out)); clear hb)
      go_wp2_with (at_builtin; refine wpList_append_ownAt (F := diskAt TD TS p D * F) rfl _ _ 42 TStr rfl ti _ Try.underlying42 hti hz0 hts hz2 rfl (H1.out.2.allocKeep _) [.string (strV (D.content k))] rfl rfl rfl ?_ (by simp [Value.oneCell']) (by unfold maxLen; omega) (by omega) ?_)
      · intro j u hu
        match j, hu with
        | 0, hu => rw [Addr.add_mid, cells_at (heap_alloc_new _ _)]; simpa using hu
      intro v' w2 h2
      replace H1 := Lib.hid (And.intro ((H1.out.1.alloc _).trans h2.out.1) h2.out.2)
      clear h2
      go_wp2
      go_roundw
      case rel => exact ⟨⟨k + 1, hlt, rfl, H1.out.1, by rw [strL_succ]; exact H1.out.2⟩⟩
      case measure => simp only [intOf]; omega
    · have hke : k = D.n := by omega
      subst hke
      have hltd : decide ((D.n : Int) < (D.n : Int)) = false := decide_eq_false (by omega)
      go_wp2
      go_ret
      exact ⟨_, rfl, H1.out⟩

end Go.Proofs.Ytdeblpnkpefbcaa
