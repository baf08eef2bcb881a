/- The walk over disk.Pending: the keys of the cache, sorted. -/
import Derived.Test.YtdeblpnkpefbcaaDk
import Derived.Test.YtdeblpnkpefbcaaSo
import Derived.Test.YtdeblpnkpefbcaaMr
import Derived.OwnWalkIn
import Derived.BigFrameIn
namespace Go.Sl
open Go Go.RowKit Go.Maps

theorem insert_perm {H : Type} (x : Lit × DataW H) : ∀ l : List (Lit × DataW H), (DataW.insert x l).Perm (x :: l)
  | [] => List.Perm.refl _
  | y :: r => by
    unfold DataW.insert
    split
    · exact List.Perm.refl _
    · exact (List.Perm.cons y (insert_perm x r)).trans (List.Perm.swap x y r)
theorem foldr_insert_perm {H : Type} : ∀ l : List (Lit × DataW H), (l.foldr DataW.insert []).Perm l
  | [] => List.Perm.refl _
  | x :: r => (insert_perm x _).trans (List.Perm.cons x (foldr_insert_perm r))

/-- Two sorted lists of numbers that hold the same are one. -/
theorem sorted_unique {a b : List Int} (hp : a.Perm b) (ha : a.Pairwise (· ≤ ·)) (hb : b.Pairwise (· ≤ ·)) : a = b :=
  hp.eq_of_pairwise (fun _ _ _ _ h1 h2 => Int.le_antisymm h1 h2) ha hb

theorem pending_nodup (D : DiskM) : D.pending.Nodup := (List.nodup_range).filter _
theorem pending_sorted (D : DiskM) : (D.pending.map Int.ofNat).Pairwise (· ≤ ·) := by
  rw [List.pairwise_map]
  unfold DiskM.pending
  refine List.Pairwise.filter _ ?_
  exact List.pairwise_lt_range.imp (fun h => by simp; omega)
theorem keys_perm {D : DiskM} (hwf : D.WF) {l : KV} (hn : (l.map (·.1)).Nodup) (hK : KvSec l D.cache) : (l.map (·.1)).Perm (D.pending.map Int.ofNat) := by
  refine (List.perm_ext_iff_of_nodup hn ?_).2 ?_
  · refine List.Pairwise.map _ ?_ (pending_nodup D)
    intro a b h h'; exact h (Int.ofNat.inj h')
  · intro k
    constructor
    · intro h
      obtain ⟨v, hv⟩ := lk_of_mem h
      have hk := hK k
      rw [hv] at hk
      by_cases h0 : 0 ≤ k
      · rw [if_pos h0] at hk
        cases hc : D.cache k.toNat with
        | none => rw [hc] at hk; cases hk
        | some s =>
          refine List.mem_map.2 ⟨k.toNat, ?_, by simp; omega⟩
          unfold DiskM.pending
          rw [List.mem_filter, List.mem_range]
          exact ⟨(hwf.cache _ s hc).1, by rw [hc]; rfl⟩
      · rw [if_neg h0] at hk; cases hk
    · intro h
      obtain ⟨i, hi, rfl⟩ := List.mem_map.1 h
      unfold DiskM.pending at hi
      rw [List.mem_filter] at hi
      cases hc : D.cache i with
      | none => rw [hc] at hi; simp at hi
      | some s =>
        have hk := hK (i : Int)
        show (i : Int) ∈ _
        rw [if_pos (by omega), Int.toNat_natCast, hc, Option.map_some] at hk
        exact mem_of_lk hk
end Go.Sl

namespace Go.Proofs.Ytdeblpnkpefbcaa
open Go.RowKit Go.Sl Go.ChangeMaps Go.Maps Go.Sort Go.Shelf

/-- An element of a map, whatever it is. -/
def anyElem (_ : Value) : Option (DataW Unit × List MemPlace) := some (.nil, [])

theorem fit_of (es : Array MapEntry) (ck : Nat) (l : KV) (hM : MapL es ck l) (hwf : ∀ p ∈ l, (Lit.int .i64 p.1).wf = true) (hsz : es.size ≤ maxLen) :
    WideElems.Fit Try.prog 3 anyElem es ck ∧ ((es.toList.map (WideElems.rg Try.prog 3 anyElem)).map (fun p => Go.intOf p.1)) = l.map (·.1) := by
  have hkey : ∀ x ∈ es.toList, ∃ k : Int, x.key = .int .i64 k ∧ (Lit.int .i64 k).wf = true := by
    intro x hx
    have h1 : (x.key, x.val) ∈ es.toList.map (fun e => (e.key, e.val)) := List.mem_map_of_mem hx
    rw [hM.ent] at h1
    obtain ⟨p, hp, he⟩ := List.mem_map.1 h1
    simp only [Prod.mk.injEq] at he
    exact ⟨p.1, he.1.symm, hwf p hp⟩
  have hrg : ∀ x ∈ es.toList, ∀ k, x.key = .int .i64 k → (Lit.int .i64 k).wf = true → WideElems.rd Try.prog 3 anyElem x = some (.int .i64 k, .nil) := by
    intro x _ k hk hw
    have := keyOf_int_mk Try.underlying3 hw
    unfold WideElems.rd
    rw [hk, this]; rfl
  refine ⟨⟨hsz, ⟨hM.clock, hM.born, ?_⟩, ?_⟩, ?_⟩
  · have h1 : es.toList.map (·.key) = l.map fun p => Value.int .i64 p.1 := by
      have := congrArg (List.map Prod.fst) hM.ent
      simpa [List.map_map, Function.comp_def] using this
    rw [h1]
    have h2 : (l.map fun p => Value.int .i64 p.1) = (l.map (·.1)).map (Value.int .i64) := by simp [List.map_map, Function.comp_def]
    rw [h2]
    refine List.Pairwise.map _ ?_ hM.nodup
    intro a b h h'; exact h (by simpa using h')
  · intro x hx
    obtain ⟨k, hk, hw⟩ := hkey x hx
    exact ⟨_, hrg x hx k hk hw⟩
  · have h1 : (es.toList.map (WideElems.rg Try.prog 3 anyElem)).map (fun p => Go.intOf p.1) = es.toList.map fun x => Go.RowKit.intOf x.key := by
      rw [List.map_map]
      refine List.map_congr_left fun x hx => ?_
      obtain ⟨k, hk, hw⟩ := hkey x hx
      simp only [Function.comp_def, WideElems.rg, hrg x hx k hk hw, Option.getD_some, hk]
      rfl
    rw [h1]
    have h2 := congrArg (List.map fun q : Value × Value => Go.RowKit.intOf q.1) hM.ent
    simp only [List.map_map, Function.comp_def] at h2
    rw [h2]; rfl

theorem Try.sortsA (m : Nat) : AnyZI.SortsIn Try.prog Try.sortedA_ren Fence.wide m :=
  ⟨fun blk off cap ss W hH hblk hsz => callsIn_wide.2 (AnyM.slices_Sort_int Try.sortA blk off cap ss W hH hblk hsz),
   fun p cap W => callsIn_wide.2 (AnyM.slices_Sort_int_none Try.sortA p cap W)⟩


set_option maxHeartbeats 1000000 in
theorem pending_any (p : Nat) (D : DiskM) (F : HProp) (w : World) (hS : Sat w (diskAt TD TS p D * F)) :
    Calls Try.prog 24 #[.pointer (some ⟨p, 0, none⟩)] w fun e w' => ∃ v, e = .returned v ∧ Below w.heap.size w w' ∧
      w'.ownsRow w.heap.size 3 1 v D.pending.length ((D.pending.map Int.ofNat).map (Value.int .i64)) ∧ (v = .slice none 0 0 ↔ D.pending = []) := by
  obtain ⟨v, cb, ab, es, ck, l, es2, ck2, l2, ⟨hwf, hM, hK, hM2, hK2⟩, hs⟩ := diskAt_iff.1 hS
  obtain ⟨q0, q1, q2⟩ := disk_cells hs
  have hcb : w.heap[cb]? = some (.map es ck) := hs.right.right.block
  have hplt := hs.lt
  have hcblt := (Array.getElem?_eq_some_iff.1 hcb).1
  have hperm := keys_perm hwf hM.nodup hK
  have hlen : es.size = D.pending.length := by rw [hM.size]; have := hperm.length_eq; simpa using this
  have hpl : D.pending.length ≤ 65536 := by
    have h1 : D.pending.length ≤ D.n := by unfold DiskM.pending; have := List.length_filter_le (fun i => (D.cache i).isSome) (List.range D.n); simpa using this
    exact Nat.le_trans h1 hwf.small
  have hkwf : ∀ q ∈ l, (Lit.int .i64 q.1).wf = true := by
    intro q hq
    have h1 := hperm.subset (List.mem_map_of_mem (f := (·.1)) hq)
    obtain ⟨i, hi, he⟩ := List.mem_map.1 h1
    unfold DiskM.pending at hi
    rw [List.mem_filter, List.mem_range] at hi
    have := hwf.small
    rw [← he]
    exact WalkArith.wf_i64 (by simp; omega)
  obtain ⟨hfit, hkeys⟩ := fit_of es ck l hM hkwf (by unfold maxLen; omega)
  obtain ⟨D0, hD0⟩ : ∃ D0 : DataW Unit, D0 = .map ((es.toList.map (WideElems.rg Try.prog 3 anyElem)).foldr DataW.insert []) := ⟨_, rfl⟩
  have hown : w.ownsMap Try.prog 3 anyElem cb es.size D0 := ⟨es, ck, hcb, hfit, Nat.le_refl _, hD0⟩
  have hint : (intKeys D0).Perm (D.pending.map Int.ofNat) := by
    rw [hD0]
    refine List.Perm.trans ?_ hperm
    rw [← hkeys]
    exact (foldr_insert_perm _).map _
  have hsize : Maps.size D0 = es.size := by
    rw [hD0]
    have := (foldr_insert_perm (es.toList.map (WideElems.rg Try.prog 3 anyElem))).length_eq
    simpa [Maps.size] using this
  have hmax : Maps.size D0 ≤ maxLen := by rw [hsize]; unfold maxLen; omega
  have hbytes : Maps.size D0 * 8 ≤ 140737488355328 := by rw [hsize]; omega
  have HI := Lib.hid hint
  clear hS hs hM hK hM2 hK2 hfit hkeys hperm hkwf hD0 hint
  refine (callsIn_wide (n := 6)).1 ?_
  have hseq : SeqGives Fence.wide 2 Try.prog 63 #[.pointer (some ⟨w.heap.size, 0, none⟩)] encZ (fun ss => ss.Perm (intKeys D0)) (Maps.size D0) (w.alloc (.cells #[.map (some cb)] 62)) :=
    AnyZI.keys_gives (ρ := Try.keysA_ren) { Try.keysA with } Fence.wide _ trivial rfl (by omega) w.heap.size cb es.size D0 _ (by simp) (by simp) (by
      obtain ⟨es', clock, hb, Ft, hs, hD⟩ := hown
      exact ⟨es', clock, (Below.heap_alloc _ _ cb hcblt).trans hb, Ft, hs, hD⟩)
  have cK : ∀ mb W, CallsIn Fence.wide 5 Try.prog 49 #[.map mb] W fun e w' => e = .returned (.func (.func 63) #[] #[.pointer (some ⟨W.heap.size, 0, none⟩)]) ∧ w' = W.alloc (.cells #[.map mb] 62) := fun mb W => AnyZI.keys_in Try.keysA Fence.wide 5 trivial rfl mb W
  have cS := AnyZI.sorted_in Try.sortedA Fence.wide 5 trivial trivial trivial trivial rfl (by omega) (Try.sortsA _) (enters_of Try.func62 (by kernel_rfl) rfl) 63 #[.pointer (some ⟨w.heap.size, 0, none⟩)] trivial (enters_of Try.func63 (by kernel_rfl) rfl) _ _ hmax hbytes _ hseq
  change CallsIn _ _ Try.prog 48 _ _ _ at cS
  have hfK : Fence.wide.fn 49 := trivial
  have hfS : Fence.wide.fn 48 := trivial
  refine callsIn_of_wp Try.func24 rfl trivial ?_ rfl
  simp only [Try.ntmps24, List.size_toArray, List.length_cons, List.length_nil, Nat.reduceAdd, Nat.reduceSub, Array.replicate_succ, Array.replicate_zero, List.push_toArray, List.append_toArray, List.nil_append, List.cons_append]
  gi_wp2_with (first
    | (gi_at_call 49; refine (cK _ _).mono ?_; rintro e w' ⟨rfl, rfl⟩)
    | (gi_at_call 48; refine cS.mono ?_; rintro e w' ⟨v, ss, rfl, hS, hrow, hnil, hb⟩))
  go_ret
  have hp2 := hS.trans HI.out
  have hsort : ss.mergeSort (fun x y => decide (x ≤ y)) = D.pending.map Int.ofNat :=
    sorted_unique ((List.mergeSort_perm _ _).trans hp2) ((List.pairwise_mergeSort (by intro a b c h1 h2; simp at *; omega) (by intro a b; simp; omega) ss).imp (by intro a b h; simpa using h)) (pending_sorted D)
  have hlen2 : ss.length = D.pending.length := by simpa using hp2.length_eq
  rw [hsort, hlen2] at hrow
  refine ⟨v, rfl, ((Below.refl _ w).alloc (Nat.le_refl _) _).trans (hb.mono (by simp)), ownsRow_base_a hrow (by simp), hnil.trans ?_⟩
  constructor
  · rintro rfl; simpa using hlen2.symm
  · intro h; rw [h] at hlen2; simpa using hlen2

end Go.Proofs.Ytdeblpnkpefbcaa
