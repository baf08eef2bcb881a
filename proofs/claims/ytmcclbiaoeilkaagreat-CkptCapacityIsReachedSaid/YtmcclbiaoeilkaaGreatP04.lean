import Derived.Shelf.SlIterI.Nil
import Derived.Shelf.SortM.Plain
import Derived.Shelf.SortM.SortNone
import Derived.Ground.GgzProg
import Derived.Ground.SlgmProg
import Derived.Test.YtmcclbiaoeilkaaGreatProg
import Derived.Test.YtmcclbiaoeilkaaGreatP03
import Derived.Test.YtmcclbiaoeilkaaGreatP02
import Derived.OwnWalkIn
import Derived.BigFrameIn
import Derived.Test.YtmcclbiaoeilkaaGreatP01
import Derived.Deep.RegionHeld3
/- Part 4 of a proof; the last part says what is proved. -/
section
namespace Go.Proofs
open Go.Shelf
def Tryz.keysA_ren : Go.Shelf.Ren := ⟨fun | 7 => 140 | 10 => 156 | n => n, fun | 23 => 128 | 26 => 3 | 3 => 153 | 28 => 169 | 0 => 0 | 27 => 168 | 33 => 89 | 4 => 4 | n => n, fun | n => n⟩
theorem Tryz.keysA : Go.Proofs.SlLaysZI.n7 Tryz.prog Tryz.keysA_ren := {
  mixed := by kernel_rfl
  f7 := ⟨Tryz.f140.name, by decide, Tryz.func140.trans (congrArg some (by kernel_rfl))⟩
  f10 := ⟨Tryz.f156.name, by decide, Tryz.func156.trans (congrArg some (by kernel_rfl))⟩
  t0 := Tryz.underlying0
  a0 := Tryz.isAgg0
  z0 := Tryz.sizeOf0
  v0 := Tryz.zeroValue0
  t4 := Tryz.underlying4
  a4 := Tryz.isAgg4
  z4 := Tryz.sizeOf4
  v4 := Tryz.zeroValue4
  t23 := Tryz.underlying128
  a23 := Tryz.isAgg128
  z23 := Tryz.sizeOf128
  v23 := Tryz.zeroValue128
  t26 := Tryz.underlying3
  a26 := Tryz.isAgg3
  z26 := Tryz.sizeOf3
  v26 := Tryz.zeroValue3
  t27 := Tryz.underlying168
  a27 := Tryz.isAgg168
  z27 := Tryz.sizeOf168
  v27 := Tryz.zeroValue168
  t28 := Tryz.underlying169
  a28 := Tryz.isAgg169
  z28 := Tryz.sizeOf169
  v28 := Tryz.zeroValue169
  t33 := Tryz.underlying89
  a33 := Tryz.isAgg89
  z33 := Tryz.sizeOf89
  v33 := Tryz.zeroValue89 }
def Tryz.sortedA_ren : Go.Shelf.Ren := ⟨fun | 6 => 139 | 8 => 154 | 9 => 155 | 11 => 160 | 13 => 162 | 12 => 161 | 23 => 172 | 24 => 173 | 14 => 163 | 15 => 164 | 16 => 165 | 17 => 166 | 18 => 167 | 19 => 168 | 20 => 169 | 21 => 170 | 22 => 171 | 25 => 174 | 26 => 175 | 27 => 176 | 28 => 177 | 29 => 178 | 30 => 146 | 31 => 179 | n => n, fun | 26 => 3 | 28 => 169 | 24 => 38 | 0 => 0 | 3 => 3 | 37 => 176 | 48 => 161 | 50 => 175 | 4 => 4 | 40 => 188 | 39 => 187 | 45 => 111 | 5 => 5 | 9 => 9 | 51 => 196 | 55 => 200 | 57 => 202 | 58 => 203 | 33 => 89 | n => n, fun | n => n⟩
theorem Tryz.sortedA : Go.Proofs.SlLaysZI.n6 Tryz.prog Tryz.sortedA_ren := {
  mixed := by kernel_rfl
  f6 := ⟨Tryz.f139.name, by decide, Tryz.func139.trans (congrArg some (by kernel_rfl))⟩
  f8 := ⟨Tryz.f154.name, by decide, Tryz.func154.trans (congrArg some (by kernel_rfl))⟩
  f11 := ⟨Tryz.f160.name, by decide, Tryz.func160.trans (congrArg some (by kernel_rfl))⟩
  t0 := Tryz.underlying0
  a0 := Tryz.isAgg0
  z0 := Tryz.sizeOf0
  v0 := Tryz.zeroValue0
  t24 := Tryz.underlying38
  a24 := Tryz.isAgg38
  z24 := Tryz.sizeOf38
  v24 := Tryz.zeroValue38
  t26 := Tryz.underlying3
  a26 := Tryz.isAgg3
  z26 := Tryz.sizeOf3
  v26 := Tryz.zeroValue3
  t28 := Tryz.underlying169
  a28 := Tryz.isAgg169
  z28 := Tryz.sizeOf169
  v28 := Tryz.zeroValue169
  i26 := by kernel_rfl }
def Tryz.sortA_ren : Go.Shelf.Ren := ⟨fun | 5 => 155 | 8 => 162 | 7 => 161 | 19 => 172 | 20 => 173 | 10 => 163 | 11 => 164 | 12 => 165 | 13 => 166 | 14 => 167 | 15 => 168 | 16 => 169 | 17 => 170 | 18 => 171 | 30 => 174 | 31 => 175 | 32 => 176 | 33 => 177 | 34 => 178 | 35 => 146 | 40 => 179 | n => n, fun | 23 => 38 | 25 => 3 | 3 => 3 | 32 => 176 | 22 => 38 | 0 => 0 | 44 => 161 | 46 => 175 | 4 => 4 | 36 => 188 | 35 => 187 | 41 => 111 | 5 => 5 | 9 => 9 | 53 => 196 | 57 => 200 | 63 => 202 | 64 => 203 | n => n, fun | n => n⟩
theorem Tryz.sortA : Go.Proofs.SlLaysM.n5 Tryz.prog Tryz.sortA_ren := {
  mixed := by kernel_rfl
  f5 := ⟨Tryz.f155.name, by decide, Tryz.func155.trans (congrArg some (by kernel_rfl))⟩
  f7 := ⟨Tryz.f161.name, by decide, Tryz.func161.trans (congrArg some (by kernel_rfl))⟩
  f8 := Tryz.func162.trans (congrArg some (by kernel_rfl))
  f10 := ⟨Tryz.f163.name, by decide, Tryz.func163.trans (congrArg some (by kernel_rfl))⟩
  f11 := ⟨Tryz.f164.name, by decide, Tryz.func164.trans (congrArg some (by kernel_rfl))⟩
  f12 := ⟨Tryz.f165.name, by decide, Tryz.func165.trans (congrArg some (by kernel_rfl))⟩
  f13 := ⟨Tryz.f166.name, by decide, Tryz.func166.trans (congrArg some (by kernel_rfl))⟩
  f14 := ⟨Tryz.f167.name, by decide, Tryz.func167.trans (congrArg some (by kernel_rfl))⟩
  f15 := ⟨Tryz.f168.name, by decide, Tryz.func168.trans (congrArg some (by kernel_rfl))⟩
  f16 := ⟨Tryz.f169.name, by decide, Tryz.func169.trans (congrArg some (by kernel_rfl))⟩
  f17 := ⟨Tryz.f170.name, by decide, Tryz.func170.trans (congrArg some (by kernel_rfl))⟩
  f18 := ⟨Tryz.f171.name, by decide, Tryz.func171.trans (congrArg some (by kernel_rfl))⟩
  f19 := Tryz.func172.trans (congrArg some (by kernel_rfl))
  f20 := Tryz.func173.trans (congrArg some (by kernel_rfl))
  f30 := ⟨Tryz.f174.name, by decide, Tryz.func174.trans (congrArg some (by kernel_rfl))⟩
  f31 := Tryz.func175.trans (congrArg some (by kernel_rfl))
  f32 := Tryz.func176.trans (congrArg some (by kernel_rfl))
  f33 := ⟨Tryz.f177.name, by decide, Tryz.func177.trans (congrArg some (by kernel_rfl))⟩
  f34 := ⟨Tryz.f178.name, by decide, Tryz.func178.trans (congrArg some (by kernel_rfl))⟩
  f35 := ⟨Tryz.f146.name, by decide, Tryz.func146.trans (congrArg some (by kernel_rfl))⟩
  f40 := ⟨Tryz.f179.name, by decide, Tryz.func179.trans (congrArg some (by kernel_rfl))⟩
  t0 := Tryz.underlying0
  a0 := Tryz.isAgg0
  z0 := Tryz.sizeOf0
  v0 := Tryz.zeroValue0
  t3 := Tryz.underlying3
  a3 := Tryz.isAgg3
  z3 := Tryz.sizeOf3
  v3 := Tryz.zeroValue3
  t4 := Tryz.underlying4
  a4 := Tryz.isAgg4
  z4 := Tryz.sizeOf4
  v4 := Tryz.zeroValue4
  t5 := Tryz.underlying5
  a5 := Tryz.isAgg5
  z5 := Tryz.sizeOf5
  v5 := Tryz.zeroValue5
  t9 := Tryz.underlying9
  a9 := Tryz.isAgg9
  z9 := Tryz.sizeOf9
  v9 := Tryz.zeroValue9
  t22 := Tryz.underlying38
  a22 := Tryz.isAgg38
  z22 := Tryz.sizeOf38
  v22 := Tryz.zeroValue38
  t23 := Tryz.underlying38
  a23 := Tryz.isAgg38
  z23 := Tryz.sizeOf38
  v23 := Tryz.zeroValue38
  t25 := Tryz.underlying3
  a25 := Tryz.isAgg3
  z25 := Tryz.sizeOf3
  v25 := Tryz.zeroValue3
  t32 := Tryz.underlying176
  a32 := Tryz.isAgg176
  z32 := Tryz.sizeOf176
  v32 := Tryz.zeroValue176
  t35 := Tryz.underlying187
  a35 := Tryz.isAgg187
  z35 := Tryz.sizeOf187
  v35 := Tryz.zeroValue187
  t36 := Tryz.underlying188
  a36 := Tryz.isAgg188
  z36 := Tryz.sizeOf188
  v36 := Tryz.zeroValue188
  t41 := Tryz.underlying111
  a41 := Tryz.isAgg111
  z41 := Tryz.sizeOf111
  v41 := Tryz.zeroValue111
  t44 := Tryz.underlying161
  a44 := Tryz.isAgg161
  z44 := Tryz.sizeOf161
  v44 := Tryz.zeroValue161
  t46 := Tryz.underlying175
  a46 := Tryz.isAgg175
  z46 := Tryz.sizeOf175
  v46 := Tryz.zeroValue175
  t53 := Tryz.underlying196
  a53 := Tryz.isAgg196
  z53 := Tryz.sizeOf196
  v53 := Tryz.zeroValue196
  t57 := Tryz.underlying200
  a57 := Tryz.isAgg200
  z57 := Tryz.sizeOf200
  v57 := Tryz.zeroValue200
  t63 := Tryz.underlying202
  a63 := Tryz.isAgg202
  z63 := Tryz.sizeOf202
  v63 := Tryz.zeroValue202
  t64 := Tryz.underlying203
  a64 := Tryz.isAgg203
  z64 := Tryz.sizeOf203
  v64 := Tryz.zeroValue203 }
end Go.Proofs
end
section
namespace Go.Sl
open Go Go.RowKit Go.Maps
theorem insert_perm {H : Type} (x : Lit × DataW H) : ∀ l : List (Lit × DataW H), (DataW.insert x l).Perm (x :: l)
  | [] => List.Perm.refl _
  | y :: r => by
    unfold DataW.insert
    split
    · exact List.Perm.refl _
    · exact (List.Perm.cons y (insert_perm x r)).trans (List.Perm.swap x y r)
theorem foldr_insert_perm {H : Type} : ∀ l : List (Lit × DataW H), (l.foldr DataW.insert []).Perm l
  | [] => List.Perm.refl _
  | x :: r => (insert_perm x _).trans (List.Perm.cons x (foldr_insert_perm r))
theorem sorted_unique {a b : List Int} (hp : a.Perm b) (ha : a.Pairwise (· ≤ ·)) (hb : b.Pairwise (· ≤ ·)) : a = b :=
  hp.eq_of_pairwise (fun _ _ _ _ h1 h2 => Int.le_antisymm h1 h2) ha hb
theorem pending_nodup (D : DiskM) : D.pending.Nodup := (List.nodup_range).filter _
theorem pending_sorted (D : DiskM) : (D.pending.map Int.ofNat).Pairwise (· ≤ ·) := by
  rw [List.pairwise_map]
  unfold DiskM.pending
  refine List.Pairwise.filter _ ?_
  exact List.pairwise_lt_range.imp (fun h => by simp; omega)
theorem keys_perm {D : DiskM} (hwf : D.WF) {l : KV} (hn : (l.map (·.1)).Nodup) (hK : KvSec l D.cache) : (l.map (·.1)).Perm (D.pending.map Int.ofNat) := by
  refine (List.perm_ext_iff_of_nodup hn ?_).2 ?_
  · refine List.Pairwise.map _ ?_ (pending_nodup D)
    intro a b h h'; exact h (Int.ofNat.inj h')
  · intro k
    constructor
    · intro h
      obtain ⟨v, hv⟩ := lk_of_mem h
      have hk := hK k
      rw [hv] at hk
      by_cases h0 : 0 ≤ k
      · rw [if_pos h0] at hk
        cases hc : D.cache k.toNat with
        | none => rw [hc] at hk; cases hk
        | some s =>
          refine List.mem_map.2 ⟨k.toNat, ?_, by simp; omega⟩
          unfold DiskM.pending
          rw [List.mem_filter, List.mem_range]
          exact ⟨(hwf.cache _ s hc).1, by rw [hc]; rfl⟩
      · rw [if_neg h0] at hk; cases hk
    · intro h
      obtain ⟨i, hi, rfl⟩ := List.mem_map.1 h
      unfold DiskM.pending at hi
      rw [List.mem_filter] at hi
      cases hc : D.cache i with
      | none => rw [hc] at hi; simp at hi
      | some s =>
        have hk := hK (i : Int)
        show (i : Int) ∈ _
        rw [if_pos (by omega), Int.toNat_natCast, hc, Option.map_some] at hk
        exact mem_of_lk hk
end Go.Sl
namespace Go.Proofs.YtmcclbiaoeilkaaGreat
open Go.RowKit Go.Sl Go.ChangeMaps Go.Maps Go.Sort Go.Shelf
def anyElem (_ : Value) : Option (DataW Unit × List MemPlace) := some (.nil, [])
theorem fit_of (es : Array MapEntry) (ck : Nat) (l : KV) (hM : MapL es ck l) (hwf : ∀ p ∈ l, (Lit.int .i64 p.1).wf = true) (hsz : es.size ≤ maxLen) :
    WideElems.Fit Tryz.prog 3 anyElem es ck ∧ ((es.toList.map (WideElems.rg Tryz.prog 3 anyElem)).map (fun p => Go.intOf p.1)) = l.map (·.1) := by
  have hkey : ∀ x ∈ es.toList, ∃ k : Int, x.key = .int .i64 k ∧ (Lit.int .i64 k).wf = true := by
    intro x hx
    have h1 : (x.key, x.val) ∈ es.toList.map (fun e => (e.key, e.val)) := List.mem_map_of_mem hx
    rw [hM.ent] at h1
    obtain ⟨p, hp, he⟩ := List.mem_map.1 h1
    simp only [Prod.mk.injEq] at he
    exact ⟨p.1, he.1.symm, hwf p hp⟩
  have hrg : ∀ x ∈ es.toList, ∀ k, x.key = .int .i64 k → (Lit.int .i64 k).wf = true → WideElems.rd Tryz.prog 3 anyElem x = some (.int .i64 k, .nil) := by
    intro x _ k hk hw
    have := keyOf_int_mk Tryz.underlying3 hw
    unfold WideElems.rd
    rw [hk, this]; rfl
  refine ⟨⟨hsz, ⟨hM.clock, hM.born, ?_⟩, ?_⟩, ?_⟩
  · have h1 : es.toList.map (·.key) = l.map fun p => Value.int .i64 p.1 := by
      have := congrArg (List.map Prod.fst) hM.ent
      simpa [List.map_map, Function.comp_def] using this
    rw [h1]
    have h2 : (l.map fun p => Value.int .i64 p.1) = (l.map (·.1)).map (Value.int .i64) := by simp [List.map_map, Function.comp_def]
    rw [h2]
    refine List.Pairwise.map _ ?_ hM.nodup
    intro a b h h'; exact h (by simpa using h')
  · intro x hx
    obtain ⟨k, hk, hw⟩ := hkey x hx
    exact ⟨_, hrg x hx k hk hw⟩
  · have h1 : (es.toList.map (WideElems.rg Tryz.prog 3 anyElem)).map (fun p => Go.intOf p.1) = es.toList.map fun x => Go.RowKit.intOf x.key := by
      rw [List.map_map]
      refine List.map_congr_left fun x hx => ?_
      obtain ⟨k, hk, hw⟩ := hkey x hx
      simp only [Function.comp_def, WideElems.rg, hrg x hx k hk hw, Option.getD_some, hk]
      rfl
    rw [h1]
    have h2 := congrArg (List.map fun q : Value × Value => Go.RowKit.intOf q.1) hM.ent
    simp only [List.map_map, Function.comp_def] at h2
    rw [h2]; rfl
theorem Tryz.sortsA (m : Nat) : AnyZI.SortsIn Tryz.prog Tryz.sortedA_ren Fence.wide m :=
  ⟨fun blk off cap ss W hH hblk hsz => callsIn_wide.2 (AnyM.slices_Sort_int Tryz.sortA blk off cap ss W hH hblk hsz),
   fun p cap W => callsIn_wide.2 (AnyM.slices_Sort_int_none Tryz.sortA p cap W)⟩
set_option maxHeartbeats 1000000 in
theorem pending_any (p : Nat) (D : DiskM) (F : HProp) (w : World) (hS : Sat w (diskAt TD TS p D * F)) :
    Calls Tryz.prog 96 #[.pointer (some ⟨p, 0, none⟩)] w fun e w' => ∃ v, e = .returned v ∧ Below w.heap.size w w' ∧
      w'.ownsRow w.heap.size 3 1 v D.pending.length ((D.pending.map Int.ofNat).map (Value.int .i64)) ∧ (v = .slice none 0 0 ↔ D.pending = []) := by
  obtain ⟨v, cb, ab, es, ck, l, es2, ck2, l2, ⟨hwf, hM, hK, hM2, hK2⟩, hs⟩ := diskAt_iff.1 hS
  obtain ⟨q0, q1, q2⟩ := disk_cells hs
  have hcb : w.heap[cb]? = some (.map es ck) := hs.right.right.block
  have hplt := hs.lt
  have hcblt := (Array.getElem?_eq_some_iff.1 hcb).1
  have hperm := keys_perm hwf hM.nodup hK
  have hlen : es.size = D.pending.length := by rw [hM.size]; have := hperm.length_eq; simpa using this
  have hpl : D.pending.length ≤ 65536 := by
    have h1 : D.pending.length ≤ D.n := by unfold DiskM.pending; have := List.length_filter_le (fun i => (D.cache i).isSome) (List.range D.n); simpa using this
    exact Nat.le_trans h1 hwf.small
  have hkwf : ∀ q ∈ l, (Lit.int .i64 q.1).wf = true := by
    intro q hq
    have h1 := hperm.subset (List.mem_map_of_mem (f := (·.1)) hq)
    obtain ⟨i, hi, he⟩ := List.mem_map.1 h1
    unfold DiskM.pending at hi
    rw [List.mem_filter, List.mem_range] at hi
    have := hwf.small
    rw [← he]
    exact WalkArith.wf_i64 (by simp; omega)
  obtain ⟨hfit, hkeys⟩ := fit_of es ck l hM hkwf (by unfold maxLen; omega)
  obtain ⟨D0, hD0⟩ : ∃ D0 : DataW Unit, D0 = .map ((es.toList.map (WideElems.rg Tryz.prog 3 anyElem)).foldr DataW.insert []) := ⟨_, rfl⟩
  have hown : w.ownsMap Tryz.prog 3 anyElem cb es.size D0 := ⟨es, ck, hcb, hfit, Nat.le_refl _, hD0⟩
  have hint : (intKeys D0).Perm (D.pending.map Int.ofNat) := by
    rw [hD0]
    refine List.Perm.trans ?_ hperm
    rw [← hkeys]
    exact (foldr_insert_perm _).map _
  have hsize : Maps.size D0 = es.size := by
    rw [hD0]
    have := (foldr_insert_perm (es.toList.map (WideElems.rg Tryz.prog 3 anyElem))).length_eq
    simpa [Maps.size] using this
  have hmax : Maps.size D0 ≤ maxLen := by rw [hsize]; unfold maxLen; omega
  have hbytes : Maps.size D0 * 8 ≤ 140737488355328 := by rw [hsize]; omega
  have HI := Lib.hid hint
  clear hS hs hM hK hM2 hK2 hfit hkeys hperm hkwf hD0 hint
  refine (callsIn_wide (n := 6)).1 ?_
  have hseq : SeqGives Fence.wide 2 Tryz.prog 156 #[.pointer (some ⟨w.heap.size, 0, none⟩)] encZ (fun ss => ss.Perm (intKeys D0)) (Maps.size D0) (w.alloc (.cells #[.map (some cb)] 128)) :=
    AnyZI.keys_gives (ρ := Tryz.keysA_ren) { Tryz.keysA with } Fence.wide _ trivial rfl (by omega) w.heap.size cb es.size D0 _ (by simp) (by simp) (by
      obtain ⟨es', clock, hb, Ft, hs, hD⟩ := hown
      exact ⟨es', clock, (Below.heap_alloc _ _ cb hcblt).trans hb, Ft, hs, hD⟩)
  have cK : ∀ mb W, CallsIn Fence.wide 5 Tryz.prog 140 #[.map mb] W fun e w' => e = .returned (.func (.func 156) #[] #[.pointer (some ⟨W.heap.size, 0, none⟩)]) ∧ w' = W.alloc (.cells #[.map mb] 128) := fun mb W => AnyZI.keys_in Tryz.keysA Fence.wide 5 trivial rfl mb W
  have cS := AnyZI.sorted_in Tryz.sortedA Fence.wide 5 trivial trivial trivial trivial rfl (by omega) (Tryz.sortsA _) (enters_of Tryz.func155 (by kernel_rfl) rfl) 156 #[.pointer (some ⟨w.heap.size, 0, none⟩)] trivial (enters_of Tryz.func156 (by kernel_rfl) rfl) _ _ hmax hbytes _ hseq
  change CallsIn _ _ Tryz.prog 139 _ _ _ at cS
  have hfK : Fence.wide.fn 140 := trivial
  have hfS : Fence.wide.fn 139 := trivial
  refine callsIn_of_wp Tryz.func96 rfl trivial ?_ rfl
  simp only [Tryz.ntmps96, List.size_toArray, List.length_cons, List.length_nil, Nat.reduceAdd, Nat.reduceSub, Array.replicate_succ, Array.replicate_zero, List.push_toArray, List.append_toArray, List.nil_append, List.cons_append]
  gi_wp2_with (first
    | (gi_at_call 140; refine (cK _ _).mono ?_; rintro e w' ⟨rfl, rfl⟩)
    | (gi_at_call 139; refine cS.mono ?_; rintro e w' ⟨v, ss, rfl, hS, hrow, hnil, hb⟩))
  go_ret
  have hp2 := hS.trans HI.out
  have hsort : ss.mergeSort (fun x y => decide (x ≤ y)) = D.pending.map Int.ofNat :=
    sorted_unique ((List.mergeSort_perm _ _).trans hp2) ((List.pairwise_mergeSort (by intro a b c h1 h2; simp at *; omega) (by intro a b; simp; omega) ss).imp (by intro a b h; simpa using h)) (pending_sorted D)
  have hlen2 : ss.length = D.pending.length := by simpa using hp2.length_eq
  rw [hsort, hlen2] at hrow
  refine ⟨v, rfl, ((Below.refl _ w).alloc (Nat.le_refl _) _).trans (hb.mono (by simp)), ownsRow_base_a hrow (by simp), hnil.trans ?_⟩
  constructor
  · rintro rfl; simpa using hlen2.symm
  · intro h; rw [h] at hlen2; simpa using hlen2
end Go.Proofs.YtmcclbiaoeilkaaGreat
end
section
namespace Go.Sl
open Go Go.RowKit
def reachB (ops : Array Oper) : Nat → Nat → Nat → Bool
  | 0, _, _ => false
  | f + 1, j, i => match ops[j]? with
    | none => false
    | some o => o.after.any fun e => Region.binds .any e && (e.on == i || reachB ops f e.on i)
def tailB (ops : Array Oper) (j : Nat) : Bool := (List.range ops.size).all fun i => i == j || reachB ops 12 j i
def Closed (ops : Array Oper) (listed : Array Bool) : Prop := ∀ (j : Nat) (o : Oper), ops[j]? = some o → listed.getD j false = true → ∀ e ∈ o.after, Region.binds .any e = true → listed.getD e.on false = true
theorem Closed.reach {ops : Array Oper} {listed : Array Bool} (hc : Closed ops listed) : ∀ (f j i : Nat) (o : Oper), ops[j]? = some o → (∀ e ∈ o.after, Region.binds .any e = true → listed.getD e.on false = true) → reachB ops f j i = true → listed.getD i false = true := by
  intro f
  induction f with
  | zero => intro j i o _ _ h; cases h
  | succ f ih =>
    intro j i o ho hall h
    unfold reachB at h
    rw [ho] at h
    simp only [← Array.any_toList, List.any_eq_true] at h
    obtain ⟨e, he, hb⟩ := h
    replace he := Array.mem_toList_iff.1 he
    simp only [Bool.and_eq_true, Bool.or_eq_true, beq_iff_eq] at hb
    have h1 := hall e he hb.1
    rcases hb.2 with h2 | h2
    · rw [← h2]; exact h1
    · cases hoe : ops[e.on]? with
      | none => cases f with
        | zero => cases h2
        | succ f => unfold reachB at h2; rw [hoe] at h2; cases h2
      | some o' => exact ih e.on i o' hoe (hc e.on o' hoe h1) h2
theorem Closed.init (ops : Array Oper) : Closed ops (Array.replicate ops.size false) := by
  intro j o ho h
  rw [Array.getD_eq_getD_getElem?, Array.getElem?_replicate] at h
  split at h <;> cases h
theorem Closed.set {ops : Array Oper} {listed : Array Bool} (hc : Closed ops listed) {i : Nat} (hi : i ∈ Region.ready .any ops listed) : Closed ops (listed.setIfInBounds i true) := by
  intro j o ho h e he hb
  obtain ⟨_, oi, hoi, hall⟩ := mem_ready.1 hi
  by_cases hij : i = j
  · subst hij
    rw [ho] at hoi
    cases hoi
    exact getD_set_true (hall e he hb)
  · rw [getD_set_ne false hij] at h
    exact getD_set_true (hc j o ho h e he hb)
section
variable {P : Program} {ops : Array Oper} {Q : Exit → Act → World → Prop} {S : World → Prop}
def wpAnyG (P : Program) (ops : Array Oper) (Q : Exit → Act → World → Prop) (S : World → Prop) : Nat → Array Bool → Act → World → Prop
  | 0, listed, a, w => Region.ready .any ops listed = [] ∧ Q .normal a w
  | fuel + 1, listed, a, w =>
    (Region.ready .any ops listed = [] → Q .normal a w) ∧
    ∀ i ∈ Region.ready .any ops listed, wpOp P ops Q i (fun a' w' => (tailB ops i = true ∨ S w') ∧ wpAnyG P ops Q S fuel (listed.setIfInBounds i true) a' w') a w
theorem wpAny_of_G : ∀ (fuel : Nat) (listed : Array Bool) (a : Act) (w : World), wpAnyG P ops Q S fuel listed a w → wpAny P .any ops Q fuel listed a w
  | 0, _, _, _, h => h
  | fuel + 1, _, _, _, h => ⟨h.1, fun i hi => wpOp_mono (fun a' w' h' => wpAny_of_G fuel _ a' w' h'.2) (h.2 i hi)⟩
theorem not_tail {i j : Nat} {listed : Array Bool} (hc : Closed ops listed) (hi : i ∈ Region.ready .any ops listed) (hj : j ∈ Region.ready .any ops listed) (hne : j ≠ i) : tailB ops j = false := by
  obtain ⟨hiun, oi, hoi, _⟩ := mem_ready.1 hi
  obtain ⟨_, oj, hoj, hall⟩ := mem_ready.1 hj
  cases ht : tailB ops j with
  | false => rfl
  | true =>
    exfalso
    unfold tailB at ht
    have hisz : i < ops.size := (Array.getElem?_eq_some_iff.1 hoi).1
    have h1 := List.all_eq_true.1 ht i (by simp [hisz])
    have h2 : (i == j) = false := by simp; exact Ne.symm hne
    rw [h2, Bool.false_or] at h1
    have h3 := hc.reach _ j i oj hoj hall h1
    rcases Nat.lt_or_ge i listed.size with h' | h'
    · simp [h'] at hiun h3; rw [hiun] at h3; cases h3
    · simp [Array.getElem?_eq_none h'] at h3
theorem wpAnyG_first {i : Nat} {oi : Oper} {v : Value} (hi : ops[i]? = some oi) (hsel : ∀ (j : Nat) (o : Oper) cs b, ops[j]? = some o → o.op ≠ .select cs b)
    (hQ : ∀ c a w, Q (.panic c) (a.put oi.dst v) w → Q (.panic c) a w) :
    ∀ (fuel : Nat) (listed : Array Bool) (a : Act) (w : World), Closed ops listed →
      (∀ j oj, ops[j]? = some oj → j ≠ i → listed.getD j true = false → (∀ e ∈ oj.after, Region.binds .any e = true → e.on ≠ i) → oi.apart ops oj = true) →
      i ∈ Region.ready .any ops listed → YieldsIf P ops S oi v a → S w →
      wpAnyG P ops Q S fuel (listed.setIfInBounds i true) (a.put oi.dst v) w → wpAnyG P ops Q S (fuel + 1) listed a w := by
  intro fuel
  induction fuel with
  | zero =>
    intro listed a w _ _ hr hy hS H
    refine ⟨fun h => (by rw [h] at hr; cases hr), fun j hj => ?_⟩
    by_cases hji : j = i
    · subst hji; exact hy.wpOp hi hS ⟨.inr hS, H⟩
    · have := ready_mono hj hji
      rw [H.1] at this
      cases this
  | succ fuel ih =>
    intro listed a w hc hfree hr hy hS H
    refine ⟨fun h => (by rw [h] at hr; cases hr), fun j hj => ?_⟩
    by_cases hji : j = i
    · subst hji; exact hy.wpOp hi hS ⟨.inr hS, H⟩
    · have h1 := H.2 j (ready_mono hj hji)
      obtain ⟨hjun, oj, hoj, hall⟩ := mem_ready.1 hj
      have hnot : ∀ e ∈ oj.after, Region.binds .any e = true → e.on ≠ i := fun e he hb heq => by
        have h1 := hall e he hb
        have h0 := (mem_ready.1 hr).1
        rw [heq] at h1
        rcases Nat.lt_or_ge i listed.size with h' | h'
        · simp [h'] at h0 h1; rw [h0] at h1; cases h1
        · simp [Array.getElem?_eq_none h'] at h1
      have h2 := wpOp_putIf hoj (hfree j oj hoj hji hjun hnot) (fun cs b => hsel i oi cs b hi) (fun cs b => hsel j oj cs b hoj) hQ hy h1
      have hfree' : ∀ k ok, ops[k]? = some ok → k ≠ i → (listed.setIfInBounds j true).getD k true = false →
          (∀ e ∈ ok.after, Region.binds .any e = true → e.on ≠ i) → oi.apart ops ok = true := fun k ok hk hki hun hno => by
        refine hfree k ok hk hki ?_ hno
        by_cases hjk : j = k
        · subst hjk; exact hjun
        · rw [getD_set_ne true hjk] at hun; exact hun
      have hnt := not_tail hc hr hj hji
      refine wpOp_mono (fun a' w' h3 => ?_) h2
      have hS' : S w' := by
        rcases h3.2.1 with h | h
        · rw [hnt] at h; cases h
        · exact h
      refine ⟨.inr hS', ih (listed.setIfInBounds j true) a' w' (hc.set hj) hfree' (ready_mono hr (Ne.symm hji)) h3.1 hS' ?_⟩
      rw [Array.setIfInBounds_comm _ _ hji]
      exact h3.2.2
theorem wpAnyG_take {i : Nat} {oi : Oper} {v : Value} {fuel : Nat} {listed : Array Bool} {a : Act} {w : World} (hi : ops[i]? = some oi)
    (hs : Region.noSelect ops = true) (hf : Region.free .any ops listed i = true) (hr : (Region.ready .any ops listed).contains i = true)
    (hQ : ∀ c a w, Q (.panic c) (a.put oi.dst v) w → Q (.panic c) a w) (hy : YieldsIf P ops S oi v a) (hS : S w) (hc : Closed ops listed)
    (h : wpAnyG P ops Q S fuel (listed.setIfInBounds i true) (a.put oi.dst v) w) : wpAnyG P ops Q S (fuel + 1) listed a w :=
  wpAnyG_first hi (Region.noSelect_spec hs) hQ fuel listed a w hc (Region.free_spec hi hf) (by simpa using hr) hy hS h
end
def takeOK (ops : Array Oper) (listed : Array Bool) (i : Nat) : Bool := Region.noSelect ops && Region.free .any ops listed i && (Region.ready .any ops listed).contains i
def aloneOK (ops : Array Oper) (listed : Array Bool) (i : Nat) : Bool := Region.ready .any ops listed == [i]
structure Reg (P : Program) (ops : Array Oper) (Q : Exit → Act → World → Prop) (S : World → Prop) (fuel : Nat) (listed : Array Bool) (t : Array Value) (df : List Deferred) (w : World) : Prop where
  out : Closed ops listed → wpAnyG P ops (NoPanic Q) S fuel listed ⟨t, df⟩ w
section
variable {P : Program} {ops : Array Oper} {Q : Exit → Act → World → Prop} {S : World → Prop} {fuel : Nat} {listed : Array Bool} {t : Array Value} {df : List Deferred} {w : World}
theorem reg_begin (S : World → Prop) {id : Nat} (hm : P.follows .mixedOrders = true) (h : Reg P ops Q S ops.size (Array.replicate ops.size false) t df w.drew) : (Code.region id ops true).wp P Q ⟨t, df⟩ w :=
  wp_region_noPanic (wp_region_any hm (wpAny_of_G _ _ _ _ (h.out (Closed.init ops))))
theorem put_some (a : Act) (d : Tmp) (v : Value) : a.put (some d) v = ⟨a.tmps.setIfInBounds d v, a.defers⟩ := rfl
theorem reg_take (i : Nat) {o : Oper} {d : Tmp} {v : Value} (ho : ops[i]? = some o) (hd : o.dst = some d) (hck : takeOK ops listed i = true) (hw : Region.wanted o (yielded ops t) = true)
    (hr : ∀ w', S w' → (execOp (Act.eval ⟨t, df⟩) o).run P w' = .ok (.value v) w') (hS : S w)
    (k : Reg P ops Q S fuel (listed.setIfInBounds i true) (t.setIfInBounds d v) df w) : Reg P ops Q S (fuel + 1) listed t df w := by
  simp only [takeOK, Bool.and_eq_true] at hck
  exact ⟨fun hc => wpAnyG_take ho hck.1.1 hck.1.2 hck.2 (fun _ _ _ h => h) (.inl ⟨hw, hr⟩) hS hc (by rw [hd]; exact k.out (hc.set (by simpa using hck.2)))⟩
theorem reg_skip (i : Nat) {o : Oper} {d : Tmp} (ho : ops[i]? = some o) (hd : o.dst = some d) (hck : takeOK ops listed i = true) (hw : Region.wanted o (yielded ops t) = false) (hS : S w)
    (k : Reg P ops Q S fuel (listed.setIfInBounds i true) (t.setIfInBounds d undef) df w) : Reg P ops Q S (fuel + 1) listed t df w := by
  simp only [takeOK, Bool.and_eq_true] at hck
  exact ⟨fun hc => wpAnyG_take ho hck.1.1 hck.1.2 hck.2 (fun _ _ _ h => h) (.inr ⟨hw, rfl⟩) hS hc (by rw [hd]; exact k.out (hc.set (by simpa using hck.2)))⟩
theorem reg_op' (i : Nat) {o : Oper} (ho : ops[i]? = some o) (hck : aloneOK ops listed i = true) (hw : Region.wanted o (yielded ops t) = true)
    (k : o.wp P ⟨t, df⟩ w (fun a' w' => (tailB ops i = true ∨ S w') ∧ Reg P ops Q S fuel (listed.setIfInBounds i true) a'.tmps a'.defers w') (NoPanic Q)) : Reg P ops Q S (fuel + 1) listed t df w := by
  have hck' : Region.ready .any ops listed = [i] := by simpa [aloneOK] using hck
  constructor
  intro hc
  have hci : Closed ops (listed.setIfInBounds i true) := hc.set (by rw [hck']; simp)
  refine ⟨fun h => (by rw [hck'] at h; cases h), fun j hj => ?_⟩
  rw [hck'] at hj
  obtain rfl : j = i := by simpa using hj
  unfold wpOp
  simp only [ho, hw, if_true]
  left
  refine Oper.wp_mono ?_ k
  exact fun a' w' h => ⟨h.1, h.2.out hci⟩
theorem reg_op (i : Nat) {o : Oper} (ho : ops[i]? = some o) (hck : aloneOK ops listed i = true) (hw : Region.wanted o (yielded ops t) = true)
    (k : o.wp P ⟨t, df⟩ w (fun a' w' => S w' ∧ Reg P ops Q S fuel (listed.setIfInBounds i true) a'.tmps a'.defers w') (NoPanic Q)) : Reg P ops Q S (fuel + 1) listed t df w :=
  reg_op' i ho hck hw (Oper.wp_mono (fun _ _ h => ⟨.inr h.1, h.2⟩) k)
theorem reg_do_last (i : Nat) {o : Oper} (w' : World) (ho : ops[i]? = some o) (hd : o.dst = none) (hck : (aloneOK ops listed i && tailB ops i && (Region.ready .any ops (listed.setIfInBounds i true)).isEmpty) = true) (hw : Region.wanted o (yielded ops t) = true)
    (hr : (execOp (Act.eval ⟨t, df⟩) o).run P w = .ok .skip w') (k : Q .normal ⟨t, df⟩ w') : Reg P ops Q S (fuel + 1) listed t df w := by
  simp only [Bool.and_eq_true] at hck
  refine reg_op' i ho hck.1.1 hw ?_
  unfold Oper.wp; rw [hr]; simp only [Oper.upon, hd, Act.put]
  refine ⟨.inl hck.1.2, ?_⟩
  constructor
  intro _
  cases fuel with
  | zero => exact ⟨by simpa using hck.2, NoPanic.normal k⟩
  | succ n => exact ⟨fun _ => NoPanic.normal k, fun j hj => by have : Region.ready .any ops (listed.setIfInBounds i true) = [] := by simpa using hck.2
                                                               rw [this] at hj; cases hj⟩
theorem reg_run_last (i : Nat) {o : Oper} {d : Tmp} (v : Value) (w' : World) (ho : ops[i]? = some o) (hd : o.dst = some d) (hck : (aloneOK ops listed i && tailB ops i && (Region.ready .any ops (listed.setIfInBounds i true)).isEmpty) = true) (hw : Region.wanted o (yielded ops t) = true)
    (hr : (execOp (Act.eval ⟨t, df⟩) o).run P w = .ok (.value v) w') (k : Q .normal ⟨t.setIfInBounds d v, df⟩ w') : Reg P ops Q S (fuel + 1) listed t df w := by
  simp only [Bool.and_eq_true] at hck
  refine reg_op' i ho hck.1.1 hw ?_
  unfold Oper.wp; rw [hr]; simp only [Oper.upon, hd, put_some]
  refine ⟨.inl hck.1.2, ?_⟩
  constructor
  intro _
  cases fuel with
  | zero => exact ⟨by simpa using hck.2, NoPanic.normal k⟩
  | succ n => exact ⟨fun _ => NoPanic.normal k, fun j hj => by have : Region.ready .any ops (listed.setIfInBounds i true) = [] := by simpa using hck.2
                                                               rw [this] at hj; cases hj⟩
theorem reg_run (i : Nat) {o : Oper} {d : Tmp} (v : Value) (w' : World) (ho : ops[i]? = some o) (hd : o.dst = some d) (hck : aloneOK ops listed i = true) (hw : Region.wanted o (yielded ops t) = true)
    (hr : (execOp (Act.eval ⟨t, df⟩) o).run P w = .ok (.value v) w') (hS : S w')
    (k : Reg P ops Q S fuel (listed.setIfInBounds i true) (t.setIfInBounds d v) df w') : Reg P ops Q S (fuel + 1) listed t df w :=
  reg_op i ho hck hw (by unfold Oper.wp; rw [hr]; simp only [Oper.upon, hd, put_some]; exact ⟨hS, k⟩)
theorem reg_do (i : Nat) {o : Oper} (w' : World) (ho : ops[i]? = some o) (hd : o.dst = none) (hck : aloneOK ops listed i = true) (hw : Region.wanted o (yielded ops t) = true)
    (hr : (execOp (Act.eval ⟨t, df⟩) o).run P w = .ok .skip w') (hS : S w')
    (k : Reg P ops Q S fuel (listed.setIfInBounds i true) t df w') : Reg P ops Q S (fuel + 1) listed t df w :=
  reg_op i ho hck hw (by unfold Oper.wp; rw [hr]; simp only [Oper.upon, hd, Act.put]; exact ⟨hS, k⟩)
theorem reg_call (i : Nat) {o : Oper} {d : Tmp} {f : FuncId} {args : Array Value} {R : Value → World → Prop} (ho : ops[i]? = some o) (hd : o.dst = some d) (hck : aloneOK ops listed i = true) (hw : Region.wanted o (yielded ops t) = true)
    (hr : (execOp (Act.eval ⟨t, df⟩) o).run P w = .ok (.enter f args) w) (hc : Calls P f args w fun e w' => ∃ v, e = .returned v ∧ R v w')
    (k : ∀ v w', R v w' → S w' ∧ Reg P ops Q S fuel (listed.setIfInBounds i true) (t.setIfInBounds d v) df w') : Reg P ops Q S (fuel + 1) listed t df w :=
  reg_op i ho hck hw (by
    unfold Oper.wp; rw [hr]
    refine hc.mono ?_
    rintro e w' ⟨v, rfl, h⟩
    simp only [hd, put_some]
    exact k v w' h)
theorem reg_done (hr : (Region.ready .any ops listed).isEmpty = true) (h : Q .normal ⟨t, df⟩ w) : Reg P ops Q S fuel listed t df w := by
  have hr' : Region.ready .any ops listed = [] := by simpa using hr
  constructor
  intro _
  cases fuel with
  | zero => exact ⟨hr', NoPanic.normal h⟩
  | succ n => exact ⟨fun _ => NoPanic.normal h, fun j hj => by rw [hr'] at hj; cases hj⟩
end
end Go.Sl
namespace Go.Sl
open Go Go.RowKit
section
variable {P : Program} {ops : Array Oper} {Q : Exit → Act → World → Prop} {S : World → Prop} {fuel : Nat} {listed : Array Bool} {t : Array Value} {df : List Deferred} {w : World}
end
end Go.Sl
end
