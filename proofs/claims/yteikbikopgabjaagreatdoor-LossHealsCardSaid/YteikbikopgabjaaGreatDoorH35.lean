import Derived.Test.YteikbikopgabjaaGreatDoorH34
import Derived.Laws.MakeOwn
import Derived.Test.YteikbikopgabjaaGreatDoorH08
import Derived.Test.YteikbikopgabjaaGreatDoorH28
/- Part 35 of a proof; the last part says what is proved. -/
section
namespace Go.Proofs.YteikbikopgabjaaGreatDoor
open Go.RowKit Go.Sha Go.Sl Go.GF Go.Vol Go.Loss
def tallyL (Lg : List EachE) : List Int := (List.range 16).map fun t => ((Lg.countP fun e => e.1 == ((t : Nat) : Int)) : Int)
theorem tallyL_len (Lg : List EachE) : (tallyL Lg).length = 16 := by simp [tallyL]
theorem tallyL_at (Lg : List EachE) {t : Nat} (h : t < 16) : (tallyL Lg)[t]? = some ((Lg.countP fun e => e.1 == ((t : Nat) : Int)) : Int) := by
 unfold tallyL
 rw [List.getElem?_map, List.getElem?_range h]; rfl
theorem tallyL_snoc (Lg : List EachE) {t : Nat} (h : t < 16) (g : GoneM) : tallyL (Lg ++ [((t : Int), g)]) = (tallyL Lg).set t (((Lg.countP fun e => e.1 == ((t : Nat) : Int)) : Int) + 1) := by
 apply List.ext_getElem?
 intro j
 rw [List.getElem?_set, tallyL_len]
 by_cases hj : j < 16
 ·rw [tallyL_at _ hj, tallyL_at _ hj, List.countP_append]
  by_cases e : t = j
  ·subst e
   rw [if_pos rfl, if_pos h]
   simp
  ·rw [if_neg e]
   have : ((t : Int) == (j : Int)) = false := by simp; omega
   simp [this]
 ·rw [List.getElem?_eq_none (by rw [tallyL_len]; omega), if_neg (by omega), List.getElem?_eq_none (by rw [tallyL_len]; omega)]
abbrev TIs : TypeId := 36
def talI (g r : Nat) (Lg : List EachE) : HProp := pts g (.cells #[.slice (some ⟨r, 0, none⟩) 16 16] TIs (0, 0)) * ownAt TI 1 (.slice (some ⟨r, 0, none⟩) 16 16) 16 (intsV (tallyL Lg))
set_option maxRecDepth 20000 in
set_option maxHeartbeats 2000000 in
theorem tal_do (g r : Nat) : DoIs 37 #[.pointer (some ⟨g, 0, none⟩)] (talI g r) := by
 refine ⟨fun args w => by kernel_rfl, fun F Lg t gn W hl ht1 ht2 hS => ?_⟩
 obtain ⟨j, rfl⟩ : ∃ j : Nat, t = (j : Int) := ⟨t.toNat, by omega⟩
 have hj : j < 16 := by omega
 have HSN := Lib.hid (tallyL_snoc Lg hj gn)
 have HAT := Lib.hid (tallyL_at Lg hj)
 have hcl := List.countP_le_length (p := fun e : EachE => e.1 == ((j : Nat) : Int)) (l := Lg)
 generalize (Lg.countP fun e => e.1 == ((j : Nat) : Int)) = c at HSN HAT hcl
 have hc9 : (c : Int) ≤ 90000 := by omega
 unfold talI at hS ⊢
 have hk : Tryz.prog.cellsOf TGn = 19 := by kernel_rfl
 obtain ⟨ti3, hti3, hz03, hts3, hz23⟩ := info_parts info_int3
 generalize gnA gn = A
 show Calls Tryz.prog 37 #[.int .i64 (j : Int), .agg A, .pointer (some ⟨g, 0, none⟩)] W _
 have HW0 := Lib.hid (And.intro ((Same.refl W).alloc (.cells A TGn)) (hS.alloc (.cells A TGn)))
 clear hS hl ht1 ht2 hcl hz03 hz23
 have hj16 : (j : Int) < 16 := by omega
 go_enter Tryz.func37, Tryz.ntmps37
 go_upto_region 1 with (fail)
 generalize W.alloc (.cells A TGn) = w1 at HW0 ⊢
 generalize W.heap.size = g4 at HW0 ⊢
 have hq := HW0.out.2.perm (show _ = pts g (.cells #[.slice (some ⟨r, 0, none⟩) 16 16] TIs (0, 0)) * (ownAt TI 1 (.slice (some ⟨r, 0, none⟩) 16 16) 16 (intsV (tallyL Lg)) * (pts g4 (.cells A TGn (0, 0)) * F)) by ac_rfl)
 have c0 : w1.cell? ⟨g, 0, none⟩ = some (.slice (some ⟨r, 0, none⟩) 16 16) := by rw [cells_at hq.block]; rfl
 have hq2 := hq.right
 obtain ⟨gr, cr, e, hc⟩ := ownAt_cells hq2 (by omega)
 cases e
 have c1 : w1.cell? ⟨r, j, none⟩ = some (.int .i64 (c : Int)) := hc j _ (by unfold intsV; rw [List.getElem?_map, HAT.out]; rfl)
 have hq3 := HW0.out.2.perm (show _ = ownAt TI 1 (.slice (some ⟨r, 0, none⟩) 16 16) 16 (intsV (tallyL Lg)) * (pts g (.cells #[.slice (some ⟨r, 0, none⟩) 16 16] TIs (0, 0)) * (pts g4 (.cells A TGn (0, 0)) * F)) by ac_rfl)
 obtain ⟨-, f1, h9⟩ := ownAt_set hq3 hj (.int .i64 ((c : Int) + 1))
 have HF := Lib.hid (And.intro (HW0.out.1.setCell ⟨r, j, none⟩ (.int .i64 ((c : Int) + 1))) h9)
 clear hq hq2 hq3 h9 hc
 have hwr : IntKind.i64.wrap ((c : Int) + 1) = (c : Int) + 1 := IntWalk.i64_in _ (by omega)
 go_wp2
 go_end0
 refine ⟨rfl, HF.out.1, ?_⟩
 have h := HF.out.2
 rw [HSN.out]
 rw [show (intsV (tallyL Lg)).set j (.int .i64 ((c : Int) + 1)) = intsV ((tallyL Lg).set j ((c : Int) + 1)) by unfold intsV; rw [List.map_set]] at h
 exact (h.perm (show _ = pts g4 (.cells A TGn (0, 0)) * (pts g (.cells #[.slice (some ⟨r, 0, none⟩) 16 16] TIs (0, 0)) * ownAt TI 1 (.slice (some ⟨r, 0, none⟩) 16 16) 16 (intsV ((tallyL Lg).set j ((c : Int) + 1))) * F) by ac_rfl)).right
theorem tallyL_nil : intsV (tallyL []) = List.replicate 16 (.int .i64 0) := by rfl
set_option maxRecDepth 20000 in
set_option maxHeartbeats 1000000 in
theorem tally_any (ps : Nat) (S : SpaceM) (pt b cp : Nat) (rb : Nat → Nat) (L : List ChM) (w : World) (hS : SpaceAt TNode TSp w ps S) (hwf : S.WF) (hsml : SmallS S) (hT : TabR w pt b cp rb L) :
  Calls Tryz.prog 15 #[.pointer (some ⟨ps, 0, none⟩), .pointer (some ⟨pt, 0, none⟩)] w fun e w' => ∃ v, e = .returned v ∧ Same w w' ∧ Sat w' (ownAt TI 1 v 16 (intsV (tallyL (eachL S L))) * old w) := by
 obtain ⟨i0, hi, hz0, hz1, hz2⟩ := info_parts info_int3
 have HE := Lib.hid (fun g r W (h1 : Same w W) (h2 : Sat W (talI g r [] * old w)) => each_any 37 #[.pointer (some ⟨g, 0, none⟩)] (talI g r) (tal_do g r) ps S pt b cp rb L (old w) w (fun W P h1 h2 => h1.below_of h2) hS hwf hsml hT W h1 h2)
 have H0 := Lib.hid (Sat.old w)
 clear hS hwf hsml hT
 go_enter Tryz.func15, Tryz.ntmps15
 go_upto_region 2 with (at_make; refine wpList_make_full _ rfl _ _ 36 rfl w.heap.size TI i0 (.int .i64 0) 1 Tryz.underlying36 hi hz0 hz1 .i64 .i64 _ _ 16 rfl rfl ?_ ?_ ?_ ?_ ?_ ?_)
 all_goals first | rfl | omega | (rw [hz2]; omega) | (unfold maxLen; omega) | exact Nat.zero_le _ | exact Nat.le_refl _ | skip
 intro w2 hown hg
 have hs2 := Sat.ownRow H0.out (fun k hk => hg.block k hk (by simp)) (Nat.le_refl _) hown
 rw [show (madeCells #[Value.int .i64 0] 16).toList = intsV (tallyL []) by rw [made_zero, tallyL_nil]; rfl] at hs2
 have HS2 := Lib.hid (And.intro (show Same w w2 from ⟨hg.os, hg.tape, hg.output, hg.size⟩) hs2)
 clear hs2 hown hg
 generalize w.heap.size = r at HS2 ⊢
 have HS4 := Lib.hid (And.intro (HS2.out.1.alloc (.cells #[.slice (some ⟨r, 0, none⟩) 16 16] TIs)) (HS2.out.2.alloc (.cells #[.slice (some ⟨r, 0, none⟩) 16 16] TIs)))
 go_upto_region 2 with (fail)
 generalize w2.alloc (.cells #[.slice (some ⟨r, 0, none⟩) 16 16] TIs) = w4 at HS4 ⊢
 generalize w2.heap.size = g at HS4 ⊢
 have HE4 := Lib.hid (HE.out g r w4 HS4.out.1 (HS4.out.2.perm (by unfold talI; ac_rfl)))
 go_upto_region 3 with (go_at_call 34; refine HE4.out.mono ?_; rintro e w5 ⟨rfl, h1, h2⟩; have HS5 := Lib.hid (And.intro (HS4.out.1.trans h1) h2); clear h1 h2)
 have h := HS5.out.2
 unfold talI at h
 rw [star_assoc] at h
 have c0 : w5.cell? ⟨g, 0, none⟩ = some (.slice (some ⟨r, 0, none⟩) 16 16) := by rw [cells_at h.block]; rfl
 have HF := Lib.hid h.right
 clear h
 go_wp2
 go_ret
 exact ⟨_, rfl, HS5.out.1, HF.out⟩
end Go.Proofs.YteikbikopgabjaaGreatDoor
end
section
namespace Go.Proofs.YteikbikopgabjaaGreatDoor
open Go.RowKit Go.Sha Go.Sl Go.GF Go.Vol Go.Loss
abbrev DK := {l : List Nat // l.length = 16 ∧ ∀ x ∈ l, x < 256}
def dkF (k : DK) (j : Nat) : Nat := (k.1[j]?).getD 0
def dkV (k : DK) : Value := .agg (arrK .u8 16 (dkF k))
def dkG (g : Nat → Nat) (hg : ∀ j, g j < 256) : DK := ⟨(List.range 16).map g, by simp, fun x hx => by
 obtain ⟨j, _, rfl⟩ := List.mem_map.1 hx
 exact hg _⟩
theorem dkF_dkG (g : Nat → Nat) (hg : ∀ j, g j < 256) {j : Nat} (hj : j < 16) : dkF (dkG g hg) j = g j := by
 unfold dkF dkG
 dsimp only
 rw [List.getElem?_map, List.getElem?_range hj]; rfl
def dk (u : List UInt8) : DK := dkG (Go.Sha.sumN ([3] ++ lenB u)) (sumN_lt _)
theorem dkF_dk (u : List UInt8) {j : Nat} (hj : j < 16) : dkF (dk u) j = Go.Sha.sumN ([3] ++ lenB u) j := dkF_dkG _ _ hj
theorem dkV_dk (u : List UInt8) : dkV (dk u) = .agg (digM u) := by
 have h : arrK .u8 16 (dkF (dk u)) = digM u := arrK_congr fun j hj => dkF_dk u hj
 exact congrArg Value.agg h
theorem dkF_lt (k : DK) (j : Nat) : dkF k j < 256 := by
 unfold dkF
 cases h : k.1[j]? with
 | none => simp
 | some x => exact k.2.2 x (List.mem_of_getElem? h)
theorem dkV_inj (a b : DK) (h : dkV a = dkV b) : a = b := by
 unfold dkV at h
 simp only [Value.agg.injEq] at h
 apply Subtype.ext
 apply List.ext_getElem?
 intro j
 by_cases hj : j < 16
 ·have h4 := congrArg (fun a => a[j]?) h
  have h5 := (arrK_at .u8 16 (dkF a) hj).symm.trans (h4.trans (arrK_at .u8 16 (dkF b) hj))
  have h7 := (Value.int.inj (Option.some.inj h5)).2
  unfold dkF at h7
  have ha : j < a.1.length := by rw [a.2.1]; exact hj
  have hb : j < b.1.length := by rw [b.2.1]; exact hj
  rw [List.getElem?_eq_getElem ha, List.getElem?_eq_getElem hb] at h7 ⊢
  simp only [Option.getD_some] at h7
  congr 1
  omega
 ·rw [List.getElem?_eq_none (by rw [a.2.1]; omega), List.getElem?_eq_none (by rw [b.2.1]; omega)]
theorem dk_iff {a b : List UInt8} : dk a = dk b ↔ sameD a b = true := by
 rw [sameD_iff]
 constructor
 ·intro h
  have := congrArg dkV h
  rw [dkV_dk, dkV_dk] at this
  simpa using this
 ·intro h
  apply dkV_inj
  rw [dkV_dk, dkV_dk, h]
theorem keyOf_dig (k : DK) : ∃ l, keyOf Tryz.prog TD (dkV k) = some l := by
 have hf : (dkV k).formed Tryz.prog TD = true := by
  have c3 : Tryz.prog.cellsOf TD = 16 := by kernel_rfl
  unfold dkV
  simp [Value.formed, Tryz.underlying67, c3, arrK_size]
 have ht : Tryz.prog.keyType TD = true := by kernel_rfl
 obtain ⟨D, hD⟩ : ∃ D, Tryz.prog.types.size + 1 = D + 2 := ⟨Tryz.prog.types.size - 1, by have : 2 ≤ Tryz.prog.types.size := (by decide +kernel); omega⟩
 unfold keyOf
 rw [Tryz.underlying67]
 dsimp only
 simp only [ht, hf, Bool.and_self, if_true, hD, show (dkV k).cells.toList = (arrK .u8 16 (dkF k)).toList from rfl, kl_dig D (dkF k) (dkF_lt k)]
 exact ⟨_, rfl⟩
theorem emb_dig : Go.Key.KeyEmb Tryz.prog TD dkV :=
 Go.Key.emb_of_law (deep_law_gate laidB (by decide +kernel) (by decide +kernel) (by kernel_rfl) (by kernel_rfl)) dkV_inj keyOf_dig
def addW (l : List UInt8) (x : ChM) : List UInt8 := if x.lost = true ∧ (l.any fun f => sameD (unitL f) (unitL x.fill)) = false then l ++ [x.fill] else l
def waitL (L : List ChM) : List UInt8 := L.foldl addW []
theorem waitL_succ {L : List ChM} {k : Nat} {x : ChM} (h : L[k]? = some x) : waitL (L.take (k + 1)) = addW (waitL (L.take k)) x := by
 unfold waitL
 rw [List.take_add_one, h, List.foldl_append]
 rfl
theorem waitL_len (L : List ChM) : (waitL L).length ≤ L.length := by
 have key : ∀ (l : List ChM) (a : List UInt8), (l.foldl addW a).length ≤ a.length + l.length := by
  intro l
  induction l with
  | nil => intro a; simp
  | cons x l ih =>
   intro a
   rw [List.foldl_cons, List.length_cons]
   have h1 := ih (addW a x)
   have h2 : (addW a x).length ≤ a.length + 1 := by
    unfold addW
    split <;> simp
   omega
 have := key L []
 simpa [waitL] using this
def kvW (l : List UInt8) : Go.Key.KV DK := l.map fun f => (dk (unitL f), .bool true)
theorem kvW_lk (l : List UInt8) (f : UInt8) : (Go.Key.lk (kvW l) (dk (unitL f))).getD (.bool false) = .bool (l.any fun g => sameD (unitL g) (unitL f)) := by
 induction l with
 | nil => rfl
 | cons g l ih =>
  show (Go.Key.lk ((dk (unitL g), .bool true) :: kvW l) (dk (unitL f))).getD _ = _
  unfold Go.Key.lk
  rw [List.any_cons]
  by_cases h : dk (unitL f) = dk (unitL g)
  ·rw [if_pos h, dk_iff.1 h.symm]; rfl
  ·rw [if_neg h, ih]
   have : sameD (unitL g) (unitL f) = false := by
    cases hs : sameD (unitL g) (unitL f) with
    | false => rfl
    | true => exact absurd (dk_iff.2 hs).symm h
   rw [this, Bool.false_or]
theorem kvW_upd (l : List UInt8) (f : UInt8) (h : (l.any fun g => sameD (unitL g) (unitL f)) = false) : Go.Key.upd (kvW l) (dk (unitL f)) (.bool true) = kvW (l ++ [f]) := by
 have hm : dk (unitL f) ∉ (kvW l).map (·.1) := by
  intro hm
  unfold kvW at hm
  rw [List.map_map] at hm
  obtain ⟨g, hg, he⟩ := List.mem_map.1 hm
  have h2 := List.any_eq_false.1 h g hg
  exact h2 (dk_iff.1 he)
 rw [Go.Key.fidx_none_upd (i := 0) (Go.Key.fidx_none_iff.2 hm)]
 unfold kvW
 rw [List.map_append]; rfl
end Go.Proofs.YteikbikopgabjaaGreatDoor
end
section
namespace Go.Proofs.YteikbikopgabjaaGreatDoor
open Go.RowKit Go.Sha Go.Sl Go.GF Go.Vol Go.Loss
def mapD (at_ : Nat) (l : Go.Key.KV DK) : HProp := Sl.ex fun es => Sl.ex fun clock => Sl.lift (Go.Key.MapG dkV es clock l) * pts at_ (.map es clock)
theorem mapD_iff {w : World} {F : HProp} {at_ : Nat} {l : Go.Key.KV DK} : Sat w (mapD at_ l * F) ↔ ∃ es clock, Go.Key.MapG dkV es clock l ∧ Sat w (pts at_ (.map es clock) * F) := by
 unfold mapD
 rw [Sat.ex]
 constructor
 ·rintro ⟨es, h⟩
  rw [Sat.ex] at h
  obtain ⟨clock, h⟩ := h
  rw [star_assoc, Sat.lift] at h
  exact ⟨es, clock, h⟩
 ·rintro ⟨es, clock, h⟩
  refine ⟨es, ?_⟩
  rw [Sat.ex]
  exact ⟨clock, by rw [star_assoc, Sat.lift]; exact h⟩
def dgE (f : UInt8) : List Value := (digM (unitL f)).toList
def ownD (v : Value) (l : List UInt8) : HProp := ownAt TD 16 v l.length (l.flatMap dgE)
theorem info_dg : (Tryz.prog.info? TD).map (fun i => (i.zero, i.size, i.bytes)) = some (some (.agg zD), 16, 16) := by kernel_rfl
theorem zero_bool41 (w : World) : (zeroValue 4).run Tryz.prog w = .ok (.bool false) w := by kernel_rfl
structure WaS (w : World) (L : List ChM) (at_ : Nat) (F : HProp) (v i : Value) (wr : World) : Prop where
 st : ∃ k : Nat, k ≤ L.length ∧ i = .int .i64 (k : Int) ∧ Same w wr ∧ Sat wr (ownD v (waitL (L.take k)) * (mapD at_ (kvW (waitL (L.take k))) * F))
set_option maxRecDepth 20000 in
set_option maxHeartbeats 4000000 in
theorem waiting_any (pt b cp : Nat) (rb : Nat → Nat) (L : List ChM) (w : World) (hT : TabR w pt b cp rb L) :
  Calls Tryz.prog 18 #[.pointer (some ⟨pt, 0, none⟩)] w fun e w' => ∃ v, e = .returned v ∧ Same w w' ∧ Sat w' (ownD v (waitL L) * old w) := by
 obtain ⟨tI, htI, htIs⟩ := Option.map_eq_some_iff.1 (show (Tryz.prog.info? TI).map (·.size) = some 1 from by kernel_rfl)
 have hmx := hT.max
 have HID := Lib.hid (fun W (h : Below w.heap.size w W) => ids_any pt b cp rb L W (hT.below h))
 have HGT := Lib.hid (fun W (h : Below w.heap.size w W) c => get_any41 pt b cp rb L c W (hT.below h))
 have hmm := @run_makeMap Tryz.prog
 have HW0 := Lib.hid (And.intro ((Same.refl w).alloc (.map #[] 0)) ((Sat.old w).alloc (.map #[] 0)))
 obtain ⟨n, hn⟩ : ∃ n, n = L.length := ⟨_, rfl⟩
 rw [← hn] at hmx
 have HN := Lib.hid hn
 clear hT hn
 go_enter Tryz.func18, Tryz.ntmps18
 go_upto_region 3 with (fail)
 generalize w.alloc (.map #[] 0) = w1 at HW0 ⊢
 generalize w.heap.size = am at HW0 ⊢
 have HB1 := Lib.hid (HW0.out.1.below_of HW0.out.2)
 go_wp2_with (go_at_call 38; refine (HID.out w1 HB1.out).mono ?_; rintro e w2 ⟨vi, rfl, h2, h3⟩; rw [idsL_len] at h3; obtain ⟨va, vc, rfl⟩ := ownAt_slice h3; have HW2 := Lib.hid (And.intro (HW0.out.1.trans h2) (h3.of_all HW0.out.2)); clear h2 h3)
 obtain ⟨F, hF⟩ : ∃ F, F = ownAt TI 1 (.slice va n vc) n (intsV (idsL n)) * old w := ⟨_, rfl⟩
 have HF := Lib.hid hF
 have H0 := Lib.hid (show Sat w2 (ownD (.slice none 0 0) (waitL (L.take 0)) * (mapD am (kvW (waitL (L.take 0))) * F)) from ownAt_nil.2 (mapD_iff.2 ⟨_, _, Go.Key.MapG.empty dkV 0, HW2.out.2.perm (by rw [hF, HN.out]; ac_rfl)⟩))
 have HS2 := Lib.hid HW2.out.1
 rw [← HN.out]
 clear hF HW2 HW0 HB1 HID hmm
 go_loopw [3, 13] (fun v i wr => WaS w L am F v i wr) (fun _ i _ => n - (intOf i).toNat)
 case atStart => exact ⟨⟨0, Nat.zero_le _, rfl, HS2.out, H0.out⟩⟩
 case round =>
  clear H0 HS2
  obtain ⟨k, hk, rfl, hsm, hst⟩ := hrel.st
  clear hrel
  rw [← HN.out] at hk
  have hk3 : (k : Int) ≤ 1000 := by omega
  have HLW := Lib.hid (show (waitL (L.take k)).length ≤ 1000 by
   have := waitL_len (L.take k)
   rw [List.length_take] at this
   omega)
  have HS := Lib.hid (And.intro hsm hst)
  clear hsm hst
  by_cases hlt : k < n
  ·have hltd : decide ((k : Int) < (n : Int)) = true := decide_eq_true (by omega)
   obtain ⟨x, hx⟩ : ∃ x, L[k]? = some x := ⟨_, List.getElem?_eq_getElem (by rw [← HN.out]; exact hlt)⟩
   have HWS := Lib.hid (waitL_succ hx)
   obtain ⟨Lw, hLw⟩ : ∃ Lw, Lw = waitL (L.take k) := ⟨_, rfl⟩
   rw [← hLw] at HS HWS HLW
   clear hLw
   have hf := HS.out.2
   rw [HF.out] at hf
   have hf2 := hf.perm (show _ = ownAt TI 1 (.slice va n vc) n (intsV (idsL n)) * (ownD u3 Lw * (mapD am (kvW Lw) * old w)) by ac_rfl)
   have HB := Lib.hid (HS.out.1.below_of (hf.perm (show _ = (ownD u3 Lw * (mapD am (kvW Lw) * ownAt TI 1 (.slice va n vc) n (intsV (idsL n)))) * old w by ac_rfl)))
   obtain ⟨gv, cv, e, hc⟩ := ownAt_cells hf2 (by omega)
   cases e
   have c0 : wr.cell? ⟨gv, k, none⟩ = some (.int .i64 ((k : Int) + 1)) := hc k _ (by
    unfold intsV idsL
    rw [List.map_map, List.getElem?_map, List.getElem?_range hlt]; rfl)
   have hgr := (getR_some hx (some ⟨0, 0, none⟩) 0)
   clear hf hf2 hc
   have HX := Lib.hid hx
   clear hx hgr
   go_upto_region 7 with (first
    | (go_at_call 39; refine (HGT.out wr HB.out _).mono ?_; rintro e w5 ⟨v5, rfl, hg, h5⟩; unfold getR at hg; rw [if_pos (by omega), show ((k : Int) + 1 - 1).toNat = k by omega, HX.out] at hg; obtain ⟨ao5, cp5, rfl⟩ := hg; have HV := chV_at k x (.slice ao5 1 cp5); have HO := chV_one k x (.slice ao5 1 cp5) rfl; generalize chV k x (.slice ao5 1 cp5) = A at HV HO ⊢; replace HV := Lib.hid HV; replace HO := Lib.hid HO; have HW5 := Lib.hid (And.intro ((HS.out.1.below h5).alloc (.cells zCh TCh)) ((HS.out.2.below h5).alloc (.cells zCh TCh))); clear h5)
    | ((with_reducible (refine wpList_alloc_zero ?_ TCh ?_ _ (zeroCh _) ?_)); rfl; rfl; generalize w5.alloc (.cells zCh TCh) = w6 at HW5 ⊢; generalize w5.heap.size = g7 at HW5 ⊢)
    | (refine wpList_store_blk (T := TCh) (old := zCh) (new := A) rfl rfl rfl rfl HW5.out.2 (infoCh HV.out.size) (by rw [HV.out.size]; rfl) HO.out ?_; intro w7 h7))
   have HW7 := Lib.hid (And.intro (HW5.out.1.trans h7.out.1) h7.out.2)
   clear h7 HW5 c0
   have c21 := (cells_at HW7.out.2.block 21).trans HV.out.lost
   have HSk := Lib.hid (fun (h : addW Lw x = Lw) => show WaS w L am F u3 (.int .i64 ((k : Int) + 1)) w7 from ⟨k + 1, by rw [← HN.out]; omega, by push_cast; rfl, HW7.out.1, by rw [HWS.out, h]; exact HW7.out.2.right⟩)
   cases hxl : x.lost with
   | false =>
    rw [hxl] at c21
    have HE := Lib.hid (HSk.out (by unfold addW; rw [hxl]; simp))
    clear HSk
    go_wp2
    go_roundw
    case rel => exact HE.out
    case measure => simp only [intOf]; omega
   | true =>
    rw [hxl] at c21
    have HCD := Lib.hid (show w7.rangeAt g7 1 (digM (unitL x.fill)).toList from fun j v hv => by
     rw [Array.getElem?_toList] at hv
     have hj : j < 16 := by have := (Array.getElem?_eq_some_iff.1 hv).1; rwa [digM_size] at this
     rw [cells_at HW7.out.2.block, HV.out.dig j hj]; exact hv)
    have HDE := Lib.hid (dkV_dk (unitL x.fill))
    have HDZ := Lib.hid (And.intro (digM_size (unitL x.fill)) (digM_one (unitL x.fill)))
    have HDL := Lib.hid (show dgE x.fill = (digM (unitL x.fill)).toList from rfl)
    have HLD := Lib.hid (load_dig HCD.out)
    generalize digM (unitL x.fill) = D at HDE HDZ HDL HLD HCD
    have hm0 := HW7.out.2.perm (show _ = mapD am (kvW Lw) * (pts g7 (.cells A TCh (0, 0)) * (ownD u3 Lw * F)) by ac_rfl)
    obtain ⟨es, clock, hmg, hm1⟩ := mapD_iff.1 hm0
    have HLK := Lib.hid ((Go.Key.run_lookup_at (P := Tryz.prog) Tryz.underlying90 emb_dig (zero_bool41 _) hm1.block hmg (dk (unitL x.fill))).trans (by rw [kvW_lk]))
    have HM := Lib.hid (And.intro hmg hm1)
    clear hm0 hmg hm1 HCD
    go_upto_region 7 with (fail)
    refine wp_region_lit ?_
    (apply wpList_runG rfl); (go_simp; first | rfl | exact ⟨rfl, rfl⟩); simp only [Act.put, zq1, zq2, zq3]
    refine wpList_runG (v := .bool true) rfl (exec_load_cell rfl rfl Tryz.underlying4 rfl c21) ?_; simp only [Act.put, zq1, zq2, zq3]
    (apply wpList_runG rfl); (go_simp; first | rfl | exact ⟨rfl, rfl⟩); simp only [Act.put, zq1, zq2, zq3]
    (apply wpList_runG rfl); (go_simp; first | rfl | exact ⟨rfl, rfl⟩); simp only [Act.put, zq1, zq2, zq3]
    (apply wpList_runG rfl); (go_simp; first | rfl | exact ⟨rfl, rfl⟩); simp only [Act.put, zq1, zq2, zq3]
    (apply wpList_runG rfl); (go_simp; first | rfl | exact ⟨rfl, rfl⟩); simp only [Act.put, zq1, zq2, zq3]
    refine wpList_runG (v := .agg D) rfl (exec_load_mid rfl rfl HLD.out) ?_; simp only [Act.put, zq1, zq2, zq3]
    refine wpList_runG (v := .bool (Lw.any fun g => sameD (unitL g) (unitL x.fill))) rfl (exec_lookup rfl rfl rfl (by rw [← HDE.out]; exact HLK.out)) ?_; simp only [Act.put, zq1, zq2, zq3]
    (apply wpList_runG rfl); (go_simp; first | rfl | exact ⟨rfl, rfl⟩); simp only [Act.put, zq1, zq2, zq3]
    refine wpList_nil ?_
    cases hsd : (Lw.any fun g => sameD (unitL g) (unitL x.fill)) with
    | true =>
     have HE := Lib.hid (HSk.out (by unfold addW; rw [hxl, hsd]; simp))
     clear HSk HLK
     go_wp2
     go_roundw
     case rel => exact HE.out
     case measure => simp only [intOf]; omega
    | false =>
     have HAD := Lib.hid (show addW Lw x = Lw ++ [x.fill] by unfold addW; rw [hxl, hsd]; simp)
     have HKU := Lib.hid (kvW_upd Lw x.fill hsd)
     clear HSk HLK
     obtain ⟨es', clock', hrun, hmg'⟩ := Go.Key.run_mapUpdate_kv (P := Tryz.prog) Tryz.underlying90 emb_dig HM.out.2.block HM.out.1 (dk (unitL x.fill)) (.bool true)
     rw [HKU.out] at hmg'
     go_upto_region 8 with (fail)
     refine wp_region_lit ?_
     (apply wpList_runG rfl); (go_simp; first | rfl | exact ⟨rfl, rfl⟩); simp only [Act.put, zq1, zq2, zq3]
     (apply wpList_runG rfl); (go_simp; first | rfl | exact ⟨rfl, rfl⟩); simp only [Act.put, zq1, zq2, zq3]
     refine wpList_runG (v := .agg D) rfl (exec_load_mid rfl rfl HLD.out) ?_; simp only [Act.put, zq1, zq2, zq3]
     refine wpList_do (w' := ChangeMaps.setBlock w7 am (.map es' clock')) rfl (exec_mapUpdate rfl rfl rfl rfl (by rw [← HDE.out]; exact hrun)) ?_
     have h16 := HM.out.2.setBlock (o' := .map es' clock')
     have HW8 := Lib.hid (And.intro (HW7.out.1.setBlock (r := am) (.map es' clock')) (mapD_iff.2 ⟨es', clock', hmg', h16⟩))
     clear hrun h16 hmg' HM HLD
     generalize ChangeMaps.setBlock w7 am (.map es' clock') = w8 at HW8 ⊢
     refine wpList_nil ?_
     have hq8 := HW8.out.2.perm (show _ = pts g7 (.cells A TCh (0, 0)) * (ownD u3 Lw * (mapD am (kvW (Lw ++ [x.fill])) * F)) by ac_rfl)
     have HLD := Lib.hid (run_loadVar_mid (P := Tryz.prog) w8 g7 1 TD D.toList _ (fun j v hv => by
      rw [Array.getElem?_toList] at hv
      have hj : j < 16 := by have := (Array.getElem?_eq_some_iff.1 hv).1; rwa [HDZ.out.1] at this
      rw [cells_at hq8.block, HV.out.dig j hj]
      have h9 : (dgE x.fill)[j]? = some v := by rw [HDL.out, Array.getElem?_toList]; exact hv
      unfold dgE at h9
      rwa [Array.getElem?_toList] at h9) Tryz.underlying67 rfl (by rw [Array.length_toList, HDZ.out.1]; kernel_rfl))
     rw [show D.toList.toArray = D from Array.toArray_toList] at HLD
     obtain ⟨i0, hi, hz0, hz1, hz2⟩ := info_parts info_dg
     go_upto_region 9 with (fail)
     refine wp_region_lit ?_
     (apply wpList_runG rfl); (go_simp; first | rfl | exact ⟨rfl, rfl⟩); simp only [Act.put, zq1, zq2, zq3]
     (apply wpList_runG rfl); (go_simp; first | rfl | exact ⟨rfl, rfl⟩); simp only [Act.put, zq1, zq2, zq3]
     refine wpList_runG (v := .agg D) rfl (exec_load_mid rfl rfl HLD.out) ?_; simp only [Act.put, zq1, zq2, zq3]
     refine wpList_runG rfl (exec_bs1 rfl rfl Tryz.underlying40 hi hz0 hz1 (by omega) (by omega) HDZ.out.1) ?_
     simp only [Act.put, zq1, zq2, zq3]
     have HW9 := Lib.hid (And.intro (HW8.out.1.alloc (.cells D TD)) (hq8.alloc (.cells D TD)))
     clear HLD hq8 HW8
     generalize w8.alloc (.cells D TD) = w9 at HW9 ⊢
     generalize w8.heap.size = g39 at HW9 ⊢
     have hq9 := HW9.out.2.perm (show _ = ownD u3 Lw * (pts g39 (.cells D TD (0, 0)) * (pts g7 (.cells A TCh (0, 0)) * (mapD am (kvW (Lw ++ [x.fill])) * F))) by ac_rfl)
     have hnews : ∀ j u, D.toList[j]? = some u → w9.cell? ((⟨g39, 0, none⟩ : Addr).add j) = some u := fun j u hu => by
      rw [Addr.add_mid, Nat.zero_add, cells_at HW9.out.2.block]; rwa [Array.getElem?_toList] at hu
     refine wpList_append_ownAt rfl _ _ 40 TD rfl i0 _ Tryz.underlying40 hi hz0 hz1 hz2 rfl hq9 D.toList rfl rfl (by rw [Array.length_toList, HDZ.out.1]) hnews HDZ.out.2 (by have := HLW.out; unfold maxLen; omega) (by have := HLW.out; omega) ?_
     intro v' w10 h3
     simp only [Act.put, zq1, zq2, zq3]
     have HE := Lib.hid (show WaS w L am F v' (.int .i64 ((k : Int) + 1)) w10 from ⟨k + 1, by rw [← HN.out]; omega, by push_cast; rfl, HW9.out.1.trans h3.out.1, by
      rw [HWS.out, HAD.out]
      have h := h3.out.2
      rw [← HDL.out] at h
      unfold ownD
      rw [List.length_append, List.length_singleton, List.flatMap_append, List.flatMap_cons, List.flatMap_nil, List.append_nil]
      exact (h.perm (show _ = (pts g39 (.cells D TD (0, 0)) * pts g7 (.cells A TCh (0, 0))) * (ownAt TD 16 v' (Lw.length + 1) (Lw.flatMap dgE ++ dgE x.fill) * (mapD am (kvW (Lw ++ [x.fill])) * F)) by ac_rfl)).right⟩)
     clear h3 hnews hq9 HW9 hi hz0 hz1 hz2
     (apply wpList_runG rfl); (go_simp; first | rfl | exact ⟨rfl, rfl⟩); simp only [Act.put, zq1, zq2, zq3]
     refine wpList_nil ?_
     go_wp2
     go_roundw
     case rel => exact HE.out
     case measure => simp only [intOf]; omega
  ·have hke : k = n := by omega
   subst hke
   have hltd : decide ((k : Int) < (k : Int)) = false := decide_eq_false (by omega)
   obtain ⟨va3, vc3, rfl⟩ := ownAt_slice HS.out.2
   go_wp2
   go_ret
   refine ⟨_, rfl, HS.out.1, ?_⟩
   have h := HS.out.2
   rw [HF.out] at h
   have e : waitL (L.take k) = waitL L := by rw [HN.out, List.take_length]
   rw [e] at h ⊢
   exact (h.perm (show _ = (mapD am (kvW (waitL L)) * ownAt TI 1 (.slice va k vc) k (intsV (idsL k))) * (ownD (.slice va3 (waitL L).length vc3) (waitL L) * old w) by ac_rfl)).right
end Go.Proofs.YteikbikopgabjaaGreatDoor
end
section
namespace Go.GF
open Go Go.RowKit
end Go.GF
namespace Go.Proofs.YteikbikopgabjaaGreatDoor
open Go.RowKit Go.GF Go.Sl
structure V8 (w : World) (g : Nat) (nm : ByteArray) (f k : Int) (pv : Value) (dom : Int) (wr : World) : Prop where
 bx : Box wr g (codeV nm f k pv dom)
 bl : Below g w wr
theorem V8.below {w : World} {g : Nat} {nm : ByteArray} {f k : Int} {pv : Value} {dom : Int} {wr w' : World} (h : V8 w g nm f k pv dom wr) (hb : Below wr.heap.size wr w') : V8 w g nm f k pv dom w' :=
 ⟨h.bx.below hb, h.bl.trans (hb.mono (by
  obtain ⟨t, h1⟩ := h.bx
  exact Nat.le_of_lt (Array.getElem?_eq_some_iff.1 h1).1))⟩
theorem V8.drew {w : World} {g : Nat} {nm : ByteArray} {f k : Int} {pv : Value} {dom : Int} {wr : World} (h : V8 w g nm f k pv dom wr) : V8 w g nm f k pv dom wr.drew := h.below (Below.refl _ _).drew
end Go.Proofs.YteikbikopgabjaaGreatDoor
namespace Go.Sl
open Go Go.RowKit
end Go.Sl
namespace Go.Proofs.YteikbikopgabjaaGreatDoor
open Go.RowKit Go.GF Go.Sl
end Go.Proofs.YteikbikopgabjaaGreatDoor
end
