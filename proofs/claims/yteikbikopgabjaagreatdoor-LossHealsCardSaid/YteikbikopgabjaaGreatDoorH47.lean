import Derived.Test.YteikbikopgabjaaGreatDoorH46
import Derived.Test.YteikbikopgabjaaGreatDoorH17
import Derived.Test.YteikbikopgabjaaGreatDoorH35
/- Part 47 of a proof; the last part says what is proved. -/
section
namespace Go.Proofs.YteikbikopgabjaaGreatDoor
open Go.RowKit Go.Sha Go.Sl Go.GF Go.Vol Go.Loss
theorem id_of {most : Int} : ∀ {z : Int} {l : List ContM}, -1 ≤ z → most ≤ 1000 → validC most z l → ∀ x ∈ l, -1 ≤ x.id ∧ x.id ≤ 1000
 | _, [], _, _, _, x, hx => by simp at hx
 | _, y :: r, hz, hm, h, x, hx => by
  have h1 := h.1.1
  have h2 := h.1.2.1
  rcases List.mem_cons.1 hx with rfl | hx
  ·omega
  ·exact id_of (by omega) hm h.2 x hx
theorem gonesC_ok {f : Bool} {id : Int} {ms : List (Int × Int)} {l : List ItM} (h1 : -1 ≤ id ∧ id ≤ 1000) (h2 : validM (-1) ms) : ∀ g ∈ gonesC f id ms l, okG g := by
 intro g hg
 unfold gonesC at hg
 obtain ⟨m, hm, he⟩ := List.mem_filterMap.1 hg
 obtain ⟨x, -, rfl⟩ := Option.map_eq_some_iff.1 he
 have := (validM_all h2).1 m hm
 unfold okG
 dsimp only
 omega
theorem report_ok {A B : List ContM} {l : List ItM} (h : validS A B) : ∀ g ∈ reportL A B l, okG g := by
 intro g hg
 unfold reportL partL at hg
 rcases List.mem_append.1 hg with hg | hg
 ·obtain ⟨c, hc, hg⟩ := List.mem_flatMap.1 hg
  exact gonesC_ok (id_of (by omega) (by omega) h.1 c hc) (okC_of h.1 c hc) g hg
 ·obtain ⟨c, hc, hg⟩ := List.mem_flatMap.1 hg
  exact gonesC_ok (id_of (by omega) (by omega) h.2.1 c hc) (okC_of h.2.1 c hc) g hg
def InBox (g : Nat) (va vb vi : Value) (W : World) : Prop := W.heap[g]? = some (.cells #[va, vb, vi] TIn41 (0, 0))
theorem InBox.lt {g : Nat} {va vb vi : Value} {W : World} (h : InBox g va vb vi W) : g < W.heap.size := (Array.getElem?_eq_some_iff.1 h).1
theorem InBox.below {g : Nat} {va vb vi : Value} {W W' : World} (h : InBox g va vb vi W) (hb : Below W.heap.size W W') : InBox g va vb vi W' := (hb.block g h.lt).trans h
theorem InBox.c0 {g : Nat} {va vb vi : Value} {W : World} (h : InBox g va vb vi W) : W.cell? ⟨g, 0, none⟩ = some va := by rw [cells_at h]; rfl
theorem InBox.c1 {g : Nat} {va vb vi : Value} {W : World} (h : InBox g va vb vi W) : W.cell? ⟨g, 1, none⟩ = some vb := by rw [cells_at h]; rfl
theorem InBox.c2 {g : Nat} {va vb vi : Value} {W : World} (h : InBox g va vb vi W) : W.cell? ⟨g, 2, none⟩ = some vi := by rw [cells_at h]; rfl
theorem inBox_alloc (w : World) (va vb vi : Value) : InBox w.heap.size va vb vi (w.alloc (.cells #[va, vb, vi] TIn41)) := ((Sat.old w).alloc (.cells #[va, vb, vi] TIn41)).block
theorem own_rows {w : World} {F : HProp} {T : TypeId} {k n : Nat} {v : Value} {L : List Value} (h : Sat w (ownAt T k v n L * F)) : RowsO w v n L := rowsO_own h
theorem IntsAt.below {w wr : World} {v : Value} {l : List Int} (h : IntsAt w v l) (hb : Below w.heap.size w wr) : IntsAt wr v l := IntsAt.row h hb
end Go.Proofs.YteikbikopgabjaaGreatDoor
end
section
namespace Go.Proofs.YteikbikopgabjaaGreatDoor
open Go.RowKit Go.Sha Go.Sl Go.GF Go.Vol Go.Loss
set_option maxRecDepth 20000 in
theorem rd_mapping41 {w : World} {cs : List Value} (h : Rd Tryz.prog w 74 cs) : ∃ x, cs = mE x := by
 obtain ⟨hl, hf⟩ := Rd.struct Tryz.underlying74 h
 rw [show Tryz.prog.cellsOf 74 = 2 by kernel_rfl] at hl
 have k1 : Tryz.prog.cellsOf 3 = 1 := by kernel_rfl
 match cs, hl with
 | [a0, a1], _ =>
  simp only [List.mem_cons, List.not_mem_nil, or_false, forall_eq_or_imp, forall_eq, k1, List.drop_zero, List.drop_succ_cons, List.take_succ_cons, List.take_zero] at hf
  obtain ⟨h0, h1⟩ := hf
  obtain ⟨n0, e0, _⟩ := Rd.int Tryz.underlying3 h0
  obtain ⟨n1, e1, _⟩ := Rd.int Tryz.underlying3 h1
  refine ⟨(n0, n1), ?_⟩
  simp at e0 e1
  subst e0 e1
  rfl
theorem flat_cell41 {α : Type} {enc : α → List Value} {k : Nat} (hk : ∀ x, (enc x).length = k) (h0 : 0 < k) {l : List α} {w : World} {b off : Nat} (h : ∀ j x, l[j]? = some x → ∀ i u, (enc x)[i]? = some u → w.cell? ⟨b, off + j * k + i, none⟩ = some u) :
  ∀ j u, (l.flatMap enc)[j]? = some u → w.cell? ⟨b, off + j, none⟩ = some u := by
 intro j u hu
 have hlt := (List.getElem?_eq_some_iff.1 hu).1
 rw [Go.Vol.flat_len hk] at hlt
 have hq : j / k < l.length := Nat.div_lt_of_lt_mul (by rw [Nat.mul_comm]; exact hlt)
 obtain ⟨x, hx⟩ : ∃ x, l[j / k]? = some x := ⟨_, List.getElem?_eq_getElem hq⟩
 have hr : j % k < (enc x).length := by rw [hk]; exact Nat.mod_lt _ h0
 obtain ⟨u', hu'⟩ : ∃ u', (enc x)[j % k]? = some u' := ⟨_, List.getElem?_eq_getElem hr⟩
 have hfa := flat_at hk l _ x hx _ _ hu'
 have hjk : j / k * k + j % k = j := by rw [Nat.mul_comm]; exact Nat.div_add_mod _ _
 rw [hjk, hu] at hfa
 obtain rfl : u = u' := Option.some.inj hfa
 have := h _ x hx _ _ hu'
 rwa [Nat.add_assoc, hjk] at this
theorem rd_mappings41 {w : World} {cs : List Value} (h : Rd Tryz.prog w 75 cs) : ∃ v, ∃ l : List (Int × Int), cs = [v] ∧ RowsO w v l.length (l.flatMap mE) ∧ (∃ a n c, v = .slice a n c) := by
 obtain ⟨ao, len, cap, rfl, ⟨hlc, hm⟩, hc⟩ := Rd.sliceM (sz := 2) Tryz.underlying75 (by kernel_rfl) (by decide) h
 by_cases h0 : len = 0
 ·subst h0
  exact ⟨_, [], rfl, ⟨ao, cap, rfl, Nat.zero_le _, fun h => absurd h (Nat.lt_irrefl _)⟩, _, _, _, rfl⟩
 ·obtain ⟨b, off, rfl, hi⟩ := hc (by omega)
  obtain ⟨l, hl, hp⟩ := list_of (p := fun j (x : Int × Int) => ∀ i u, (mE x)[i]? = some u → w.cell? ⟨b, off + j * 2 + i, none⟩ = some u) len (by
   intro i hlt
   obtain ⟨es, _, hr, hcell⟩ := hi i hlt
   obtain ⟨x, rfl⟩ := rd_mapping41 hr
   exact ⟨x, hcell⟩)
  subst hl
  have hcell := flat_cell41 mE_len (by decide) hp
  refine ⟨_, l, rfl, ⟨some ⟨b, off, none⟩, cap, rfl, Nat.le_trans hlc hm, fun hn => ⟨b, off, rfl, ?_, hcell⟩⟩, _, _, _, rfl⟩
  obtain ⟨x, hx⟩ : ∃ x, l[0]? = some x := ⟨_, List.getElem?_eq_getElem hn⟩
  exact World.block_lt_of_cell? _ _ (hp 0 x hx 0 _ rfl)
set_option maxRecDepth 20000 in
theorem rd_content41 {w : World} {cs : List Value} (h : Rd Tryz.prog w 77 cs) : ∃ x : ElC, cs = cE x ∧ RowsO w x.2 x.1.maps.length (x.1.maps.flatMap mE) := by
 obtain ⟨hl, hf⟩ := Rd.struct Tryz.underlying77 h
 rw [show Tryz.prog.cellsOf 77 = 4 by kernel_rfl] at hl
 have k1 : Tryz.prog.cellsOf 3 = 1 := by kernel_rfl
 have k2 : Tryz.prog.cellsOf 75 = 1 := by kernel_rfl
 match cs, hl with
 | [a0, a1, a2, a3], _ =>
  simp only [List.mem_cons, List.not_mem_nil, or_false, forall_eq_or_imp, forall_eq, k1, k2, List.drop_zero, List.drop_succ_cons, List.take_succ_cons, List.take_zero] at hf
  obtain ⟨h0, h1, h2, h3⟩ := hf
  obtain ⟨n0, e0, _⟩ := Rd.int Tryz.underlying3 h0
  obtain ⟨n1, e1, _⟩ := Rd.int Tryz.underlying3 h1
  obtain ⟨n2, e2, _⟩ := Rd.int Tryz.underlying3 h2
  obtain ⟨v, l, e3, hr, _⟩ := rd_mappings41 h3
  simp at e0 e1 e2 e3
  subst e0 e1 e2 e3
  exact ⟨(⟨n0, n1, n2, l⟩, a3), rfl, hr⟩
theorem rd_contents41 {w : World} {cs : List Value} (h : Rd Tryz.prog w 22 cs) : ∃ v l, cs = [v] ∧ CntL w v l ∧ CapOk v := by
 obtain ⟨ao, len, cap, rfl, ⟨hlc, hm⟩, hc⟩ := Rd.sliceM (sz := 4) Tryz.underlying22 (by kernel_rfl) (by decide) h
 by_cases h0 : len = 0
 ·subst h0
  exact ⟨_, [], rfl, ⟨⟨ao, cap, rfl, Nat.zero_le _, fun h => absurd h (Nat.lt_irrefl _)⟩, fun x hx => absurd hx (by simp)⟩, fun _ _ _ e => by cases e; exact hlc⟩
 ·obtain ⟨b, off, rfl, hi⟩ := hc (by omega)
  obtain ⟨l, hl, hp⟩ := list_of (p := fun j (x : ElC) => (∀ i u, (cE x)[i]? = some u → w.cell? ⟨b, off + j * 4 + i, none⟩ = some u) ∧ RowsO w x.2 x.1.maps.length (x.1.maps.flatMap mE)) len (by
   intro i hlt
   obtain ⟨es, _, hr, hcell⟩ := hi i hlt
   obtain ⟨x, rfl, hx⟩ := rd_content41 hr
   exact ⟨x, hcell, hx⟩)
  subst hl
  have hcell := flat_cell41 cE_len (by decide) (fun j x hx => (hp j x hx).1)
  refine ⟨_, l, rfl, ⟨⟨some ⟨b, off, none⟩, cap, rfl, Nat.le_trans hlc hm, fun hn => ⟨b, off, rfl, ?_, hcell⟩⟩, fun x hx => ?_⟩, fun _ _ _ e => by cases e; exact hlc⟩
  ·obtain ⟨x, hx⟩ : ∃ x, l[0]? = some x := ⟨_, List.getElem?_eq_getElem hn⟩
   exact World.block_lt_of_cell? _ _ ((hp 0 x hx).1 0 _ rfl)
  ·obtain ⟨i, hi⟩ := List.mem_iff_getElem?.1 hx
   exact (hp i x hi).2
set_option maxRecDepth 20000 in
theorem rd_item41 {w : World} {cs : List Value} (h : Rd Tryz.prog w 60 cs) : ∃ x : ItM, cs = itE x := by
 obtain ⟨hl, hf⟩ := Rd.struct Tryz.underlying60 h
 rw [show Tryz.prog.cellsOf 60 = 2 by kernel_rfl] at hl
 have k1 : Tryz.prog.cellsOf 5 = 1 := by kernel_rfl
 have k2 : Tryz.prog.cellsOf 4 = 1 := by kernel_rfl
 match cs, hl with
 | [a0, a1], _ =>
  simp only [List.mem_cons, List.not_mem_nil, or_false, forall_eq_or_imp, forall_eq, k1, k2, List.drop_zero, List.drop_succ_cons, List.take_succ_cons, List.take_zero] at hf
  obtain ⟨h0, h1⟩ := hf
  obtain ⟨n0, e0, hr0⟩ := Rd.int Tryz.underlying5 h0
  obtain ⟨n1, e1⟩ := Rd.bool Tryz.underlying4 h1
  simp only [Lit.wf, Bool.and_eq_true, IntKind.min, IntKind.max, IntKind.bits, IntKind.signed] at hr0
  refine ⟨(UInt8.ofNat n0.toNat, n1), ?_⟩
  simp at e0 e1 hr0
  subst e0 e1
  unfold itE
  have : ((UInt8.ofNat n0.toNat).toNat : Int) = n0 := by
   rw [UInt8.toNat_ofNat']
   omega
  simp only [this]
theorem rd_items41 {w : World} {cs : List Value} (h : Rd Tryz.prog w 23 cs) : ∃ v l, cs = [v] ∧ ItL w v l := by
 obtain ⟨ao, len, cap, rfl, ⟨hlc, hm⟩, hc⟩ := Rd.sliceM (sz := 2) Tryz.underlying23 (by kernel_rfl) (by decide) h
 by_cases h0 : len = 0
 ·subst h0
  exact ⟨_, [], rfl, ⟨ao, cap, rfl, Nat.zero_le _, fun h => absurd h (Nat.lt_irrefl _)⟩⟩
 ·obtain ⟨b, off, rfl, hi⟩ := hc (by omega)
  obtain ⟨l, hl, hp⟩ := list_of (p := fun j (x : ItM) => ∀ i u, (itE x)[i]? = some u → w.cell? ⟨b, off + j * 2 + i, none⟩ = some u) len (by
   intro i hlt
   obtain ⟨es, _, hr, hcell⟩ := hi i hlt
   obtain ⟨x, rfl⟩ := rd_item41 hr
   exact ⟨x, hcell⟩)
  subst hl
  have hcell := flat_cell41 itE_len (by decide) hp
  refine ⟨_, l, rfl, ⟨some ⟨b, off, none⟩, cap, rfl, Nat.le_trans hlc hm, fun hn => ⟨b, off, rfl, ?_, hcell⟩⟩⟩
  obtain ⟨x, hx⟩ : ∃ x, l[0]? = some x := ⟨_, List.getElem?_eq_getElem hn⟩
  exact World.block_lt_of_cell? _ _ (hp 0 x hx 0 _ rfl)
set_option maxRecDepth 40000 in
theorem rd_in41 {w : World} {cs : List Value} (h : Rd Tryz.prog w 25 cs) : ∃ va vb vi A B l, cs = (#[va, vb, vi] : Array Value).toList ∧ CntL w va A ∧ CntL w vb B ∧ CapOk va ∧ CapOk vb ∧ ItL w vi l := by
 obtain ⟨hl, hf⟩ := Rd.struct Tryz.underlying25 h
 rw [show Tryz.prog.cellsOf 25 = 3 by kernel_rfl] at hl
 have k1 : Tryz.prog.cellsOf 22 = 1 := by kernel_rfl
 have k2 : Tryz.prog.cellsOf 23 = 1 := by kernel_rfl
 match cs, hl with
 | [a0, a1, a2], _ =>
  simp only [List.mem_cons, List.not_mem_nil, or_false, forall_eq_or_imp, forall_eq, k1, k2, List.drop_zero, List.drop_succ_cons, List.take_succ_cons, List.take_zero] at hf
  obtain ⟨h0, h1, h2⟩ := hf
  obtain ⟨va, A, e0, ha, ca⟩ := rd_contents41 h0
  obtain ⟨vb, B, e1, hb, cb⟩ := rd_contents41 h1
  obtain ⟨vi, l, e2, hi⟩ := rd_items41 h2
  simp at e0 e1 e2
  subst e0 e1 e2
  exact ⟨_, _, _, A, B, l, rfl, ha, hb, ca, cb, hi⟩
end Go.Proofs.YteikbikopgabjaaGreatDoor
end
section
namespace Go.Proofs.YteikbikopgabjaaGreatDoor
open Go.RowKit Go.Sha Go.Sl
attribute [local go_sem high] o_xor o_and o_or o_add
theorem mask31 {n : Nat} (h1 : 1 ≤ n) (h2 : n ≤ 31) (t : TypeId) : binOp .and t (.int .u64 ((18446744073709551616 - n : Nat) : Int)) (.int .u64 31) = pure (.int .u64 ((32 - n : Nat) : Int)) := by
 rw [binOp_and]
 show (pure (Value.int .u64 (bits .and .u64 ((18446744073709551616 - n : Nat) : Int) 31)) : Sem Value) = _
 have h : bits .and .u64 ((18446744073709551616 - n : Nat) : Int) 31 = ((32 - n : Nat) : Int) := by
  show IntKind.u64.wrap (((BitVec.ofInt 64 ((18446744073709551616 - n : Nat) : Int)) &&& (BitVec.ofInt 64 31)).toNat : Int) = _
  rw [BitVec.toNat_and, BitVec.ofInt_natCast, BitVec.toNat_ofNat, show (BitVec.ofInt 64 31).toNat = 2 ^ 5 - 1 from rfl, Nat.and_two_pow_sub_one_eq_mod, show (18446744073709551616 - n) % 2 ^ 64 = 18446744073709551616 - n from Nat.mod_eq_of_lt (by omega)]
  rw [show (18446744073709551616 - n) % 2 ^ 5 = 32 - n by omega]
  rw [IntWalk.u64_in _ (by omega)]
 rw [h]
theorem conv_neg {n : Nat} {z : Int} (hz : z = -(n : Int)) (h1 : 1 ≤ n) (h2 : n ≤ 31) (w : World) : (convert 3 163 (.int .i64 z)).run Tryz.prog w = .ok (.int .u64 ((18446744073709551616 - n : Nat) : Int)) w := by
 have q1 : Tryz.prog.underlying 163 = some (.int .u64) := Tryz.underlying163
 have q2 : Tryz.prog.underlying 3 = some (.int .i64) := Tryz.underlying3
 have q3 : IntKind.u64.wrap z = ((18446744073709551616 - n : Nat) : Int) := by
  subst hz
  simp only [IntKind.wrap, IntKind.bits, IntKind.signed]
  simp
  omega
 simp [convert, run_underlying q1, run_underlying q2, q3, go_sem]
theorem sub32 {n : Nat} (h2 : n ≤ 31) (t : TypeId) : binOp .sub t (.int .u64 32) (.int .u64 ((32 - n : Nat) : Int)) = pure (.int .u64 (n : Int)) := by
 show (pure (Value.int .u64 (IntKind.u64.wrap (32 - ((32 - n : Nat) : Int)))) : Sem Value) = _
 rw [show (32 : Int) - ((32 - n : Nat) : Int) = (n : Int) by omega, IntWalk.u64_in _ (by omega)]
set_option maxRecDepth 20000 in
theorem rotl_any (x : Nat) (hx : x < 4294967296) (n : Nat) (z : Int) (hz : z = -(n : Int)) (h1 : 1 ≤ n) (h2 : n ≤ 31) (w : World) :
  Calls Tryz.prog 162 #[.int .u32 (x : Int), .int .i64 z] w fun e w' => e = .returned (.int .u32 ((rotr x n : Nat) : Int)) ∧ w' = w := by
 have HR := Lib.hid (show or32 (shl32 x (32 - n)) (shr32 x n) = rotr x n from or32_comm _ _)
 have HC := Lib.hid (conv_neg hz h1 h2 w)
 clear hz
 go_enter Tryz.func162, Tryz.ntmps162
 go_upto_region 1 with (fail)
 refine wp_region_lit ?_
 (apply wpList_runG rfl); (go_simp; first | rfl | exact ⟨rfl, rfl⟩); simp only [Act.put, zq1, zq2, zq3]
 refine wpList_runG (v := .int .u64 ((18446744073709551616 - n : Nat) : Int)) rfl (exec_convert rfl rfl HC.out) ?_; simp only [Act.put, zq1, zq2, zq3]
 refine wpList_runG (v := .int .u64 ((32 - n : Nat) : Int)) rfl (exec_binop (vx := .int .u64 ((18446744073709551616 - n : Nat) : Int)) (vy := .int .u64 31) rfl rfl rfl rfl (by rw [mask31 h1 h2]; rfl)) ?_; simp only [Act.put, zq1, zq2, zq3]
 (apply wpList_runG rfl); (go_simp; first | rfl | exact ⟨rfl, rfl⟩); simp only [Act.put, zq1, zq2, zq3]
 refine wpList_nil ?_
 go_upto_region 2 with (fail)
 refine wp_region_lit ?_
 (apply wpList_runG rfl); (go_simp; first | rfl | exact ⟨rfl, rfl⟩); simp only [Act.put, zq1, zq2, zq3]
 (apply wpList_runG rfl); (go_simp; first | rfl | exact ⟨rfl, rfl⟩); simp only [Act.put, zq1, zq2, zq3]
 refine wpList_runG (v := .int .u32 ((shl32 x (32 - n) : Nat) : Int)) rfl (exec_binop (vx := .int .u32 (x : Int)) (vy := .int .u64 ((32 - n : Nat) : Int)) rfl rfl rfl rfl (by rw [o_shl _ _ _ _ (by omega) (by omega), Int.toNat_natCast]; rfl)) ?_; simp only [Act.put, zq1, zq2, zq3]
 (apply wpList_runG rfl); (go_simp; first | rfl | exact ⟨rfl, rfl⟩); simp only [Act.put, zq1, zq2, zq3]
 (apply wpList_runG rfl); (go_simp; first | rfl | exact ⟨rfl, rfl⟩); simp only [Act.put, zq1, zq2, zq3]
 refine wpList_runG (v := .int .u64 (n : Int)) rfl (exec_binop (vx := .int .u64 32) (vy := .int .u64 ((32 - n : Nat) : Int)) rfl rfl rfl rfl (by rw [sub32 h2]; rfl)) ?_; simp only [Act.put, zq1, zq2, zq3]
 refine wpList_runG (v := .int .u32 ((shr32 x n : Nat) : Int)) rfl (exec_binop (vx := .int .u32 (x : Int)) (vy := .int .u64 (n : Int)) rfl rfl rfl rfl (by rw [o_shr _ _ _ _ (by omega) (by omega) hx, Int.toNat_natCast]; rfl)) ?_; simp only [Act.put, zq1, zq2, zq3]
 refine wpList_runG (v := .int .u32 ((rotr x n : Nat) : Int)) rfl (exec_binop (vx := .int .u32 ((shl32 x (32 - n) : Nat) : Int)) (vy := .int .u32 ((shr32 x n : Nat) : Int)) rfl rfl rfl rfl (by rw [o_or, HR.out]; rfl)) ?_; simp only [Act.put, zq1, zq2, zq3]
 (apply wpList_runG rfl); (go_simp; first | rfl | exact ⟨rfl, rfl⟩); simp only [Act.put, zq1, zq2, zq3]
 refine wpList_nil ?_
 go_wp2
 go_ret
 exact ⟨rfl, rfl⟩
def mixM (x i j k : Nat) : Nat := xor32 (xor32 (rotr x i) (rotr x j)) (rotr x k)
set_option maxRecDepth 20000 in
theorem mix_any (x : Nat) (hx : x < 4294967296) (i j k : Nat) (zi zj zk : Int) (hi : zi = (i : Int) ∧ 1 ≤ i ∧ i ≤ 31) (hj : zj = (j : Int) ∧ 1 ≤ j ∧ j ≤ 31) (hk : zk = (k : Int) ∧ 1 ≤ k ∧ k ≤ 31) (w : World) :
  Calls Tryz.prog 151 #[.int .u32 (x : Int), .int .i64 zi, .int .i64 zj, .int .i64 zk] w fun e w' => e = .returned (.int .u32 ((mixM x i j k : Nat) : Int)) ∧ w' = w := by
 have H1 := Lib.hid (rotl_any x hx i (-zi) (by rw [hi.1]) hi.2.1 hi.2.2 w)
 have H2 := Lib.hid (rotl_any x hx j (-zj) (by rw [hj.1]) hj.2.1 hj.2.2 w)
 have H3 := Lib.hid (rotl_any x hx k (-zk) (by rw [hk.1]) hk.2.1 hk.2.2 w)
 have hw1 : IntKind.i64.wrap (-zi) = -zi := IntWalk.i64_in _ (by omega)
 have hw2 : IntKind.i64.wrap (-zj) = -zj := IntWalk.i64_in _ (by omega)
 have hw3 : IntKind.i64.wrap (-zk) = -zk := IntWalk.i64_in _ (by omega)
 have HM := Lib.hid (show mixM x i j k = xor32 (xor32 (rotr x i) (rotr x j)) (rotr x k) from rfl)
 clear hi hj hk hx
 go_enter Tryz.func151, Tryz.ntmps151
 go_wp2_with (first
  | (go_at_call 162; (with_reducible refine H1.out.mono ?_); rintro e w1 ⟨rfl, rfl⟩; clear H1)
  | (go_at_call 162; (with_reducible refine H2.out.mono ?_); rintro e w1 ⟨rfl, rfl⟩; clear H2)
  | (go_at_call 162; (with_reducible refine H3.out.mono ?_); rintro e w1 ⟨rfl, rfl⟩; clear H3))
 go_ret
 rw [HM.out]
 exact ⟨rfl, rfl⟩
end Go.Proofs.YteikbikopgabjaaGreatDoor
end
