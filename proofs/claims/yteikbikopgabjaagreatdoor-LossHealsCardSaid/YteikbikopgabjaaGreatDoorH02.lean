import Derived.Test.YteikbikopgabjaaGreatDoorH01
import Derived.ProofKit
import Derived.OpenShut
import Derived.Test.YteikbikopgabjaaGreatDoorRows
import Derived.WalkKit
import Derived.Carry
import Derived.Laws.BitsAllLaws
import Derived.IntWalk
import Derived.Deep.RegionHeld3
/- Part 2 of a proof; the last part says what is proved. -/
section
namespace Go.Sl
open Go Go.RowKit
def Rd (P : Program) (w : World) (t : TypeId) (cs : List Value) : Prop :=
 ∃ (H : Type) (enc : TypeId × Value → H) (fuel : Nat) (d : DataW H) (ps : List MemPlace), DataW.trod enc P w 0 (fun _ => true) true fuel t cs = some (d, ps)
section
variable {P : Program} {w : World} {t : TypeId} {cs : List Value}
theorem mapM_at {α β : Type} {f : α → Option β} : ∀ {l : List α} {r : List β}, l.mapM f = some r → ∀ x ∈ l, ∃ y, f x = some y
 | [], _, _, x, hx => by simp at hx
 | a :: l, r, h, x, hx => by
  rw [List.mapM_cons] at h
  cases ha : f a with
  | none => simp [ha] at h
  | some y =>
   cases hl : l.mapM f with
   | none => simp [ha, hl] at h
   | some ys =>
    rcases List.mem_cons.1 hx with rfl | hx
    ·exact ⟨y, ha⟩
    ·exact mapM_at hl x hx
theorem list_of {α : Type} {p : Nat → α → Prop} : ∀ n, (∀ i, i < n → ∃ x, p i x) → ∃ l : List α, l.length = n ∧ ∀ j x, l[j]? = some x → p j x
 | 0, _ => ⟨[], rfl, by simp⟩
 | n + 1, h => by
  obtain ⟨l, hl, hp⟩ := list_of n (fun i hi => h i (by omega))
  obtain ⟨x, hx⟩ := h n (by omega)
  refine ⟨l ++ [x], by simp [hl], fun j y hj => ?_⟩
  rcases Nat.lt_or_ge j n with h1 | h1
  ·rw [List.getElem?_append_left (by omega)] at hj; exact hp j y hj
  ·rw [List.getElem?_append_right (by omega)] at hj
   have : j - l.length = 0 := by
    rcases Nat.eq_zero_or_pos (j - l.length) with h2 | h2
    ·exact h2
    ·rw [List.getElem?_eq_none (by simp; omega)] at hj; cases hj
   rw [this] at hj
   simp at hj
   obtain rfl : j = n := by omega
   rw [← hj]; exact hx
theorem Rd.int {k : IntKind} (hu : P.underlying t = some (.int k)) (h : Rd P w t cs) : ∃ n, cs = [.int k n] ∧ (Lit.int k n).wf = true := by
 obtain ⟨H, enc, fuel, d, ps, h⟩ := h
 cases fuel with
 | zero => simp [DataW.trod] at h
 | succ m =>
  unfold DataW.trod at h
  rw [hu] at h
  split at h <;> simp_all
theorem Rd.string (hu : P.underlying t = some .string) (h : Rd P w t cs) : ∃ s, cs = [.string s] ∧ s.size ≤ maxLen := by
 obtain ⟨H, enc, fuel, d, ps, h⟩ := h
 cases fuel with
 | zero => simp [DataW.trod] at h
 | succ m =>
  unfold DataW.trod at h
  rw [hu] at h
  split at h <;> simp_all
theorem Rd.bool (hu : P.underlying t = some .bool) (h : Rd P w t cs) : ∃ b, cs = [.bool b] := by
 obtain ⟨H, enc, fuel, d, ps, h⟩ := h
 cases fuel with
 | zero => simp [DataW.trod] at h
 | succ m =>
  unfold DataW.trod at h
  rw [hu] at h
  split at h <;> simp_all
theorem Rd.struct {fs : Array Field} (hu : P.underlying t = some (.struct fs)) (h : Rd P w t cs) : cs.length = P.cellsOf t ∧ ∀ f ∈ fs.toList, Rd P w f.type ((cs.drop f.offset).take (P.cellsOf f.type)) := by
 obtain ⟨H, enc, fuel, d, ps, h⟩ := h
 cases fuel with
 | zero => simp [DataW.trod] at h
 | succ m =>
  unfold DataW.trod at h
  rw [hu] at h
  have h' : cs.length = P.cellsOf t ∧ ∃ xs, fs.toList.mapM (fun f => DataW.trod enc P w 0 (fun _ => true) true m f.type ((cs.drop f.offset).take (P.cellsOf f.type))) = some xs := by
   split at h <;> simp_all
   obtain ⟨_, xs, hx, _⟩ := h
   exact ⟨xs, hx⟩
  obtain ⟨h1, xs, hx⟩ := h'
  refine ⟨h1, fun f hf => ?_⟩
  obtain ⟨y, hy⟩ := mapM_at hx f hf
  exact ⟨H, enc, m, y.1, y.2, hy⟩
theorem Rd.slice {e : TypeId} {sz : Nat} (hu : P.underlying t = some (.slice e)) (hsz : P.cellsOf e = sz) (h0 : 0 < sz) (h : Rd P w t cs) :
    ∃ ao len cap, cs = [.slice ao len cap] ∧ len ≤ maxLen ∧ (0 < len → ∃ b off, ao = some ⟨b, off, none⟩ ∧ ∀ i, i < len → ∃ es : List Value, es.length = sz ∧ Rd P w e es ∧ ∀ j u, es[j]? = some u → w.cell? ⟨b, off + i * sz + j, none⟩ = some u) := by
  obtain ⟨H, enc, fuel, d, ps, h⟩ := h
  cases fuel with
  | zero => simp [DataW.trod] at h
  | succ m =>
    rw [DataW.trod_step] at h
    have key : cs = [.slice none 0 0] ∨ ∃ a len cap, cs = [.slice (some a) len cap] ∧ len ≤ cap ∧ cap ≤ maxLen ∧ ∃ elems, (List.range len).mapM (fun i => (w.cells? 0 (a.add (i * P.cellsOf e)) (P.cellsOf e)).bind (DataW.trod enc P w 0 (fun _ => true) true m e)) = some elems := by
      unfold DataW.trodStep at h
      rw [hu] at h
      split at h
      all_goals first
        | (exfalso; simp at *; done)
        | skip
      all_goals first
        | (rename_i heq; cases heq; exact .inl rfl)
        | (rename_i e' a len cap heq
           cases heq
           simp only at h
           split at h
           · rename_i hc
             obtain ⟨elems, he, _⟩ := Option.bind_eq_some_iff.1 h
             exact .inr ⟨a, len, cap, rfl, hc.2.1, hc.2.2, elems, he⟩
           · cases h)
        | (rename_i heq; cases heq)
        | (cases h)
    rcases key with rfl | ⟨a, len, cap, rfl, hlc, hcm, elems, he⟩
    · exact ⟨none, 0, 0, rfl, Nat.zero_le _, fun h => absurd h (Nat.lt_irrefl 0)⟩
    rw [hsz] at he
    refine ⟨some a, len, cap, rfl, Nat.le_trans hlc hcm, fun hl => ?_⟩
    have hat : ∀ i, i < len → ∃ es, w.cells? 0 (a.add (i * sz)) sz = some es ∧ ∃ y, DataW.trod enc P w 0 (fun _ => true) true m e es = some y := by
      intro i hi
      obtain ⟨y, hy⟩ := mapM_at he i (by simp [hi])
      rw [Option.bind_eq_some_iff] at hy
      obtain ⟨es, h3, h4⟩ := hy
      exact ⟨es, h3, y, h4⟩
    have hcell : ∀ (x : Addr) (es : List Value), w.cells? 0 x sz = some es → es.length = sz ∧ ∀ j u, es[j]? = some u → w.cell? (x.add j) = some u := by
      intro x es hx
      unfold World.cells? at hx
      rw [if_pos (Nat.zero_le _)] at hx
      have hlen : es.length = sz := by simpa using mapM_some_length hx
      refine ⟨hlen, fun j u hu => ?_⟩
      have hj : j < sz := by rw [← hlen]; exact (List.getElem?_eq_some_iff.1 hu).1
      have := mapM_some_get hx j j (by simp [hj])
      rw [this]; exact hu
    obtain ⟨b, off, spot⟩ := a
    obtain ⟨es0, hc0, _⟩ := hat 0 hl
    obtain ⟨hl0, hcc⟩ := hcell _ _ hc0
    have hspot : spot = none := by
      have := hcc 0 _ (List.getElem?_eq_getElem (by omega))
      simpa [Addr.add] using World.cell?_spot this
    subst hspot
    refine ⟨b, off, rfl, fun i hi => ?_⟩
    obtain ⟨es, hc, y, hy⟩ := hat i hi
    obtain ⟨hl', hcc'⟩ := hcell _ _ hc
    refine ⟨es, hl', ⟨H, enc, m, y.1, y.2, hy⟩, fun j u hj => ?_⟩
    have := hcc' j u hj
    rw [Addr.add_mid, Addr.add_mid] at this
    exact this
end
end Go.Sl
namespace Go.Proofs.YteikbikopgabjaaGreatDoor
open Go.ChangeShapes Go.WideShapes Go.ChangeAt Go.RowKit
theorem law_own : ownKnob Tryz.prog.godebug = none := by kernel_rfl
theorem law_laid : laidOutB Tryz.prog = true := by kernel_rfl
theorem law_args {H : Type} {enc : TypeId × Value → H} {W W' : World} (hb : Below W.heap.size W W') :
  ∀ (ts : List TypeId) (vs : List Value) (ds : List (DataW H)) (ps : List MemPlace), (∀ t ∈ ts, Tryz.prog.readableRec t = true ∧ t < Tryz.prog.types.size) → (∀ x ∈ ps, x.block < W.heap.size) →
   DataW.TrodAll enc Tryz.prog W 0 (fun _ => true) true ts vs ds ps → DataW.TrodAll enc Tryz.prog W' 0 (fun b => decide (b < W.heap.size)) true ts vs ds ps
 | [], [], [], ps, _, _, h => h
 | t :: ts, v :: vs, d :: ds, ps, ht, hlt, h => by
  obtain ⟨p, q, h1, h2, rfl⟩ := h
  exact ⟨p, q, Below.trod law_laid (ht t (by simp)).1 (ht t (by simp)).2 h1 hb (fun x hx => hlt x (by simp [hx])), law_args hb ts vs ds q (fun t' h' => ht t' (by simp [h'])) (fun x hx => hlt x (by simp [hx])) h2, rfl⟩
 | [], [], _ :: _, _, _, _, h => by cases h
 | [], _ :: _, _, _, _, _, h => by cases h
 | _ :: _, [], _, _, _, _, h => by cases h
 | _ :: _, _ :: _, [], _, _, _, h => by cases h
theorem law_post {H : Type} {enc : TypeId × Value → H} {f : Func} {s : ChangeSpec} {W W' : World} {args : Array Value} {ds gs : List (DataW H)} {before : List MemPlace}
  (hres : f.resultTypes = #[4]) (hvars : s.vars = []) (hp : ∀ t ∈ f.params.toList, Tryz.prog.readableRec t = true ∧ t < Tryz.prog.types.size)
  (hfn : (s.fn H (ds ++ gs)) = { results := [.lit (.bool true)], args := ds }) (hW : DataW.Whole enc Tryz.prog f.params.toList s.vars false W args.toList ds gs before)
  (hb : Below W.heap.size W W') : s.post enc Tryz.prog f false true false false W args (.bool true) W' := by
 obtain ⟨p, q, hA, hV, rfl, hfz, hnd⟩ := id hW
 rw [hvars] at hV
 have hlt : ∀ x ∈ p, x.block < W.heap.size := fun x hx => by simpa using hW.lt x (by simp [hx])
 refine ⟨ds, gs, p ++ q, [], p, [], hW, ?_, ?_, ?_, hb.frame _, fun h => by cases h⟩
 ·rw [hfn, hres]; exact trodAll_cons_mk (shut_bool Tryz.underlying4 _) trodAll_mk0
 ·rw [hfn]; exact law_args hb _ _ _ _ hp hlt hA
 ·rw [hfn, hvars]; rfl
end Go.Proofs.YteikbikopgabjaaGreatDoor
end
section
namespace Go.Sha
open Go
def xor32 (a b : Nat) : Nat := (a ^^^ b) % 4294967296
def and32 (a b : Nat) : Nat := (a &&& b) % 4294967296
def or32 (a b : Nat) : Nat := (a ||| b) % 4294967296
def add32 (a b : Nat) : Nat := (a + b) % 4294967296
def shl32 (a s : Nat) : Nat := (a <<< s) % 4294967296
def shr32 (a s : Nat) : Nat := (a >>> s) % 4294967296
theorem ofInt32 (a : Nat) : (BitVec.ofInt 32 (a : Int)).toNat = a % 4294967296 := by rw [BitVec.ofInt_natCast, BitVec.toNat_ofNat]
theorem bits_u32 (op : BinOp) (f : BitVec 32 → BitVec 32 → BitVec 32) (a b : Nat) (h : bits op .u32 (a : Int) (b : Int) = IntKind.u32.wrap ((f (BitVec.ofInt 32 (a : Int)) (BitVec.ofInt 32 (b : Int))).toNat : Int)) :
  bits op .u32 (a : Int) (b : Int) = ((f (BitVec.ofInt 32 (a : Int)) (BitVec.ofInt 32 (b : Int))).toNat : Int) := by
 rw [h, IntKind.wrap_u32']
 have := (f (BitVec.ofInt 32 (a : Int)) (BitVec.ofInt 32 (b : Int))).isLt
 omega
theorem o_xor (t : TypeId) (a b : Nat) : binOp .xor t (.int .u32 (a : Int)) (.int .u32 (b : Int)) = pure (.int .u32 ((xor32 a b : Nat) : Int)) := by
 rw [binOp_xor]
 show (pure (Value.int .u32 (bits .xor .u32 (a : Int) (b : Int))) : Sem Value) = _
 rw [bits_u32 .xor (· ^^^ ·) a b rfl, BitVec.toNat_xor, ofInt32, ofInt32]
 unfold xor32
 rw [← Nat.xor_mod_two_pow (n := 32)]
theorem o_and (t : TypeId) (a b : Nat) : binOp .and t (.int .u32 (a : Int)) (.int .u32 (b : Int)) = pure (.int .u32 ((and32 a b : Nat) : Int)) := by
 rw [binOp_and]
 show (pure (Value.int .u32 (bits .and .u32 (a : Int) (b : Int))) : Sem Value) = _
 rw [bits_u32 .and (· &&& ·) a b rfl, BitVec.toNat_and, ofInt32, ofInt32]
 unfold and32
 rw [← Nat.and_mod_two_pow (n := 32)]
theorem o_or (t : TypeId) (a b : Nat) : binOp .or t (.int .u32 (a : Int)) (.int .u32 (b : Int)) = pure (.int .u32 ((or32 a b : Nat) : Int)) := by
 rw [binOp_or]
 show (pure (Value.int .u32 (bits .or .u32 (a : Int) (b : Int))) : Sem Value) = _
 rw [bits_u32 .or (· ||| ·) a b rfl, BitVec.toNat_or, ofInt32, ofInt32]
 unfold or32
 rw [← Nat.or_mod_two_pow (n := 32)]
theorem o_add (t : TypeId) (a b : Nat) : binOp .add t (.int .u32 (a : Int)) (.int .u32 (b : Int)) = pure (.int .u32 ((add32 a b : Nat) : Int)) := by
 show (pure (Value.int .u32 (IntKind.u32.wrap ((a : Int) + (b : Int)))) : Sem Value) = _
 rw [IntKind.wrap_u32']
 unfold add32
 congr 2
theorem o_shl (t : TypeId) (yk : IntKind) (a : Nat) (s : Int) (h0 : 0 ≤ s) (h1 : s ≤ 32) : binOp .shl t (.int .u32 (a : Int)) (.int yk s) = pure (.int .u32 ((shl32 a s.toNat : Nat) : Int)) := by
 obtain ⟨n, rfl⟩ := Int.eq_ofNat_of_zero_le h0
 rw [binOp_shl, shift_shl_any _ _ _ _ (by omega), show min (n : Int).toNat IntKind.u32.bits = n by show min (n : Int).toNat 32 = n; omega]
 rw [Int.toNat_natCast, IntKind.wrap_u32']
 unfold shl32
 rw [Nat.shiftLeft_eq]
 congr 2
theorem o_shr (t : TypeId) (yk : IntKind) (a : Nat) (s : Int) (h0 : 0 ≤ s) (h1 : s ≤ 32) (ha : a < 4294967296) : binOp .shr t (.int .u32 (a : Int)) (.int yk s) = pure (.int .u32 ((shr32 a s.toNat : Nat) : Int)) := by
 obtain ⟨n, rfl⟩ := Int.eq_ofNat_of_zero_le h0
 rw [binOp_shr, shift_shr_any _ _ _ _ (by omega), show min (n : Int).toNat IntKind.u32.bits = n by show min (n : Int).toNat 32 = n; omega]
 rw [Int.toNat_natCast]
 unfold shr32
 rw [Nat.shiftRight_eq_div_pow, Nat.mod_eq_of_lt (Nat.lt_of_le_of_lt (Nat.div_le_self _ _) ha)]
 congr 2
theorem or32_lt (a b : Nat) : or32 a b < 4294967296 := Nat.mod_lt _ (by decide)
theorem add32_lt (a b : Nat) : add32 a b < 4294967296 := Nat.mod_lt _ (by decide)
theorem or32_comm (a b : Nat) : or32 a b = or32 b a := by unfold or32; rw [Nat.or_comm]
theorem xor32_comm (a b : Nat) : xor32 a b = xor32 b a := by unfold xor32; rw [Nat.xor_comm]
def rotr (x n : Nat) : Nat := or32 (shr32 x n) (shl32 x (32 - n))
def be4 (a b c d : Nat) : Nat := or32 (or32 (or32 (shl32 a 24) (shl32 b 16)) (shl32 c 8)) d
def sig0 (x : Nat) : Nat := xor32 (xor32 (rotr x 7) (rotr x 18)) (shr32 x 3)
def sig1 (x : Nat) : Nat := xor32 (xor32 (rotr x 17) (rotr x 19)) (shr32 x 10)
def nextW (b : Nat → Nat) (w : List Nat) (t : Nat) : Nat :=
 if t < 16 then be4 (b (4 * t)) (b (4 * t + 1)) (b (4 * t + 2)) (b (4 * t + 3))
 else add32 (add32 (add32 ((w[t - 16]?).getD 0) (sig0 ((w[t - 15]?).getD 0))) ((w[t - 7]?).getD 0)) (sig1 ((w[t - 2]?).getD 0))
def wordsM (b : Nat → Nat) : Nat → List Nat
 | 0 => []
 | t + 1 => wordsM b t ++ [nextW b (wordsM b t) t]
theorem wordsM_len (b : Nat → Nat) : ∀ t, (wordsM b t).length = t
 | 0 => rfl
 | t + 1 => by rw [wordsM, List.length_append, wordsM_len b t]; rfl
theorem be4_lt (a b c d : Nat) : be4 a b c d < 4294967296 := or32_lt _ _
theorem nextW_lt (b : Nat → Nat) (w : List Nat) (t : Nat) : nextW b w t < 4294967296 := by
 unfold nextW
 split
 ·exact be4_lt _ _ _ _
 ·exact add32_lt _ _
theorem wordsM_lt (b : Nat → Nat) : ∀ t, ∀ x ∈ wordsM b t, x < 4294967296
 | 0, x, h => by cases h
 | t + 1, x, h => by
  rw [wordsM, List.mem_append] at h
  rcases h with h | h
  ·exact wordsM_lt b t x h
  ·simp at h; subst h; exact nextW_lt _ _ _
structure St where
 a : Nat
 b : Nat
 c : Nat
 d : Nat
 e : Nat
 f : Nat
 g : Nat
 h : Nat
def St.Ok (s : St) : Prop := s.a < 4294967296 ∧ s.b < 4294967296 ∧ s.c < 4294967296 ∧ s.d < 4294967296 ∧ s.e < 4294967296 ∧ s.f < 4294967296 ∧ s.g < 4294967296 ∧ s.h < 4294967296
def bigA (s : St) : Nat := add32 (xor32 (xor32 (rotr s.a 2) (rotr s.a 13)) (rotr s.a 22)) (xor32 (xor32 (and32 s.a s.b) (and32 s.a s.c)) (and32 s.b s.c))
def bigE (s : St) (k w : Nat) : Nat := add32 (add32 (add32 (add32 s.h (xor32 (xor32 (rotr s.e 6) (rotr s.e 11)) (rotr s.e 25))) (xor32 (and32 s.e s.f) (and32 (xor32 s.e 4294967295) s.g))) k) w
def roundM (s : St) (k w : Nat) : St := ⟨add32 (bigE s k w) (bigA s), s.a, s.b, s.c, add32 s.d (bigE s k w), s.e, s.f, s.g⟩
def kT : List Nat := [0x428a2f98, 0x71374491, 0xb5c0fbcf, 0xe9b5dba5, 0x3956c25b, 0x59f111f1, 0x923f82a4, 0xab1c5ed5,
 0xd807aa98, 0x12835b01, 0x243185be, 0x550c7dc3, 0x72be5d74, 0x80deb1fe, 0x9bdc06a7, 0xc19bf174,
 0xe49b69c1, 0xefbe4786, 0x0fc19dc6, 0x240ca1cc, 0x2de92c6f, 0x4a7484aa, 0x5cb0a9dc, 0x76f988da,
 0x983e5152, 0xa831c66d, 0xb00327c8, 0xbf597fc7, 0xc6e00bf3, 0xd5a79147, 0x06ca6351, 0x14292967,
 0x27b70a85, 0x2e1b2138, 0x4d2c6dfc, 0x53380d13, 0x650a7354, 0x766a0abb, 0x81c2c92e, 0x92722c85,
 0xa2bfe8a1, 0xa81a664b, 0xc24b8b70, 0xc76c51a3, 0xd192e819, 0xd6990624, 0xf40e3585, 0x106aa070,
 0x19a4c116, 0x1e376c08, 0x2748774c, 0x34b0bcb5, 0x391c0cb3, 0x4ed8aa4a, 0x5b9cca4f, 0x682e6ff3,
 0x748f82ee, 0x78a5636f, 0x84c87814, 0x8cc70208, 0x90befffa, 0xa4506ceb, 0xbef9a3f7, 0xc67178f2]
def kM (t : Nat) : Nat := (kT[t]?).getD 0
def roundsM (w : List Nat) (s : St) : Nat → St
 | 0 => s
 | t + 1 => roundM (roundsM w s t) (kM t) ((w[t]?).getD 0)
def St.plus (s v : St) : St := ⟨add32 s.a v.a, add32 s.b v.b, add32 s.c v.c, add32 s.d v.d, add32 s.e v.e, add32 s.f v.f, add32 s.g v.g, add32 s.h v.h⟩
def startM : St := ⟨0x6a09e667, 0xbb67ae85, 0x3c6ef372, 0xa54ff53a, 0x510e527f, 0x9b05688c, 0x1f83d9ab, 0x5be0cd19⟩
def blockM (s : St) (b : Nat → Nat) : St := s.plus (roundsM (wordsM b 64) s 64)
theorem startM_ok : startM.Ok := by unfold St.Ok startM; decide
theorem roundM_ok {s : St} (h : s.Ok) (k w : Nat) : (roundM s k w).Ok := ⟨add32_lt _ _, h.1, h.2.1, h.2.2.1, add32_lt _ _, h.2.2.2.2.1, h.2.2.2.2.2.1, h.2.2.2.2.2.2.1⟩
theorem roundsM_ok {s : St} (h : s.Ok) (w : List Nat) : ∀ t, (roundsM w s t).Ok
 | 0 => h
 | t + 1 => roundM_ok (roundsM_ok h w t) _ _
theorem plus_ok (s v : St) : (s.plus v).Ok := ⟨add32_lt _ _, add32_lt _ _, add32_lt _ _, add32_lt _ _, add32_lt _ _, add32_lt _ _, add32_lt _ _, add32_lt _ _⟩
end Go.Sha
end
section
namespace Go.Sha
theorem or_shift {x d : Nat} (s : Nat) (hx : x * 2 ^ s + d < 4294967296) (hd : d < 2 ^ s) : or32 (shl32 x s) d = x * 2 ^ s + d := by
 unfold or32 shl32
 rw [Nat.shiftLeft_eq, Nat.mod_eq_of_lt (show x * 2 ^ s < 4294967296 by omega), Nat.mul_comm x, ← Nat.two_pow_add_eq_or_of_lt hd]
 rw [Nat.mod_eq_of_lt (by rw [Nat.mul_comm]; exact hx)]
theorem or_plain {y d : Nat} (s x : Nat) (hy : y = x * 2 ^ s) (hx : y + d < 4294967296) (hd : d < 2 ^ s) : or32 y d = y + d := by
 subst hy
 unfold or32
 rw [Nat.mul_comm x, ← Nat.two_pow_add_eq_or_of_lt hd]
 rw [Nat.mod_eq_of_lt (by rw [Nat.mul_comm]; exact hx)]
theorem be4_val {a b c d : Nat} (ha : a < 256) (hb : b < 256) (hc : c < 256) (hd : d < 256) : be4 a b c d = a * 16777216 + b * 65536 + c * 256 + d := by
 unfold be4
 have e1 : shl32 a 24 = a * 16777216 := by unfold shl32; rw [Nat.shiftLeft_eq]; omega
 have e2 : shl32 b 16 = b * 65536 := by unfold shl32; rw [Nat.shiftLeft_eq]; omega
 have e3 : shl32 c 8 = c * 256 := by unfold shl32; rw [Nat.shiftLeft_eq]; omega
 rw [e1, e2, e3]
 rw [or_plain (y := a * 16777216) (d := b * 65536) 24 a rfl (by omega) (by omega)]
 rw [or_plain (y := a * 16777216 + b * 65536) (d := c * 256) 16 (a * 256 + b) (by omega) (by omega) (by omega)]
 rw [or_plain (y := a * 16777216 + b * 65536 + c * 256) (d := d) 8 (a * 65536 + b * 256 + c) (by omega) (by omega) (by omega)]
def step8 (x d : Nat) : Nat := or32 (shl32 x 8) d
theorem step8_val {x d : Nat} (hx : x < 16777216) (hd : d < 256) : step8 x d = x * 256 + d := by
 unfold step8
 rw [or_shift 8 (by omega) (by omega)]
theorem be4_nest {a b c d : Nat} (ha : a < 256) (hb : b < 256) (hc : c < 256) (hd : d < 256) : step8 (step8 (step8 (step8 0 a) b) c) d = be4 a b c d := by
 rw [step8_val (x := 0) (by omega) ha, step8_val (by omega) hb, step8_val (by omega) hc, step8_val (by omega) hd, be4_val ha hb hc hd]
 omega
end Go.Sha
end
section
namespace Go.Sl
open Go Go.RowKit
def reachB (ops : Array Oper) : Nat → Nat → Nat → Bool
 | 0, _, _ => false
 | f + 1, j, i => match ops[j]? with
  | none => false
  | some o => o.after.any fun e => Region.binds .any e && (e.on == i || reachB ops f e.on i)
def tailB (ops : Array Oper) (j : Nat) : Bool := (List.range ops.size).all fun i => i == j || reachB ops 12 j i
def Closed (ops : Array Oper) (listed : Array Bool) : Prop := ∀ (j : Nat) (o : Oper), ops[j]? = some o → listed.getD j false = true → ∀ e ∈ o.after, Region.binds .any e = true → listed.getD e.on false = true
theorem Closed.reach {ops : Array Oper} {listed : Array Bool} (hc : Closed ops listed) : ∀ (f j i : Nat) (o : Oper), ops[j]? = some o → (∀ e ∈ o.after, Region.binds .any e = true → listed.getD e.on false = true) → reachB ops f j i = true → listed.getD i false = true := by
 intro f
 induction f with
 | zero => intro j i o _ _ h; cases h
 | succ f ih =>
  intro j i o ho hall h
  unfold reachB at h
  rw [ho] at h
  simp only [← Array.any_toList, List.any_eq_true] at h
  obtain ⟨e, he, hb⟩ := h
  replace he := Array.mem_toList_iff.1 he
  simp only [Bool.and_eq_true, Bool.or_eq_true, beq_iff_eq] at hb
  have h1 := hall e he hb.1
  rcases hb.2 with h2 | h2
  ·rw [← h2]; exact h1
  ·cases hoe : ops[e.on]? with
   | none => cases f with
    | zero => cases h2
    | succ f => unfold reachB at h2; rw [hoe] at h2; cases h2
   | some o' => exact ih e.on i o' hoe (hc e.on o' hoe h1) h2
theorem Closed.init (ops : Array Oper) : Closed ops (Array.replicate ops.size false) := by
 intro j o ho h
 rw [Array.getD_eq_getD_getElem?, Array.getElem?_replicate] at h
 split at h <;> cases h
theorem Closed.set {ops : Array Oper} {listed : Array Bool} (hc : Closed ops listed) {i : Nat} (hi : i ∈ Region.ready .any ops listed) : Closed ops (listed.setIfInBounds i true) := by
 intro j o ho h e he hb
 obtain ⟨_, oi, hoi, hall⟩ := mem_ready.1 hi
 by_cases hij : i = j
 ·subst hij
  rw [ho] at hoi
  cases hoi
  exact getD_set_true (hall e he hb)
 ·rw [getD_set_ne false hij] at h
  exact getD_set_true (hc j o ho h e he hb)
section
variable {P : Program} {ops : Array Oper} {Q : Exit → Act → World → Prop} {S : World → Prop}
def wpAnyG (P : Program) (ops : Array Oper) (Q : Exit → Act → World → Prop) (S : World → Prop) : Nat → Array Bool → Act → World → Prop
 | 0, listed, a, w => Region.ready .any ops listed = [] ∧ Q .normal a w
 | fuel + 1, listed, a, w =>
  (Region.ready .any ops listed = [] → Q .normal a w) ∧
  ∀ i ∈ Region.ready .any ops listed, wpOp P ops Q i (fun a' w' => (tailB ops i = true ∨ S w') ∧ wpAnyG P ops Q S fuel (listed.setIfInBounds i true) a' w') a w
theorem wpAny_of_G : ∀ (fuel : Nat) (listed : Array Bool) (a : Act) (w : World), wpAnyG P ops Q S fuel listed a w → wpAny P .any ops Q fuel listed a w
 | 0, _, _, _, h => h
 | fuel + 1, _, _, _, h => ⟨h.1, fun i hi => wpOp_mono (fun a' w' h' => wpAny_of_G fuel _ a' w' h'.2) (h.2 i hi)⟩
theorem not_tail {i j : Nat} {listed : Array Bool} (hc : Closed ops listed) (hi : i ∈ Region.ready .any ops listed) (hj : j ∈ Region.ready .any ops listed) (hne : j ≠ i) : tailB ops j = false := by
 obtain ⟨hiun, oi, hoi, _⟩ := mem_ready.1 hi
 obtain ⟨_, oj, hoj, hall⟩ := mem_ready.1 hj
 cases ht : tailB ops j with
 | false => rfl
 | true =>
  exfalso
  unfold tailB at ht
  have hisz : i < ops.size := (Array.getElem?_eq_some_iff.1 hoi).1
  have h1 := List.all_eq_true.1 ht i (by simp [hisz])
  have h2 : (i == j) = false := by simp; exact Ne.symm hne
  rw [h2, Bool.false_or] at h1
  have h3 := hc.reach _ j i oj hoj hall h1
  rcases Nat.lt_or_ge i listed.size with h' | h'
  ·simp [h'] at hiun h3; rw [hiun] at h3; cases h3
  ·simp [Array.getElem?_eq_none h'] at h3
theorem wpAnyG_first {i : Nat} {oi : Oper} {v : Value} (hi : ops[i]? = some oi) (hsel : ∀ (j : Nat) (o : Oper) cs b, ops[j]? = some o → o.op ≠ .select cs b)
  (hQ : ∀ c a w, Q (.panic c) (a.put oi.dst v) w → Q (.panic c) a w) :
  ∀ (fuel : Nat) (listed : Array Bool) (a : Act) (w : World), Closed ops listed →
   (∀ j oj, ops[j]? = some oj → j ≠ i → listed.getD j true = false → (∀ e ∈ oj.after, Region.binds .any e = true → e.on ≠ i) → oi.apart ops oj = true) →
   i ∈ Region.ready .any ops listed → YieldsIf P ops S oi v a → S w →
   wpAnyG P ops Q S fuel (listed.setIfInBounds i true) (a.put oi.dst v) w → wpAnyG P ops Q S (fuel + 1) listed a w := by
 intro fuel
 induction fuel with
 | zero =>
  intro listed a w _ _ hr hy hS H
  refine ⟨fun h => (by rw [h] at hr; cases hr), fun j hj => ?_⟩
  by_cases hji : j = i
  ·subst hji; exact hy.wpOp hi hS ⟨.inr hS, H⟩
  ·have := ready_mono hj hji
   rw [H.1] at this
   cases this
 | succ fuel ih =>
  intro listed a w hc hfree hr hy hS H
  refine ⟨fun h => (by rw [h] at hr; cases hr), fun j hj => ?_⟩
  by_cases hji : j = i
  ·subst hji; exact hy.wpOp hi hS ⟨.inr hS, H⟩
  ·have h1 := H.2 j (ready_mono hj hji)
   obtain ⟨hjun, oj, hoj, hall⟩ := mem_ready.1 hj
   have hnot : ∀ e ∈ oj.after, Region.binds .any e = true → e.on ≠ i := fun e he hb heq => by
    have h1 := hall e he hb
    have h0 := (mem_ready.1 hr).1
    rw [heq] at h1
    rcases Nat.lt_or_ge i listed.size with h' | h'
    ·simp [h'] at h0 h1; rw [h0] at h1; cases h1
    ·simp [Array.getElem?_eq_none h'] at h1
   have h2 := wpOp_putIf hoj (hfree j oj hoj hji hjun hnot) (fun cs b => hsel i oi cs b hi) (fun cs b => hsel j oj cs b hoj) hQ hy h1
   have hfree' : ∀ k ok, ops[k]? = some ok → k ≠ i → (listed.setIfInBounds j true).getD k true = false →
     (∀ e ∈ ok.after, Region.binds .any e = true → e.on ≠ i) → oi.apart ops ok = true := fun k ok hk hki hun hno => by
    refine hfree k ok hk hki ?_ hno
    by_cases hjk : j = k
    ·subst hjk; exact hjun
    ·rw [getD_set_ne true hjk] at hun; exact hun
   have hnt := not_tail hc hr hj hji
   refine wpOp_mono (fun a' w' h3 => ?_) h2
   have hS' : S w' := by
    rcases h3.2.1 with h | h
    ·rw [hnt] at h; cases h
    ·exact h
   refine ⟨.inr hS', ih (listed.setIfInBounds j true) a' w' (hc.set hj) hfree' (ready_mono hr (Ne.symm hji)) h3.1 hS' ?_⟩
   rw [Array.setIfInBounds_comm _ _ hji]
   exact h3.2.2
theorem wpAnyG_take {i : Nat} {oi : Oper} {v : Value} {fuel : Nat} {listed : Array Bool} {a : Act} {w : World} (hi : ops[i]? = some oi)
  (hs : Region.noSelect ops = true) (hf : Region.free .any ops listed i = true) (hr : (Region.ready .any ops listed).contains i = true)
  (hQ : ∀ c a w, Q (.panic c) (a.put oi.dst v) w → Q (.panic c) a w) (hy : YieldsIf P ops S oi v a) (hS : S w) (hc : Closed ops listed)
  (h : wpAnyG P ops Q S fuel (listed.setIfInBounds i true) (a.put oi.dst v) w) : wpAnyG P ops Q S (fuel + 1) listed a w :=
 wpAnyG_first hi (Region.noSelect_spec hs) hQ fuel listed a w hc (Region.free_spec hi hf) (by simpa using hr) hy hS h
end
def takeOK (ops : Array Oper) (listed : Array Bool) (i : Nat) : Bool := Region.noSelect ops && Region.free .any ops listed i && (Region.ready .any ops listed).contains i
def aloneOK (ops : Array Oper) (listed : Array Bool) (i : Nat) : Bool := Region.ready .any ops listed == [i]
structure Reg (P : Program) (ops : Array Oper) (Q : Exit → Act → World → Prop) (S : World → Prop) (fuel : Nat) (listed : Array Bool) (t : Array Value) (df : List Deferred) (w : World) : Prop where
 out : Closed ops listed → wpAnyG P ops (NoPanic Q) S fuel listed ⟨t, df⟩ w
section
variable {P : Program} {ops : Array Oper} {Q : Exit → Act → World → Prop} {S : World → Prop} {fuel : Nat} {listed : Array Bool} {t : Array Value} {df : List Deferred} {w : World}
theorem reg_begin (S : World → Prop) {id : Nat} (hm : P.follows .mixedOrders = true) (h : Reg P ops Q S ops.size (Array.replicate ops.size false) t df w.drew) : (Code.region id ops true).wp P Q ⟨t, df⟩ w :=
 wp_region_noPanic (wp_region_any hm (wpAny_of_G _ _ _ _ (h.out (Closed.init ops))))
theorem put_some (a : Act) (d : Tmp) (v : Value) : a.put (some d) v = ⟨a.tmps.setIfInBounds d v, a.defers⟩ := rfl
theorem reg_take (i : Nat) {o : Oper} {d : Tmp} {v : Value} (ho : ops[i]? = some o) (hd : o.dst = some d) (hck : takeOK ops listed i = true) (hw : Region.wanted o (yielded ops t) = true)
  (hr : ∀ w', S w' → (execOp (Act.eval ⟨t, df⟩) o).run P w' = .ok (.value v) w') (hS : S w)
  (k : Reg P ops Q S fuel (listed.setIfInBounds i true) (t.setIfInBounds d v) df w) : Reg P ops Q S (fuel + 1) listed t df w := by
 simp only [takeOK, Bool.and_eq_true] at hck
 exact ⟨fun hc => wpAnyG_take ho hck.1.1 hck.1.2 hck.2 (fun _ _ _ h => h) (.inl ⟨hw, hr⟩) hS hc (by rw [hd]; exact k.out (hc.set (by simpa using hck.2)))⟩
theorem reg_op' (i : Nat) {o : Oper} (ho : ops[i]? = some o) (hck : aloneOK ops listed i = true) (hw : Region.wanted o (yielded ops t) = true)
  (k : o.wp P ⟨t, df⟩ w (fun a' w' => (tailB ops i = true ∨ S w') ∧ Reg P ops Q S fuel (listed.setIfInBounds i true) a'.tmps a'.defers w') (NoPanic Q)) : Reg P ops Q S (fuel + 1) listed t df w := by
 have hck' : Region.ready .any ops listed = [i] := by simpa [aloneOK] using hck
 constructor
 intro hc
 have hci : Closed ops (listed.setIfInBounds i true) := hc.set (by rw [hck']; simp)
 refine ⟨fun h => (by rw [hck'] at h; cases h), fun j hj => ?_⟩
 rw [hck'] at hj
 obtain rfl : j = i := by simpa using hj
 unfold wpOp
 simp only [ho, hw, if_true]
 left
 refine Oper.wp_mono ?_ k
 exact fun a' w' h => ⟨h.1, h.2.out hci⟩
theorem reg_op (i : Nat) {o : Oper} (ho : ops[i]? = some o) (hck : aloneOK ops listed i = true) (hw : Region.wanted o (yielded ops t) = true)
  (k : o.wp P ⟨t, df⟩ w (fun a' w' => S w' ∧ Reg P ops Q S fuel (listed.setIfInBounds i true) a'.tmps a'.defers w') (NoPanic Q)) : Reg P ops Q S (fuel + 1) listed t df w :=
 reg_op' i ho hck hw (Oper.wp_mono (fun _ _ h => ⟨.inr h.1, h.2⟩) k)
theorem reg_do_last (i : Nat) {o : Oper} (w' : World) (ho : ops[i]? = some o) (hd : o.dst = none) (hck : (aloneOK ops listed i && tailB ops i && (Region.ready .any ops (listed.setIfInBounds i true)).isEmpty) = true) (hw : Region.wanted o (yielded ops t) = true)
    (hr : (execOp (Act.eval ⟨t, df⟩) o).run P w = .ok .skip w') (k : Q .normal ⟨t, df⟩ w') : Reg P ops Q S (fuel + 1) listed t df w := by
  simp only [Bool.and_eq_true] at hck
  refine reg_op' i ho hck.1.1 hw ?_
  unfold Oper.wp; rw [hr]; simp only [Oper.upon, hd, Act.put]
  refine ⟨.inl hck.1.2, ?_⟩
  constructor
  intro _
  cases fuel with
  | zero => exact ⟨by simpa using hck.2, NoPanic.normal k⟩
  | succ n => exact ⟨fun _ => NoPanic.normal k, fun j hj => by have : Region.ready .any ops (listed.setIfInBounds i true) = [] := by simpa using hck.2
                                                               rw [this] at hj; cases hj⟩
theorem reg_run (i : Nat) {o : Oper} {d : Tmp} (v : Value) (w' : World) (ho : ops[i]? = some o) (hd : o.dst = some d) (hck : aloneOK ops listed i = true) (hw : Region.wanted o (yielded ops t) = true)
  (hr : (execOp (Act.eval ⟨t, df⟩) o).run P w = .ok (.value v) w') (hS : S w')
  (k : Reg P ops Q S fuel (listed.setIfInBounds i true) (t.setIfInBounds d v) df w') : Reg P ops Q S (fuel + 1) listed t df w :=
 reg_op i ho hck hw (by unfold Oper.wp; rw [hr]; simp only [Oper.upon, hd, put_some]; exact ⟨hS, k⟩)
theorem reg_do (i : Nat) {o : Oper} (w' : World) (ho : ops[i]? = some o) (hd : o.dst = none) (hck : aloneOK ops listed i = true) (hw : Region.wanted o (yielded ops t) = true)
  (hr : (execOp (Act.eval ⟨t, df⟩) o).run P w = .ok .skip w') (hS : S w')
  (k : Reg P ops Q S fuel (listed.setIfInBounds i true) t df w') : Reg P ops Q S (fuel + 1) listed t df w :=
 reg_op i ho hck hw (by unfold Oper.wp; rw [hr]; simp only [Oper.upon, hd, Act.put]; exact ⟨hS, k⟩)
theorem reg_call (i : Nat) {o : Oper} {d : Tmp} {f : FuncId} {args : Array Value} {R : Value → World → Prop} (ho : ops[i]? = some o) (hd : o.dst = some d) (hck : aloneOK ops listed i = true) (hw : Region.wanted o (yielded ops t) = true)
  (hr : (execOp (Act.eval ⟨t, df⟩) o).run P w = .ok (.enter f args) w) (hc : Calls P f args w fun e w' => ∃ v, e = .returned v ∧ R v w')
  (k : ∀ v w', R v w' → S w' ∧ Reg P ops Q S fuel (listed.setIfInBounds i true) (t.setIfInBounds d v) df w') : Reg P ops Q S (fuel + 1) listed t df w :=
 reg_op i ho hck hw (by
  unfold Oper.wp; rw [hr]
  refine hc.mono ?_
  rintro e w' ⟨v, rfl, h⟩
  simp only [hd, put_some]
  exact k v w' h)
theorem reg_done (hr : (Region.ready .any ops listed).isEmpty = true) (h : Q .normal ⟨t, df⟩ w) : Reg P ops Q S fuel listed t df w := by
 have hr' : Region.ready .any ops listed = [] := by simpa using hr
 constructor
 intro _
 cases fuel with
 | zero => exact ⟨hr', NoPanic.normal h⟩
 | succ n => exact ⟨fun _ => NoPanic.normal h, fun j hj => by rw [hr'] at hj; cases hj⟩
end
end Go.Sl
namespace Go.Sl
open Go Go.RowKit
structure RStep (P : Program) (ops : Array Oper) (Q : Exit → Act → World → Prop) (S : World → Prop) (fuel : Nat) (listed : Array Bool) (t : Array Value) (df : List Deferred) (w : World) (i : Nat) : Prop where
 out : Closed ops listed → wpOp P ops (NoPanic Q) i (fun a' w' => (tailB ops i = true ∨ S w') ∧ wpAnyG P ops (NoPanic Q) S fuel (listed.setIfInBounds i true) a' w') ⟨t, df⟩ w
section
variable {P : Program} {ops : Array Oper} {Q : Exit → Act → World → Prop} {S : World → Prop} {fuel : Nat} {listed : Array Bool} {t : Array Value} {df : List Deferred} {w : World}
theorem reg_fork (i j : Nat) (hck : (Region.ready .any ops listed == [i, j]) = true) (h1 : RStep P ops Q S fuel listed t df w i) (h2 : RStep P ops Q S fuel listed t df w j) : Reg P ops Q S (fuel + 1) listed t df w := by
 have hck' : Region.ready .any ops listed = [i, j] := by simpa using hck
 constructor
 intro hc
 refine ⟨fun h => (by rw [hck'] at h; cases h), fun x hx => ?_⟩
 rw [hck'] at hx
 rcases (show x = i ∨ x = j by simpa using hx) with rfl | rfl
 ·exact h1.out hc
 ·exact h2.out hc
theorem rstep_op {i : Nat} {o : Oper} (ho : ops[i]? = some o) (hck : (Region.ready .any ops listed).contains i = true) (hw : Region.wanted o (yielded ops t) = true)
  (k : o.wp P ⟨t, df⟩ w (fun a' w' => S w' ∧ Reg P ops Q S fuel (listed.setIfInBounds i true) a'.tmps a'.defers w') (NoPanic Q)) : RStep P ops Q S fuel listed t df w i := by
 constructor
 intro hc
 have hci : Closed ops (listed.setIfInBounds i true) := hc.set (by simpa using hck)
 unfold wpOp
 simp only [ho, hw, if_true]
 left
 refine Oper.wp_mono ?_ k
 exact fun a' w' h => ⟨.inr h.1, h.2.out hci⟩
theorem rstep_run {i : Nat} {o : Oper} {d : Tmp} (v : Value) (w' : World) (ho : ops[i]? = some o) (hd : o.dst = some d) (hck : (Region.ready .any ops listed).contains i = true) (hw : Region.wanted o (yielded ops t) = true)
  (hr : (execOp (Act.eval ⟨t, df⟩) o).run P w = .ok (.value v) w') (hS : S w') (k : Reg P ops Q S fuel (listed.setIfInBounds i true) (t.setIfInBounds d v) df w') : RStep P ops Q S fuel listed t df w i :=
 rstep_op ho hck hw (by unfold Oper.wp; rw [hr]; simp only [Oper.upon, hd, put_some]; exact ⟨hS, k⟩)
theorem rstep_call {i : Nat} {o : Oper} {d : Tmp} {f : FuncId} {args : Array Value} {R : Value → World → Prop} (ho : ops[i]? = some o) (hd : o.dst = some d) (hck : (Region.ready .any ops listed).contains i = true) (hw : Region.wanted o (yielded ops t) = true)
  (hr : (execOp (Act.eval ⟨t, df⟩) o).run P w = .ok (.enter f args) w) (hc : Calls P f args w fun e w' => ∃ v, e = .returned v ∧ R v w')
  (k : ∀ v w', R v w' → S w' ∧ Reg P ops Q S fuel (listed.setIfInBounds i true) (t.setIfInBounds d v) df w') : RStep P ops Q S fuel listed t df w i :=
 rstep_op ho hck hw (by
  unfold Oper.wp; rw [hr]
  refine hc.mono ?_
  rintro e w' ⟨v, rfl, h⟩
  simp only [hd, put_some]
  exact k v w' h)
end
end Go.Sl
end
