/- package erasure: Valid, Width. -/
import Derived.Test.YtnilepaicnnbhaaDoorJp
namespace Go.GF
open Go Go.RowKit
def codeV (nm : ByteArray) (f k : Int) (pv : Value) (dom : Int) : Array Value := #[.string nm, .int .i64 f, .int .i64 k, pv, .int .i64 dom]
/-- Rows of integers that can be read. -/
def RowsI (w : World) (v : Value) (L : List (List Int)) : Prop := ∃ rvs : List Value, RowI w v rvs ∧ rvs.length = L.length ∧ ∀ (i : Nat) (x : Value), rvs[i]? = some x → ∃ r, L[i]? = some r ∧ RowI w x (intsV r)
theorem RowsI.below {w w' : World} {v : Value} {L : List (List Int)} (h : RowsI w v L) (hb : Below w.heap.size w w') : RowsI w' v L := by
  obtain ⟨rvs, h1, h2, h3⟩ := h
  refine ⟨rvs, h1.below hb, h2, fun i x hx => ?_⟩
  obtain ⟨r, h4, h5⟩ := h3 i x hx
  exact ⟨r, h4, h5.below hb⟩
def rowE (f k : Int) (r : List Int) : Bool := decide ((r.length : Int) = k) && (r.all (fun x => allB f [x]) && !(r.all fun x => x == 0))
def validE (f k : Int) (L : List (List Int)) : Bool := allB f [0] && (decide (1 ≤ k) && (decide (L.length ≤ 32) && (decide (k ≤ 32 - (L.length : Int)) && L.all (rowE f k))))
theorem Box.code {w : World} {g : Nat} {nm : ByteArray} {f k : Int} {pv : Value} {dom : Int} (h : Box w g (codeV nm f k pv dom)) : w.cell? ⟨g, 0, none⟩ = some (.string nm) ∧ w.cell? ⟨g, 1, none⟩ = some (.int .i64 f) ∧ w.cell? ⟨g, 2, none⟩ = some (.int .i64 k) ∧ w.cell? ⟨g, 3, none⟩ = some pv ∧ w.cell? ⟨g, 4, none⟩ = some (.int .i64 dom) :=
  ⟨h.cell 0, h.cell 1, h.cell 2, h.cell 3, h.cell 4⟩
end Go.GF
namespace Go.Proofs.YtnilepaicnnbhaaDoor
open Go.RowKit Go.GF Go.Sl

theorem ev11_run (args : Array Value) (w : World) : (callFunc 61 args).run Tryd.prog w = .ok (.enter 61 args) w := by kernel_rfl
theorem ev12_run (args : Array Value) (w : World) : (callFunc 62 args).run Tryd.prog w = .ok (.enter 62 args) w := by kernel_rfl
theorem ev1_run (args : Array Value) (w : World) : (callFunc 59 args).run Tryd.prog w = .ok (.enter 59 args) w := by kernel_rfl
set_option maxRecDepth 20000 in
theorem ev11 (nm : ByteArray) (f k : Int) (pv : Value) (dom x : Int) (g : Nat) (w : World) (hT : TabF w) (hg : Box w g (codeV nm f k pv dom)) :
    Calls Tryd.prog 61 #[.int .i64 x, .pointer (some ⟨g, 0, none⟩)] w fun e w' => e = .returned (.bool (allB f [x])) ∧ Below w.heap.size w w' := by
  have H := Lib.hid (fvalid_any f x w hT)
  obtain ⟨-, c1, -⟩ := hg.code
  clear hg hT
  go_enter Tryd.func61, Tryd.ntmps61
  go_wp2_with (go_at_call 57; refine H.out.mono ?_; rintro e w1 ⟨rfl, h1⟩)
  go_ret
  exact ⟨rfl, h1⟩
set_option maxRecDepth 20000 in
theorem ev12 (x : Int) (w : World) : Calls Tryd.prog 62 #[.int .i64 x] w fun e w' => e = .returned (.bool (x == 0)) ∧ Below w.heap.size w w' := by
  go_enter Tryd.func62, Tryd.ntmps62
  go_wp2
  go_ret
  exact ⟨rfl, Below.refl _ _⟩
set_option maxRecDepth 20000 in
set_option maxHeartbeats 1000000 in
theorem ev1 (nm : ByteArray) (f k : Int) (pv : Value) (dom : Int) (g : Nat) (x : Value) (r : List Int) (w : World) (hT : TabF w) (hg : Box w g (codeV nm f k pv dom)) (hx : RowI w x (intsV r)) :
    Calls Tryd.prog 59 #[x, .pointer (some ⟨g, 0, none⟩)] w fun e w' => e = .returned (.bool (rowE f k r)) ∧ Below w.heap.size w w' := by
  have H1 := Lib.hid (everyI x r 61 #[.pointer (some ⟨g, 0, none⟩)] (fun x => allB f [x]) w ev11_run hx (fun y _ W hb => by
    have h := ev11 nm f k pv dom y g W (hT.below hb) (hg.below hb)
    exact h))
  have H2 := Lib.hid (fun W (hb : Below w.heap.size w W) => everyI x r 62 #[] (fun x => x == 0) W ev12_run (hx.below hb) (fun y _ W' _ => by
    have h := ev12 y W'
    exact h))
  obtain ⟨-, -, c2, -⟩ := hg.code
  obtain ⟨ao, cp, rfl, -, -, -⟩ := hx
  rw [intsV_len] at *
  clear hg hT
  unfold rowE
  by_cases hk : (r.length : Int) = k
  · have hkd : ((r.length : Int) == k) = true := by simpa using hk
    rw [decide_eq_true hk]
    clear hk
    cases ha : r.all (fun x => allB f [x]) with
    | false =>
      rw [ha] at H1
      go_enter Tryd.func59, Tryd.ntmps59
      go_wp2_with (go_at_call 60; refine H1.out.mono ?_; rintro e w1 ⟨rfl, h1⟩)
      go_ret
      exact ⟨rfl, h1⟩
    | true =>
      rw [ha] at H1
      go_enter Tryd.func59, Tryd.ntmps59
      go_wp2_with first
        | (go_at_call 60; refine H1.out.mono ?_; rintro e w1 ⟨rfl, h1⟩)
        | (go_at_call 60; refine (H2.out w1 h1).mono ?_; rintro e w2 ⟨rfl, h2⟩)
      go_ret
      exact ⟨rfl, h1.trans (h2.mono h1.size)⟩
  · have hkd : ((r.length : Int) == k) = false := by simpa using hk
    rw [decide_eq_false hk]
    clear hk
    go_enter Tryd.func59, Tryd.ntmps59
    go_wp2
    go_ret
    exact ⟨rfl, Below.refl _ _⟩
theorem code_box (w w1 : World) (c : Array Value) (t : TypeId) (h : Below (w.alloc (.cells c t)).heap.size (w.alloc (.cells c t)) w1) : Box w1 w.heap.size c ∧ Below w.heap.size w w1 :=
  ⟨(box_start w c t).below h, (al_below w _).trans (h.mono (al_below w _).size)⟩
set_option maxRecDepth 20000 in
set_option maxHeartbeats 2000000 in
theorem evalid_any (nm : ByteArray) (f k : Int) (pv : Value) (dom : Int) (L : List (List Int)) (w : World) (hT : TabF w) (hp : RowsI w pv L) (hk63 : -9000000000000000000 ≤ k ∧ k ≤ 9000000000000000000) :
    Calls Tryd.prog 40 #[.agg (codeV nm f k pv dom)] w fun e w' => e = .returned (.bool (validE f k L)) ∧ Below w.heap.size w w' := by
  obtain ⟨rvs, hv, hlen, hrows⟩ := hp
  have HV := Lib.hid (fun t => (fvalid_any f 0 (w.alloc (.cells (codeV nm f k pv dom) t)) (hT.below (al_below w _))))
  have HE := Lib.hid (fun w1 (hb : Below w.heap.size w w1) (hg : Box w1 w.heap.size (codeV nm f k pv dom)) => everyR pv rvs 59 #[.pointer (some ⟨w.heap.size, 0, none⟩)] (fun i => rowE f k ((L[i]?).getD [])) w1 ev1_run (hv.below hb) (fun i x hx W hb2 => by
    obtain ⟨r, hr, hxr⟩ := hrows i x hx
    have hbW := hb.trans (hb2.mono hb.size)
    have h := ev1 nm f k pv dom w.heap.size x r W (hT.below hbW) (hg.below hb2) (hxr.below hbW)
    rw [hr]
    exact h))
  have hall : ((List.range rvs.length).all fun i => rowE f k ((L[i]?).getD [])) = L.all (rowE f k) := by
    rw [hlen]
    rw [Bool.eq_iff_iff, List.all_eq_true, List.all_eq_true]
    constructor
    · intro h r hr
      obtain ⟨i, hi⟩ := List.mem_iff_getElem?.1 hr
      have hlt : i < L.length := by
        rcases Nat.lt_or_ge i L.length with h' | h'
        · exact h'
        · rw [List.getElem?_eq_none h'] at hi; cases hi
      have := h i (List.mem_range.2 hlt)
      rw [hi] at this; exact this
    · intro h i hi
      have hlt := List.mem_range.1 hi
      rw [List.getElem?_eq_getElem hlt]
      exact h _ (List.getElem_mem hlt)
  rw [hall] at HE
  have HB := Lib.hid (fun t w1 h => code_box w w1 (codeV nm f k pv dom) t h)
  obtain ⟨ao, cp, rfl, hl1, hl2, -⟩ := hv
  rw [hlen] at *
  unfold maxLen at hl2
  clear hT hrows hall
  unfold validE codeV
  cases ha : allB f [0] with
  | false =>
    rw [ha] at HV
    go_enter Tryd.func40, Tryd.ntmps40
    go_wp2_with (go_at_call 57; refine (HV.out _).mono ?_; rintro e w1 ⟨rfl, h1⟩)
    go_ret
    exact ⟨rfl, (HB.out _ w1 h1).2⟩
  | true =>
    rw [ha] at HV
    by_cases hk1 : 1 ≤ k
    · have hk1d : decide (k < 1) = false := decide_eq_false (by omega)
      rw [decide_eq_true hk1]
      by_cases hl32 : L.length ≤ 32
      · have hl32d : decide (32 < (L.length : Int)) = false := decide_eq_false (by omega)
        have hws : IntKind.i64.wrap (32 - (L.length : Int)) = 32 - (L.length : Int) := IntWalk.i64_in _ (by omega)
        rw [decide_eq_true hl32]
        by_cases hks : k ≤ 32 - (L.length : Int)
        · have hksd : decide (32 - (L.length : Int) < k) = false := decide_eq_false (by omega)
          rw [decide_eq_true hks]
          clear hks hl32 hk1
          go_enter Tryd.func40, Tryd.ntmps40
          go_wp2_with first
            | (go_at_call 57; refine (HV.out _).mono ?_; rintro e w1 ⟨rfl, h1⟩; obtain ⟨hg, hb⟩ := HB.out _ w1 h1; obtain ⟨c0, c1, c2, c3, -⟩ := hg.code)
            | (go_at_call 58; refine (HE.out w1 hb hg).mono ?_; rintro e w2 ⟨rfl, h2⟩)
          go_ret
          exact ⟨rfl, hb.trans (h2.mono hb.size)⟩
        · have hksd : decide (32 - (L.length : Int) < k) = true := decide_eq_true (by omega)
          rw [decide_eq_false hks]
          clear hks hl32 hk1
          go_enter Tryd.func40, Tryd.ntmps40
          go_wp2_with (go_at_call 57; refine (HV.out _).mono ?_; rintro e w1 ⟨rfl, h1⟩; obtain ⟨hg, hb⟩ := HB.out _ w1 h1; obtain ⟨c0, c1, c2, c3, -⟩ := hg.code)
          go_ret
          exact ⟨rfl, hb⟩
      · have hl32d : decide (32 < (L.length : Int)) = true := decide_eq_true (by omega)
        rw [decide_eq_false hl32]
        clear hl32 hk1
        go_enter Tryd.func40, Tryd.ntmps40
        go_wp2_with (go_at_call 57; refine (HV.out _).mono ?_; rintro e w1 ⟨rfl, h1⟩; obtain ⟨hg, hb⟩ := HB.out _ w1 h1; obtain ⟨c0, c1, c2, c3, -⟩ := hg.code)
        go_ret
        exact ⟨rfl, hb⟩
    · have hk1d : decide (k < 1) = true := decide_eq_true (by omega)
      rw [decide_eq_false hk1]
      clear hk1
      go_enter Tryd.func40, Tryd.ntmps40
      go_wp2_with (go_at_call 57; refine (HV.out _).mono ?_; rintro e w1 ⟨rfl, h1⟩; obtain ⟨hg, hb⟩ := HB.out _ w1 h1; obtain ⟨c0, c1, c2, c3, -⟩ := hg.code)
      go_ret
      exact ⟨rfl, hb⟩
end Go.Proofs.YtnilepaicnnbhaaDoor
