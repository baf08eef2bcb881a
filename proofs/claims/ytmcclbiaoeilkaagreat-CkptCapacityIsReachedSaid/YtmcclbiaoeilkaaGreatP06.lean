import Derived.Test.YtmcclbiaoeilkaaGreatP05
import Derived.Test.YtmcclbiaoeilkaaGreatP02
import Derived.Deep.Cut
import Derived.Deep.LoopGhost
import Derived.Test.YtmcclbiaoeilkaaGreatP03
import Derived.Test.YtmcclbiaoeilkaaGreatP04
/- Part 6 of a proof; the last part says what is proved. -/
section
namespace Go.Proofs.YtmcclbiaoeilkaaGreat
open Go.RowKit Go.Sl Go.ChangeMaps
def itLeft (r n : Nat) (w : World) : Nat := match w.heap[r]? with | some (.mapIter _ _ seen _) => n - seen.size | _ => 0
structure FlushSt (w0 : World) (p : Nat) (D : DiskM) (F : HProp) (b cap cb ab r : Nat) (es : Array MapEntry) (ck : Nat) (es2 : Array MapEntry) (ck2 : Nat) (wr : World) : Prop where
  st : ∃ (seen : Array Nat) (dur : Nat → List UInt8) (dc : Array Value), Same w0 wr ∧ dc.size = cap * 64 ∧ DurC D.n dur dc ∧ (∀ i, i < D.n → (dur i).length = 64) ∧
    seen.toList.Nodup ∧ (∀ x ∈ seen.toList, ∃ e ∈ es.toList, e.born = x) ∧
    (∀ i, i < D.n → (dur i = D.dur i ∨ dur i = D.content i) ∧ ((∃ e ∈ es.toList, e.key = .int .i64 (i : Int) ∧ e.born ∈ seen.toList) → dur i = D.content i)) ∧
    Sat wr (pts r (.mapIter (some cb) ck seen ck) * (pts cb (.map es ck) * (pts p (.cells #[.slice (some ⟨b, 0, none⟩) D.n cap, .map (some cb), .map (some ab)] TD (0, 0)) * (pts b (.cells dc TS (0, 0)) * (pts ab (.map es2 ck2) * F)))))
theorem kv_entry {es : Array MapEntry} {ck : Nat} {l : KV} (hM : MapL es ck l) {e : MapEntry} (he : e ∈ es.toList) : ∃ k : Int, e.key = .int .i64 k ∧ lk l k = some e.val := by
  have key : ∀ (L : List MapEntry) (l : KV), L.map (fun e => (e.key, e.val)) = l.map (fun p => (Value.int .i64 p.1, p.2)) → (l.map (·.1)).Nodup → e ∈ L → ∃ k : Int, e.key = .int .i64 k ∧ lk l k = some e.val := by
    intro L
    induction L with
    | nil => intro l _ _ h; simp at h
    | cons a t ih =>
      intro l h hn hin
      cases l with
      | nil => simp at h
      | cons q r =>
        obtain ⟨k, v⟩ := q
        simp only [List.map_cons, List.cons.injEq, Prod.mk.injEq] at h
        simp only [List.map_cons, List.nodup_cons] at hn
        rcases List.mem_cons.1 hin with rfl | hin
        · exact ⟨k, h.1.1, by unfold lk; rw [if_pos rfl, h.1.2]⟩
        · obtain ⟨k', h1, h2⟩ := ih r h.2 hn.2 hin
          refine ⟨k', h1, ?_⟩
          unfold lk
          rw [if_neg, h2]
          rintro rfl
          exact hn.1 (mem_of_lk h2)
  exact key _ l hM.ent hM.nodup he
theorem entry_of_lk {es : Array MapEntry} {ck : Nat} {l : KV} (hM : MapL es ck l) {k : Int} {v : Value} (h : lk l k = some v) : ∃ e ∈ es.toList, e.key = .int .i64 k ∧ e.val = v := by
  have key : ∀ (L : List MapEntry) (l : KV), L.map (fun e => (e.key, e.val)) = l.map (fun p => (Value.int .i64 p.1, p.2)) → lk l k = some v → ∃ e ∈ L, e.key = .int .i64 k ∧ e.val = v := by
    intro L
    induction L with
    | nil => intro l h h2; cases l with
      | nil => cases h2
      | cons q r => simp at h
    | cons a t ih =>
      intro l h h2
      cases l with
      | nil => cases h2
      | cons q r =>
        obtain ⟨k', v'⟩ := q
        simp only [List.map_cons, List.cons.injEq, Prod.mk.injEq] at h
        unfold lk at h2
        by_cases hk : k = k'
        · rw [if_pos hk] at h2
          cases h2
          exact ⟨a, by simp, by rw [hk]; exact h.1.1, h.1.2⟩
        · rw [if_neg hk] at h2
          obtain ⟨e, h3, h4⟩ := ih r h.2 h2
          exact ⟨e, by simp [h3], h4⟩
  exact key _ l hM.ent h
theorem born_inj {es : Array MapEntry} {ck : Nat} {l : KV} (hM : MapL es ck l) {e e' : MapEntry} (he : e ∈ es.toList) (he' : e' ∈ es.toList) (h : e.born = e'.born) : e = e' := by
  have key : ∀ (L : List MapEntry), (L.map (·.born)).Nodup → e ∈ L → e' ∈ L → e = e' := by
    intro L
    induction L with
    | nil => intro _ h; simp at h
    | cons a t ih =>
      intro hn h1 h2
      simp only [List.map_cons, List.nodup_cons] at hn
      rcases List.mem_cons.1 h1 with g1 | g1
      · rcases List.mem_cons.1 h2 with g2 | g2
        · rw [g1, g2]
        · exact absurd (by rw [← g1, h]; exact List.mem_map_of_mem g2) hn.1
      · rcases List.mem_cons.1 h2 with g2 | g2
        · exact absurd (by rw [← g2, ← h]; exact List.mem_map_of_mem g1) hn.1
        · exact ih hn.2 g1 g2
  exact key _ hM.born he he'
theorem nodup_le {α : Type} [DecidableEq α] : ∀ (a b : List α), a.Nodup → a ⊆ b → a.length ≤ b.length
  | [], _, _, _ => by simp
  | x :: t, b, hn, hs => by
    rw [List.nodup_cons] at hn
    have hx : x ∈ b := hs (by simp)
    have ht : t ⊆ b.erase x := by
      intro y hy
      have : y ≠ x := by rintro rfl; exact hn.1 hy
      exact (List.mem_erase_of_ne this).2 (hs (by simp [hy]))
    have h1 := nodup_le t _ hn.2 ht
    rw [List.length_erase_of_mem hx] at h1
    have : 0 < b.length := List.length_pos_of_mem hx
    simp only [List.length_cons]; omega
theorem seen_lt {es : Array MapEntry} {seen : Array Nat} (hn : seen.toList.Nodup) (hin : ∀ x ∈ seen.toList, ∃ e ∈ es.toList, e.born = x) {e : MapEntry} (he : e ∈ es.toList) (hes : e.born ∉ seen.toList) : seen.size < es.size := by
  have h1 : (e.born :: seen.toList).Nodup := List.nodup_cons.2 ⟨hes, hn⟩
  have h2 : (e.born :: seen.toList) ⊆ es.toList.map (·.born) := by
    intro x hx
    rcases List.mem_cons.1 hx with rfl | hx
    · exact List.mem_map_of_mem he
    · obtain ⟨e', he', rfl⟩ := hin x hx; exact List.mem_map_of_mem he'
  have h3 := nodup_le _ _ h1 h2
  simp at h3
  omega
set_option linter.unusedSimpArgs false in
set_option maxHeartbeats 1000000 in
theorem flush_any (p : Nat) (D : DiskM) (F : HProp) (w : World) (hS : Sat w (diskAt TD TS p D * F)) (hn : 0 < D.n) :
    Calls Tryz.prog 95 #[.pointer (some ⟨p, 0, none⟩)] w fun e w' => e = .returned (.tuple #[]) ∧ Same w w' ∧ Sat w' (diskAt TD TS p D.flush * F) := by
  obtain ⟨v, cb, ab, es, ck, l, es2, ck2, l2, ⟨hwf, hM, hK, hM2, hK2⟩, hs⟩ := diskAt_iff.1 hS
  have hsd := hs.perm (show _ = durAt TS D.n D.dur v * (pts p (.cells #[v, .map (some cb), .map (some ab)] TD (0, 0)) * (pts cb (.map es ck) * (pts ab (.map es2 ck2) * F))) from by ac_rfl)
  obtain ⟨b, cap, dc, ⟨rfl, hcap, hdc, hD⟩, hsb⟩ := (durAt_iff hn).1 hsd
  obtain ⟨q0, q1, q2⟩ := disk_cells hs
  obtain ⟨ti, hti, hz0, hts, hz2⟩ := info_parts info_TS
  clear hz0 hz2
  have hcb : w.heap[cb]? = some (.map es ck) := (hsb.right.right).block
  have hrg := run_range_kv (P := Tryz.prog) Tryz.underlying128 hcb
  have hst : FlushSt w p D F b cap cb ab w.heap.size es ck es2 ck2 (w.alloc (.mapIter (some cb) ck #[] ck)) :=
    ⟨#[], D.dur, dc, (Same.refl w).alloc _, hdc, hD, hwf.dur, by simp, by simp, fun i _ => ⟨.inl rfl, by rintro ⟨e, _, _, h⟩; simp at h⟩, ((hsb.alloc (.mapIter (some cb) ck #[] ck)).perm (by ac_rfl))⟩
  have HM := Lib.hid hM
  have HK := Lib.hid hK
  have HM2 := Lib.hid hM2
  have HK2 := Lib.hid hK2
  have HW := Lib.hid hwf
  have HST := Lib.hid hst
  clear hst hM hK hM2 hK2 hwf hs hsd hsb hS hD hdc hcb
  go_enter Tryz.func95, Tryz.ntmps95
  go_wp2_with ((with_reducible (apply wpList_range_run (h := hrg))); rfl; rfl; rfl)
  generalize w.heap.size = r at HST ⊢
  clear hrg q0 q1 q2
  go_loopw [] (fun wr => FlushSt w p D F b cap cb ab r es ck es2 ck2 wr) (fun wr => itLeft r es.size wr)
  case atStart => exact HST.out
  case round =>
    obtain ⟨seen, dur, dc1, hsm, hdc, hD, hdl, hnd, hin, hdur, hsat⟩ := hrel.st
    clear hrel
    have hr : wr.heap[r]? = some (.mapIter (some cb) ck seen ck) := hsat.block
    have hcb : wr.heap[cb]? = some (.map es ck) := hsat.right.block
    have hml : itLeft r es.size wr = es.size - seen.size := by unfold itLeft; rw [hr]
    rcases run_next_kv (P := Tryz.prog) hr hcb HM.out with ⟨hall, W, hnx, hW⟩ | ⟨e, he, hes, w0, hw0, hnx⟩
    · have hsW : Sat W (pts cb (.map es ck) * (pts p (.cells #[.slice (some ⟨b, 0, none⟩) D.n cap, .map (some cb), .map (some ab)] TD (0, 0)) * (pts b (.cells dc1 TS (0, 0)) * (pts ab (.map es2 ck2) * F)))) := by rcases hW with rfl | rfl <;> exact hsat.right
      have hsmW : Same w W := by rcases hW with rfl | rfl; exact hsm; exact hsm.drew
      have hcl := run_clear_kv (P := Tryz.prog) (w := W) Tryz.underlying128 hsW.block
      obtain ⟨q0, q1, q2⟩ := disk_cells hsW.right
      have hfl : D.flush.WF := HW.out.flush
      have hfin : Sat (setBlock W cb (.map #[] ck)) (diskAt TD TS p D.flush * F) := by
        have h4 := hsW.setBlock (o' := .map #[] ck)
        refine diskAt_iff.2 ⟨.slice (some ⟨b, 0, none⟩) D.n cap, cb, ab, #[], ck, [], es2, ck2, _, ⟨hfl, MapL.empty ck, KvSec.nil, HM2.out, HK2.out⟩, ?_⟩
        refine Sat.perm ((durAt_iff hn).2 ⟨b, cap, dc1, ⟨rfl, hcap, hdc, ?_⟩, h4.perm (show _ = pts b (.cells dc1 TS (0, 0)) * (pts p (.cells #[.slice (some ⟨b, 0, none⟩) D.n cap, .map (some cb), .map (some ab)] TD (0, 0)) * (pts cb (.map #[] ck) * (pts ab (.map es2 ck2) * F))) from by ac_rfl)⟩) (by ac_rfl)
        intro i hi j u hu
        refine hD i hi j u ?_
        have hc : dur i = D.content i := by
          rcases hdur i hi with ⟨h1 | h1, h2⟩
          · cases hca : D.cache i with
            | none => rw [h1]; simp [DiskM.content, hca]
            | some s =>
              have hlk := HK.out (i : Int)
              rw [if_pos (by omega), Int.toNat_natCast, hca, Option.map_some] at hlk
              obtain ⟨e, he, hk, _⟩ := entry_of_lk HM.out hlk
              exact h2 ⟨e, he, hk, hall e he⟩
          · exact h1
        rw [hc]; exact hu
      have HF := Lib.hid hfin
      have HS := Lib.hid hsmW
      clear hfin hsW hsmW hfl hsat hsm hW hall hdur hin hnd hdl hD hdc hr hcb hml
      go_wp2_with (first
        | ((with_reducible (apply wpList_next_run (h := hnx))); rfl; rfl; rfl)
        | ((with_reducible (apply wpList_clear_run (hrun := hcl))); rfl; rfl; rfl))
      go_end0
      exact ⟨rfl, HS.out.setBlock _, HF.out⟩
    · obtain ⟨ki, hkey, hlk⟩ := kv_entry HM.out he
      have hkk := HK.out ki
      rw [hlk] at hkk
      have hk0 : 0 ≤ ki := by
        by_cases h : 0 ≤ ki
        · exact h
        · rw [if_neg h] at hkk; cases hkk
      rw [if_pos hk0] at hkk
      obtain ⟨k, rfl⟩ := Int.eq_ofNat_of_zero_le hk0
      rw [Int.toNat_natCast] at hkk
      cases hca : D.cache k with
      | none => rw [hca] at hkk; cases hkk
      | some s =>
        rw [hca, Option.map_some, Option.some.injEq] at hkk
        obtain ⟨hkn, hsl⟩ := HW.out.cache k s hca
        rw [hkey, hkk] at hnx
        have hs0 : Sat w0 (pts r (.mapIter (some cb) ck seen ck) * (pts cb (.map es ck) * (pts p (.cells #[.slice (some ⟨b, 0, none⟩) D.n cap, .map (some cb), .map (some ab)] TD (0, 0)) * (pts b (.cells dc1 TS (0, 0)) * (pts ab (.map es2 ck2) * F))))) := by rcases hw0 with rfl | rfl <;> exact hsat
        have hsm0 : Same w w0 := by rcases hw0 with rfl | rfl; exact hsm; exact hsm.drew
        have hs1 := hs0.setBlock (o' := .mapIter (some cb) ck (seen.push e.born) ck)
        have hsm1 := hsm0.setBlock (r := r) (.mapIter (some cb) ck (seen.push e.born) ck)
        have hen := run_entry_kv (P := Tryz.prog) hs1.block hs1.right.block HM.out he (by simp)
        rw [hkey, hkk] at hen
        generalize setBlock w0 r (.mapIter (some cb) ck (seen.push e.born) ck) = W1 at hnx hen hs1 hsm1
        have HCA := Lib.hid hca
        have HDUR := Lib.hid hdur
        have HND := Lib.hid hnd
        have HIN := Lib.hid hin
        have HDL := Lib.hid hdl
        have HE := Lib.hid (show e ∈ es.toList ∧ e.born ∉ seen.toList ∧ e.key = .int .i64 (k : Int) from ⟨he, hes, hkey⟩)
        have HML := Lib.hid hml
        have HDD := Lib.hid hD
        clear hca hdur hnd hin hdl he hes hkey hml hD hkk hlk hs0 hsm0 hw0 hsat hsm hr hcb hk0
        go_wp2_with (first
          | ((with_reducible (apply wpList_next_run (h := hnx))); rfl; rfl; rfl)
          | ((with_reducible (apply wpList_entry_run (h := hen))); rfl; rfl; rfl)
          | ((with_reducible (refine wpList_alloc_zero ?_ TS ?_ _ (zeroTS _) ?_)); rfl; rfl)
          | ((with_reducible (apply wp_store_sec zsec_length hsl)); rfl; rfl; rfl; rfl))
        clear hnx hen
        have hs2 := hs1.alloc (.cells (secA s) TS)
        have hsm2 := hsm1.alloc (.cells (secA s) TS)
        generalize W1.alloc (.cells (secA s) TS) = W2 at hs2 hsm2 ⊢
        generalize W1.heap.size = N at hs2 ⊢
        clear hs1 hsm1
        have hrow : W2.rangeAt N 0 (secL s) := by
          intro j u hu
          rw [cells_at hs2.block, Nat.zero_add, ← hu, ← secA_toList]; simp
        obtain ⟨q0, q1, q2⟩ := disk_cells hs2.right.right.right
        have hsb := hs2.right.perm (show _ = pts b (.cells dc1 TS (0, 0)) * (pts r (.mapIter (some cb) ck (seen.push e.born) ck) * (pts cb (.map es ck) * (pts p (.cells #[.slice (some ⟨b, 0, none⟩) D.n cap, .map (some cb), .map (some ab)] TD (0, 0)) * (pts ab (.map es2 ck2) * F)))) from by ac_rfl)
        have hth : W2.drew.there b (0 + k * 64) (secA s).size := by rw [secA_size, hsl]; exact durC_there hsb.drew.block hdc hcap hkn
        have hS0 : W2.drew.cell? ⟨p, 0, none⟩ = some (.slice (some ⟨b, 0, none⟩) D.n cap) ∧ W2.drew.rangeAt N 0 (secL s) := ⟨q0, hrow⟩
        refine reg_begin (fun w' => w'.cell? ⟨p, 0, none⟩ = some (.slice (some ⟨b, 0, none⟩) D.n cap) ∧ w'.rangeAt N 0 (secL s)) (by kernel_rfl) ?_
        (apply reg_take 0 rfl rfl (by decide +kernel) rfl); (rintro w' ⟨h1, _⟩; go_simp; rfl); exact hS0; simp only [List.setIfInBounds_toArray, List.set_cons_succ, List.set_cons_zero]
        (apply reg_take 1 rfl rfl (by decide +kernel) rfl); (rintro w' ⟨h1, _⟩; go_simp; rfl); exact hS0; simp only [List.setIfInBounds_toArray, List.set_cons_succ, List.set_cons_zero]
        (apply reg_take 2 rfl rfl (by decide +kernel) rfl); (rintro w' ⟨h1, _⟩; go_simp; rfl); exact hS0; simp only [List.setIfInBounds_toArray, List.set_cons_succ, List.set_cons_zero]
        (apply reg_take 3 rfl rfl (by decide +kernel) rfl); (rintro w' ⟨h1, _⟩; go_simp; rfl); exact hS0; simp only [List.setIfInBounds_toArray, List.set_cons_succ, List.set_cons_zero]
        (apply reg_take 4 rfl rfl (by decide +kernel) rfl); (rintro w' ⟨h1, _⟩; go_simp; rfl); exact hS0; simp only [List.setIfInBounds_toArray, List.set_cons_succ, List.set_cons_zero]
        refine reg_take 5 (v := secV s) rfl rfl (by decide +kernel) rfl (fun w' h => exec_load rfl rfl (run_loadAt_mid w' N 0 TS (secL s) _ h.2 Tryz.underlying153 rfl (by rw [infoTS hsl, secA_size, secL_length]))) hS0 ?_; simp only [List.setIfInBounds_toArray, List.set_cons_succ, List.set_cons_zero]
        refine reg_take 6 (v := .pointer (some ⟨b, 0 + k * 64, none⟩)) rfl rfl (by decide +kernel) rfl (fun _ _ => exec_index_slice rfl rfl rfl Tryz.underlying127 hti hts hkn) hS0 ?_; simp only [List.setIfInBounds_toArray, List.set_cons_succ, List.set_cons_zero]
        refine reg_do_last 7 (W2.drew.setCells b (0 + k * 64) (secA s).toList) rfl rfl (by decide +kernel) rfl (exec_store rfl rfl rfl (run_storeAt_mid W2.drew b (0 + k * 64) TS (secA s) hth (infoTS hsl) (Array.all_eq_true_iff_forall_mem.2 (fun v hv => secL_one v (by rw [← secA_toList]; simpa using hv))))) ?_
        have hs3 := Sat.setCells (secA s).toList (o := 0 + k * 64) hsb.drew
        have hsm3 := Same.setCells (b := b) (secA s).toList (o := 0 + k * 64) hsm2.drew
        generalize W2.drew.setCells b (0 + k * 64) (secA s).toList = W3 at hs3 hsm3 ⊢
        rw [secA_toList, Nat.zero_add] at hs3
        clear q0 q1 q2 hrow hth hS0 hsb hs2 hsm2
        go_roundw
        case rel =>
          obtain ⟨he, hes, hkey⟩ := HE.out
          (repeat apply Exists.intro)
          refine ⟨⟨seen.push e.born, fupd dur k s, putL dc1 (k * 64) (secL s), hsm3, by rw [putL_size]; exact hdc, durC_put HDD.out hdc hcap HDL.out hkn hsl, ?_, ?_, ?_, ?_, hs3.perm (by ac_rfl)⟩, rfl⟩
          · intro i hi; unfold fupd; split
            · exact hsl
            · exact HDL.out i hi
          · rw [Array.toList_push, List.nodup_append]
            exact ⟨HND.out, by simp, by intro a ha c hc; simp at hc; subst hc; rintro rfl; exact hes ha⟩
          · intro x hx
            rw [Array.toList_push, List.mem_append] at hx
            rcases hx with hx | hx
            · exact HIN.out x hx
            · simp at hx; exact ⟨e, he, hx.symm⟩
          · intro i hi
            unfold fupd
            by_cases hik : i = k
            · rw [if_pos hik]
              have : D.content i = s := by rw [hik]; simp [DiskM.content, HCA.out]
              exact ⟨.inr this.symm, fun _ => this.symm⟩
            · rw [if_neg hik]
              refine ⟨(HDUR.out i hi).1, ?_⟩
              rintro ⟨e', he', hk', hb'⟩
              rw [Array.toList_push, List.mem_append] at hb'
              rcases hb' with hb' | hb'
              · exact (HDUR.out i hi).2 ⟨e', he', hk', hb'⟩
              · exfalso
                simp at hb'
                have : e' = e := born_inj HM.out he' he hb'
                rw [this, hkey] at hk'
                simp at hk'
                omega
        case measure =>
          rw [HML.out]
          have h1 : itLeft r es.size W3 = es.size - (seen.size + 1) := by
            unfold itLeft
            rw [(hs3.perm (show _ = pts r (.mapIter (some cb) ck (seen.push e.born) ck) * (pts b (.cells (putL dc1 (k * 64) (secL s)) TS (0, 0)) * (pts cb (.map es ck) * (pts p (.cells #[.slice (some ⟨b, 0, none⟩) D.n cap, .map (some cb), .map (some ab)] TD (0, 0)) * (pts ab (.map es2 ck2) * F)))) from by ac_rfl)).block]
            simp
          rw [h1]
          obtain ⟨he, hes, hkey⟩ := HE.out
          have := seen_lt HND.out HIN.out he hes
          omega
end Go.Proofs.YtmcclbiaoeilkaaGreat
end
section
namespace Go.Proofs.YtmcclbiaoeilkaaGreat
open Go.RowKit Go.Sl Go.ChangeMaps
theorem zero_cache {D : DiskM} (h : D.WF) (hn : D.n = 0) : D.cache = fun _ => none := by
  funext i
  cases hc : D.cache i with
  | none => rfl
  | some s => have := (h.cache i s hc).1; omega
theorem zero_kv {l : KV} (h : KvSec l fun _ => none) : l = [] := by
  cases l with
  | nil => rfl
  | cons a t =>
    obtain ⟨k, v⟩ := a
    have := h k
    simp [lk] at this
theorem zero_flush {D : DiskM} (h : D.WF) (hn : D.n = 0) : D.flush = D := by
  have hc := zero_cache h hn
  unfold DiskM.flush
  rw [← hc]
  have : (fun i => D.content i) = D.dur := by funext i; simp [DiskM.content, hc]
  rw [this]
structure FlushZ (w0 : World) (p : Nat) (D : DiskM) (F : HProp) (r cb ck : Nat) (X : HProp) (wr : World) : Prop where
  st : Same w0 wr ∧ Sat wr (pts r (.mapIter (some cb) ck #[] ck) * (pts cb (.map #[] ck) * X))
set_option linter.unusedSimpArgs false in
set_option maxHeartbeats 1000000 in
theorem flush_zero (p : Nat) (D : DiskM) (F : HProp) (w : World) (hS : Sat w (diskAt TD TS p D * F)) (hn : D.n = 0) :
    Calls Tryz.prog 95 #[.pointer (some ⟨p, 0, none⟩)] w fun e w' => e = .returned (.tuple #[]) ∧ Same w w' ∧ Sat w' (diskAt TD TS p D.flush * F) := by
  obtain ⟨v, cb, ab, es, ck, l, es2, ck2, l2, ⟨hwf, hM, hK, hM2, hK2⟩, hs⟩ := diskAt_iff.1 hS
  rw [zero_flush hwf hn]
  have hc := zero_cache hwf hn
  have hK' := hK
  rw [hc] at hK'
  obtain rfl := zero_kv hK'
  obtain rfl : es = #[] := by have := hM.size; simp at this; exact this
  obtain ⟨q0, q1, q2⟩ := disk_cells hs
  have hcs := hs.perm (show _ = pts cb (.map #[] ck) * (pts p (.cells #[v, .map (some cb), .map (some ab)] TD (0, 0)) * (durAt TS D.n D.dur v * (pts ab (.map es2 ck2) * F))) from by ac_rfl)
  have hrg := run_range_kv (P := Tryz.prog) Tryz.underlying128 hcs.block
  have hst : FlushZ w p D F w.heap.size cb ck (pts p (.cells #[v, .map (some cb), .map (some ab)] TD (0, 0)) * (durAt TS D.n D.dur v * (pts ab (.map es2 ck2) * F))) (w.alloc (.mapIter (some cb) ck #[] ck)) :=
    ⟨(Same.refl w).alloc _, hcs.alloc (.mapIter (some cb) ck #[] ck)⟩
  have HM := Lib.hid hM
  have HST := Lib.hid hst
  have HB := Lib.hid (fun w' (h : Sat w' (pts cb (.map #[] ck) * (pts p (.cells #[v, .map (some cb), .map (some ab)] TD (0, 0)) * (durAt TS D.n D.dur v * (pts ab (.map es2 ck2) * F))))) =>
    (diskAt_iff.2 ⟨v, cb, ab, #[], ck, [], es2, ck2, l2, ⟨hwf, hM, hK, hM2, hK2⟩, h.perm (by ac_rfl)⟩ : Sat w' (diskAt TD TS p D * F)))
  clear hst hM hK hK' hM2 hK2 hwf hs hcs hS hc
  go_enter Tryz.func95, Tryz.ntmps95
  go_wp2_with ((with_reducible (apply wpList_range_run (h := hrg))); rfl; rfl; rfl)
  generalize w.heap.size = r at HST ⊢
  clear hrg q0 q1 q2
  go_loopw [] (fun wr => FlushZ w p D F r cb ck (pts p (.cells #[v, .map (some cb), .map (some ab)] TD (0, 0)) * (durAt TS D.n D.dur v * (pts ab (.map es2 ck2) * F))) wr) (fun wr => 0)
  case atStart => exact HST.out
  case round =>
    obtain ⟨hsm, hsat⟩ := hrel.st
    clear hrel
    rcases run_next_kv (P := Tryz.prog) hsat.block hsat.right.block HM.out with ⟨hall, W, hnx, hW⟩ | ⟨e, he, hes, w0, hw0, hnx⟩
    · have hsW : Sat W (pts cb (.map #[] ck) * (pts p (.cells #[v, .map (some cb), .map (some ab)] TD (0, 0)) * (durAt TS D.n D.dur v * (pts ab (.map es2 ck2) * F)))) := by rcases hW with rfl | rfl <;> exact hsat.right
      have hsmW : Same w W := by rcases hW with rfl | rfl; exact hsm; exact hsm.drew
      have hcl := run_clear_kv (P := Tryz.prog) (w := W) Tryz.underlying128 hsW.block
      obtain ⟨q0, q1, q2⟩ := disk_cells hsW.right
      have hfin := HB.out _ (hsW.setBlock (o' := .map #[] ck))
      have HF := Lib.hid hfin
      have HS := Lib.hid hsmW
      clear hfin hsW hsmW hsat hsm hW hall
      go_wp2_with (first
        | ((with_reducible (apply wpList_next_run (h := hnx))); rfl; rfl; rfl)
        | ((with_reducible (apply wpList_clear_run (hrun := hcl))); rfl; rfl; rfl))
      go_end0
      exact ⟨rfl, HS.out.setBlock _, HF.out⟩
    · simp at he
theorem flush_all (p : Nat) (D : DiskM) (F : HProp) (w : World) (hS : Sat w (diskAt TD TS p D * F)) :
    Calls Tryz.prog 95 #[.pointer (some ⟨p, 0, none⟩)] w fun e w' => e = .returned (.tuple #[]) ∧ Same w w' ∧ Sat w' (diskAt TD TS p D.flush * F) := by
  by_cases hn : D.n = 0
  · exact flush_zero p D F w hS hn
  · exact flush_any p D F w hS (by omega)
end Go.Proofs.YtmcclbiaoeilkaaGreat
end
