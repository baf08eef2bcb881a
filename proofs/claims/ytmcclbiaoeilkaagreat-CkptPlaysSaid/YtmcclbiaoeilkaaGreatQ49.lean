import Derived.Test.YtmcclbiaoeilkaaGreatQ48
set_option maxHeartbeats 4000000
set_option maxRecDepth 20000
/- Part 49. -/
section
namespace Go.Proofs.YtmcclbiaoeilkaaGreat
open Go.Proofs.Tryz Go.RowKit Go.Sl Go.ChangeMaps
theorem zjq {p:Nat}{S:zsg}{F:zsi}{w:World}{vb vs vi:Value}{ps qs:List Nat}{q:Nat}{R:zsi}{D:zsh}(hli:qs.length=S.images.length)(h:Sat w (zha p S vb vs vi ps qs q D R F)){j:Nat}(hj:j<S.images.length):
  ∃ gi capi qj R2,vi = .slice (some ⟨gi,0,none⟩) S.images.length capi∧w.cell? ⟨p,8,none⟩=some vi∧w.cell? ⟨gi,j,none⟩=some (.pointer (some ⟨qj,0,none⟩))∧zbA RT qs S.images=zbF RT qj (S.images.getD j zsg.d0)*R2∧qs[j]?=some qj:=by
 unfold zha at h;obtain⟨⟨_,_,q8,_,_⟩,_,_⟩:=zbN h;obtain⟨gi,capi,rfl,hc⟩:=zbd h.right.right.right (by omega);obtain⟨qj,hq⟩:∃ q,qs[j]?=some q:=⟨_,List.getElem?_eq_getElem (by omega)⟩;obtain⟨R2,hR⟩:=zed (T:=RT) qs S.images j (by omega) hj
 have hD:S.images[j]?=some (S.images.getD j zsg.d0):=by rw[List.getD_eq_getElem?_getD,List.getElem?_eq_getElem hj];rfl
 have e:=hR qj (S.images.getD j zsg.d0);rw[zbn hq,zbn hD] at e;exact⟨gi,capi,qj,R2,rfl,q8,hc j (zaB qj) (by rw[List.getElem?_map,hq];rfl),e,hq⟩
theorem zrp {p:Nat}{S:zsg}{F:zsi}{w:World}(h:Sat w (zad RS p S*F)):∃ ao cap,w.cell? ⟨p,8,none⟩=some (.slice ao S.images.length cap):=by
 obtain⟨vb,vs,vi,ps,qs,_,hs⟩:=za9.1 h;obtain⟨⟨_,_,q8,_,_⟩,_,_⟩:=zbN hs;obtain⟨ao,cap,rfl⟩:=zal hs.right.right.right;exact⟨ao,cap,q8⟩
theorem zkh (p : Nat) (S : zsg) (F : zsi) (d im : Int) (w : World) (hS : Sat w (zad RS p S * F)) :
    Calls prog 64 #[.pointer (some ⟨p, 0, none⟩), d, im] w fun e w' => e = .returned (.int .i64 (S.insert d im).2) ∧ Hid (Same w w' ∧ ∃ X, Sat w' (zad RS p (S.insert d im).1 * (X * F))) := by
  have hwf := zbm hS
  have HST := zh (zcj p S F d w hS)
  have HS := zh hS
  by_cases h0 : S.state d = 0
  · have hk : S.insert d im = (S, 1) := by unfold zsg.insert; rw [if_pos h0]
    rw [hk]
    rw [h0] at HST
    clear hk h0 hwf hS
    go_enter func64, ntmps64
    go_wp2_with (go_at_call 41; refine HST.out.mono ?_; rintro e w1 ⟨rfl, rfl⟩)
    go_ret
    exact ⟨rfl, Same.refl w, emp, by rw [zaL]; exact HS.out⟩
  have e0 : (S.state d == 0) = false := by simp [h0]
  obtain ⟨ao8, cap8, c8⟩ := zrp hS
  by_cases hi : im < 0 ∨ (S.images.length : Int) ≤ im
  · have hk : S.insert d im = (S, 12) := by unfold zsg.insert; rw [if_neg h0, if_pos hi]
    rw [hk]
    generalize S.images.length = m at c8 hi
    generalize S.state d = st at HST e0
    clear hk h0 hwf hS
    by_cases h1 : im < 0
    · have hA : decide (im < 0) = true := decide_eq_true h1
      clear hi
      go_enter func64, ntmps64
      go_wp2_with (go_at_call 41; refine HST.out.mono ?_; rintro e w1 ⟨rfl, rfl⟩)
      go_ret
      exact ⟨rfl, Same.refl w, emp, by rw [zaL]; exact HS.out⟩
    · have hA : decide (im < 0) = false := decide_eq_false h1
      have hB : decide ((m : Int) ≤ im) = true := decide_eq_true (by omega)
      clear hi
      go_enter func64, ntmps64
      go_wp2_with (go_at_call 41; refine HST.out.mono ?_; rintro e w1 ⟨rfl, rfl⟩)
      go_ret
      exact ⟨rfl, Same.refl w, emp, by rw [zaL]; exact HS.out⟩
  · clear c8
    obtain ⟨hd0, hd1⟩ := zsg.state_in hwf h0
    obtain ⟨k, rfl⟩ := Int.eq_ofNat_of_zero_le hd0
    obtain ⟨j, rfl⟩ := Int.eq_ofNat_of_zero_le (show 0 ≤ im by omega)
    have hj : j < S.images.length := by omega
    obtain ⟨vb, vs, vi, ps, qs, q, R, ho, hs⟩ := zcL hS (k := k) (by omega)
    obtain ⟨gs, caps, rfl, c7, cs, fs⟩ := zdV ho hs
    obtain ⟨gi, capi, qj, R2, rfl, c8, ci, hR2, hqj⟩ := zjq ho.li hs hj
    have hkd : S.insert (k : Int) (j : Int) = if S.state k = 1 then (S, 19) else (S.setBay k ⟨S.images.getD j zsg.d0, 1⟩, 0) := by
      unfold zsg.insert
      rw [if_neg h0, if_neg hi, Int.toNat_natCast]
    obtain ⟨n, hn⟩ : ∃ n, S.bays.length = n := ⟨_, rfl⟩
    obtain ⟨m, hm⟩ : ∃ m, S.images.length = m := ⟨_, rfl⟩
    rw [hn] at c7 hd1
    rw [hm] at c8
    have HN := (zd hn hm)
    have hA : decide ((j : Int) < 0) = false := decide_eq_false (by omega)
    have hB : decide ((m : Int) ≤ (j : Int)) = false := decide_eq_false (by omega)
    have hB2 : decide (m ≤ j) = false := decide_eq_false (by omega)
    by_cases h1 : S.state (k : Int) = 1
    · rw [if_pos h1] at hkd
      rw [hkd]
      rw [h1] at cs HST
      clear hs ho hwf hS hn hm hkd h0 h1 e0 hi hj hR2 hqj
      go_enter func64, ntmps64
      go_wp2_with (go_at_call 41; refine HST.out.mono ?_; rintro e w1 ⟨rfl, rfl⟩)
      go_ret
      exact ⟨rfl, Same.refl w, emp, by rw [zaL]; exact HS.out⟩
    · rw [if_neg h1] at hkd
      rw [hkd]
      have e1 : (S.state (k : Int) == 1) = false := by simp [h1]
      have HWF := zh hwf
      have HJ := zh hj
      have HR2 := zh hR2
      have HQJ := zh hqj
      have HO := (zd ho hs)
      generalize S.state (k : Int) = st at cs HST e0 e1
      clear hs ho hwf hS hn hm hkd h0 h1 hR2 hqj
      go_enter func64, ntmps64
      go_upto_region 7 with (go_at_call 41; refine HST.out.mono ?_; rintro e w1 ⟨rfl, rfl⟩)
      obtain ⟨g, capb, rfl, c6, cq, -⟩ := zbw HO.out.1 HO.out.2
      rw [HN.out.1] at c6
      have hk0 : (0 : Int) ≤ (k : Int) := by omega
      have hj0 : (0 : Int) ≤ (j : Int) := by omega
      have hjm : (j : Int) < (m : Int) := by have := HJ.out; have := HN.out.2; omega
      have HQ := (zd ((Same.refl w).drew) (HO.out.2.drew))
      clear cs c7 cq HST hA hB hB2 hi hj
      have hS0 : w.drew.cell? ⟨p, 6, none⟩ = some (.slice (some ⟨g, 0, none⟩) n capb) ∧ w.drew.cell? ⟨p, 8, none⟩ = some (.slice (some ⟨gi, 0, none⟩) m capi) ∧ w.drew.cell? ⟨gi, j, none⟩ = some (.pointer (some ⟨qj, 0, none⟩)) := ⟨c6, c8, ci⟩
      refine zah (fun w' => w'.cell? ⟨p, 6, none⟩ = some (.slice (some ⟨g, 0, none⟩) n capb) ∧ w'.cell? ⟨p, 8, none⟩ = some (.slice (some ⟨gi, 0, none⟩) m capi) ∧ w'.cell? ⟨gi, j, none⟩ = some (.pointer (some ⟨qj, 0, none⟩))) (by kernel_rfl) ?_
      clear c6 c8 ci
      generalize w.drew = W0 at hS0 HQ ⊢
      (apply zaa 0 rfl rfl (by kernel_rfl) rfl); (rintro w' ⟨h1, h2, h3⟩; go_simp; rfl); exact hS0; simp only [zq]
      (apply zaa 1 rfl rfl (by kernel_rfl) rfl); (rintro w' ⟨h1, h2, h3⟩; go_simp; rfl); exact hS0; simp only [zq]
      (apply zaa 2 rfl rfl (by kernel_rfl) rfl); (rintro w' ⟨h1, h2, h3⟩; go_simp; rfl); exact hS0; simp only [zq]
      (apply zaa 3 rfl rfl (by kernel_rfl) rfl); (rintro w' ⟨h1, h2, h3⟩; go_simp; rfl); exact hS0; simp only [zq]
      (apply zaa 4 rfl rfl (by kernel_rfl) rfl); (rintro w' ⟨h1, h2, h3⟩; go_simp; rfl); exact hS0; simp only [zq]
      (apply zaa 5 rfl rfl (by kernel_rfl) rfl); (rintro w' ⟨h1, h2, h3⟩; go_simp; rfl); exact hS0; simp only [zq]
      (apply zaa 6 rfl rfl (by kernel_rfl) rfl); (rintro w' ⟨h1, h2, h3⟩; go_simp; rfl); exact hS0; simp only [zq]
      (apply zaa 7 rfl rfl (by kernel_rfl) rfl); (rintro w' ⟨h1, h2, h3⟩; go_simp; rfl); exact hS0; simp only [zq]
      (apply zaa 8 rfl rfl (by kernel_rfl) rfl); (rintro w' ⟨h1, h2, h3⟩; go_simp; rfl); exact hS0; simp only [zq]
      (apply zaa 9 rfl rfl (by kernel_rfl) rfl); (rintro w' ⟨h1, h2, h3⟩; go_simp; rfl); exact hS0; simp only [zq]
      (apply zaa 10 rfl rfl (by kernel_rfl) rfl); (rintro w' ⟨h1, h2, h3⟩; go_simp; rfl); exact hS0; simp only [zq]
      (apply zaa 11 rfl rfl (by kernel_rfl) rfl); (rintro w' ⟨h1, h2, h3⟩; go_simp; rfl); exact hS0; simp only [zq]
      refine zan 12 rfl rfl (by kernel_rfl) rfl (f := 112) (args := #[.pointer (some ⟨qj, 0, none⟩)]) (R := fun v w' => ∃ q', v = .pointer (some ⟨q', 0, none⟩) ∧ Hid (Same w w' ∧ Sat w' (zha p S (.slice (some ⟨g, 0, none⟩) S.bays.length capb) (.slice (some ⟨gs, 0, none⟩) S.bays.length caps) (.slice (some ⟨gi, 0, none⟩) S.images.length capi) ps qs q (S.disk k) R (zbF RT q' (S.images.getD j zsg.d0) * F)))) (by kernel_rfl)
        ((zjl qj (S.images.getD j zsg.d0) (pts p (.cells (rsC S.cfg (.slice (some ⟨g, 0, none⟩) S.bays.length capb) (.slice (some ⟨gs, 0, none⟩) S.bays.length caps) (.slice (some ⟨gi, 0, none⟩) S.images.length capi) (!S.off) S.rleft) ze9 (0, 0)) * (zaf TRp 1 (.slice (some ⟨g, 0, none⟩) S.bays.length capb) S.bays.length (ps.map zaB) * (zaf 3 1 (.slice (some ⟨gs, 0, none⟩) S.bays.length caps) S.bays.length (S.bays.map stV) * (zaf TRp 1 (.slice (some ⟨gi, 0, none⟩) S.images.length capi) S.images.length (qs.map zaB) *
          (zbF RT q (S.disk k) * (R * (R2 * F))))))) W0 (HQ.out.2.perm (by unfold zha; rw [HR2.out]; ac_rfl))).mono fun e w' h => by
          obtain ⟨q', rfl, hX⟩ := h
          obtain ⟨h1, h2⟩ := hX.out
          exact ⟨_, rfl, q', rfl, HQ.out.1.trans h1, h2.perm (by unfold zha; rw [HR2.out]; ac_rfl)⟩) ?_
      rintro _ w3 ⟨q', rfl, h3⟩
      obtain ⟨g', capb', eg, hc3, hq3, hf3⟩ := zbw HO.out.1 h3.out.2
      simp only [Value.slice.injEq, Option.some.injEq, Addr.mk.injEq, and_true, true_and] at eg
      obtain ⟨rfl, rfl⟩ := eg
      obtain ⟨gi', capi', qj', R2', ei, hc8, hci, -, hqj'⟩ := zjq HO.out.1.li h3.out.2 HJ.out
      have hS3 : w3.cell? ⟨p, 6, none⟩ = some (.slice (some ⟨g, 0, none⟩) n capb) ∧ w3.cell? ⟨p, 8, none⟩ = some (.slice (some ⟨gi, 0, none⟩) m capi) ∧ w3.cell? ⟨gi, j, none⟩ = some (.pointer (some ⟨qj, 0, none⟩)) := by
        rw [HN.out.1] at hc3
        rw [HN.out.2] at hc8
        simp only [Value.slice.injEq, Option.some.injEq, Addr.mk.injEq, and_true, true_and] at ei
        obtain ⟨rfl, rfl⟩ := ei
        have e := HQJ.out.symm.trans hqj'
        obtain rfl := Option.some.inj e
        exact ⟨hc3, hc8, hci⟩
      refine ⟨hS3, ?_⟩
      simp only [zq]
      obtain ⟨ip, hip, hip2⟩ := Option.map_eq_some_iff.1 (show (prog.info? TRp).map (·.size) = some 1 by kernel_rfl)
      (apply zaa 13 rfl rfl (by kernel_rfl) rfl); (rintro w' ⟨h1, h2, h3⟩; go_simp; rfl); exact hS3; simp only [zq]
      refine zat 14 (w3.setCell ⟨g, k, none⟩ (.pointer (some ⟨q', 0, none⟩))) rfl rfl (by kernel_rfl) rfl (zay rfl rfl rfl hip hip2 rfl hq3 hf3) ?_
      have h3' := h3.out.2
      rw [HN.out.1] at h3'
      obtain ⟨d7, ds, df⟩ := zk6 HO.out.1 q' HN.out.1 h3'
      unfold zaB at d7 ds df
      have hsm4 := zh (h3.out.1.setCell ⟨g, k, none⟩ (.pointer (some ⟨q', 0, none⟩)))
      have hfin := zh (zk7 HO.out.1 q' (S.images.getD j zsg.d0) 1 HN.out.1 (HWF.out.setBay _ ⟨.inl rfl, fun _ => HWF.out.images _ (by rw [List.getD_eq_getElem?_getD, List.getElem?_eq_getElem HJ.out]; exact List.getElem_mem _)⟩) h3')
      unfold zaB at hfin
      clear h3 h3' hc3 hq3 hf3 hip hip2 HQ hS0 hS3 hc8 hci ei hqj'
      generalize w3.setCell ⟨g, k, none⟩ (.pointer (some ⟨q', 0, none⟩)) = W4 at d7 ds df hsm4 hfin ⊢
      go_wp2
      go_ret
      exact ⟨rfl, hsm4.out.setCell _ _, _, hfin.out⟩
end Go.Proofs.YtmcclbiaoeilkaaGreat
end
section
namespace Go.Proofs.YtmcclbiaoeilkaaGreat
open Go.Proofs.Tryz Go.RowKit Go.Sl Go.ChangeMaps
def zhC (p:Nat)(S:zsg)(vb vs vi:Value)(n:Nat)(bl sl:List Value)(m:Nat)(il:List Value)(X:zsi):zsi:=
 pts p (.cells (rsC S.cfg vb vs vi (!S.off) S.rleft) ze9 (0,0))*(zaf TRp 1 vb n bl*(zaf 3 1 vs n sl*(zaf TRp 1 vi m il*X)))
section
variable {p:Nat} {S:zsg} {vb vs vi:Value} {n m:Nat} {bl sl il:List Value} {X:zsi} {w:World}
theorem zdC (h:Sat w (zhC p S vb vs vi n bl sl m il X)):w.cell? ⟨p,6,none⟩=some vb∧w.cell? ⟨p,7,none⟩=some vs∧w.cell? ⟨p,8,none⟩=some vi∧w.frozen? ⟨p,8,none⟩=false:=by
 unfold zhC at h;obtain⟨⟨q6,q7,q8,_,_⟩,_,_⟩:=zbN h;exact⟨q6,q7,q8,zaj h.block 8⟩
theorem zir {g cap:Nat}(h:Sat w (zhC p S (.slice (some ⟨g,0,none⟩) n cap) vs vi n bl sl m il X))(hn:0<n):(∀ j u,bl[j]?=some u→w.cell? ⟨g,j,none⟩=some u)∧∀ j,w.frozen? ⟨g,j,none⟩=false:=by
 unfold zhC at h;obtain⟨g',cap',cur,e,_,hc,hf,_⟩:=zaO h.right hn;simp only[Value.slice.injEq,Option.some.injEq,Addr.mk.injEq,and_true,true_and] at e;obtain⟨rfl,-⟩:=e;exact⟨hc,hf⟩
theorem zhU {g cap:Nat}(h:Sat w (zhC p S vb (.slice (some ⟨g,0,none⟩) n cap) vi n bl sl m il X))(hn:0<n):(∀ j u,sl[j]?=some u→w.cell? ⟨g,j,none⟩=some u)∧∀ j,w.frozen? ⟨g,j,none⟩=false:=by
 unfold zhC at h;obtain⟨g',cap',cur,e,_,hc,hf,_⟩:=zaO h.right.right hn;simp only[Value.slice.injEq,Option.some.injEq,Addr.mk.injEq,and_true,true_and] at e;obtain⟨rfl,-⟩:=e;exact⟨hc,hf⟩
theorem znP {g cap k:Nat}(h:Sat w (zhC p S (.slice (some ⟨g,0,none⟩) n cap) vs vi n bl sl m il X))(hn:0<n)(u:Value):Sat (w.setCell ⟨g,k,none⟩ u) (zhC p S (.slice (some ⟨g,0,none⟩) n cap) vs vi n (bl.set k u) sl m il X):=by
 unfold zhC at h ⊢;have h1:=zby (h.perm (show _=zaf TRp 1 (.slice (some ⟨g,0,none⟩) n cap) n bl*(pts p (.cells (rsC S.cfg (.slice (some ⟨g,0,none⟩) n cap) vs vi (!S.off) S.rleft) ze9 (0,0))*(zaf 3 1 vs n sl*(zaf TRp 1 vi m il*X))) from by ac_rfl)) hn (g:=g) (cap:=cap) rfl (j:=k) u;exact h1.perm (by ac_rfl)
theorem znQ {g cap k:Nat}(h:Sat w (zhC p S vb (.slice (some ⟨g,0,none⟩) n cap) vi n bl sl m il X))(hn:0<n)(u:Value):Sat (w.setCell ⟨g,k,none⟩ u) (zhC p S vb (.slice (some ⟨g,0,none⟩) n cap) vi n bl (sl.set k u) m il X):=by
 unfold zhC at h ⊢;have h1:=zby (h.perm (show _=zaf 3 1 (.slice (some ⟨g,0,none⟩) n cap) n sl*(pts p (.cells (rsC S.cfg vb (.slice (some ⟨g,0,none⟩) n cap) vi (!S.off) S.rleft) ze9 (0,0))*(zaf TRp 1 vb n bl*(zaf TRp 1 vi m il*X))) from by ac_rfl)) hn (g:=g) (cap:=cap) rfl (j:=k) u;exact h1.perm (by ac_rfl)
end
theorem zro {p:Nat}{S:zsg}{vb vs vi:Value}{ps qs:List Nat}{q:Nat}{D:zsh}{R F:zsi}:zha p S vb vs vi ps qs q D R F=zhC p S vb vs vi S.bays.length (ps.map zaB) (S.bays.map stV) S.images.length (qs.map zaB) (zbF RT q D*(R*(zbA RT qs S.images*F))):=rfl
theorem zkj (p:Nat)(S:zsg)(F:zsi)(d:Int)(w:World)(hS:Sat w (zad RS p S*F))(hil:S.images.length≤1000000):
  Calls prog 63 #[.pointer (some ⟨p,0,none⟩),d] w fun e w'=>e = .returned (.tuple #[.int .i64 (S.remove d).2.1,.int .i64 (S.remove d).2.2])∧Hid (Same w w'∧Sat w' (zad RS p (S.remove d).1*F)):=by
 have hwf:=zbm hS;have HST:=zh (zcj p S F d w hS);have HS:=zh hS
 by_cases h0:S.state d=0
 ·have hk:S.remove d=(S,0,1):=by unfold zsg.remove zsg.want;rw[if_pos h0];rfl
  rw[hk];rw[h0] at HST;clear hk h0 hwf hS hil;go_enter func63,ntmps63;go_wp2_with (go_at_call 41;refine HST.out.mono ?_;rintro e w1 ⟨rfl,rfl⟩);go_ret2;exact⟨rfl,Same.refl w,HS.out⟩
 ·obtain⟨hd0,hd1⟩:=zsg.state_in hwf h0
  obtain⟨k,rfl⟩:=Int.eq_ofNat_of_zero_le hd0
  have hkb:k<S.bays.length:=by omega
  obtain⟨vb,vs,vi,ps,qs,q,R,ho,hs⟩:=zcL hS (k:=k) hkb;obtain⟨gs,caps,rfl,c7,cs,-⟩:=zdV ho hs
  have hkd:S.remove (k:Int)=if S.state k=1 then ({ S.setBay k ⟨zsg.d0,2⟩ with images:=S.images++[(S.disk k).cut []] },(S.images.length:Int),0) else (S,0,15):=by
   unfold zsg.remove zsg.want;rw[if_neg h0]
   by_cases h1:S.state k=1
   ·rw[if_pos h1,decide_eq_true h1];simp
   ·rw[if_neg h1,decide_eq_false h1];simp
  have e0:(S.state (k:Int)==0)=false:=by simp[h0]
  obtain⟨n,hn⟩:∃ n,S.bays.length=n:=⟨_,rfl⟩;obtain⟨m,hm⟩:∃ m,S.images.length=m:=⟨_,rfl⟩;rw[hn] at c7 hd1;have HN:=(zd hn (And.intro hm hkb))
  by_cases h1:S.state (k:Int)=1
  case neg =>
   rw[if_neg h1] at hkd;rw[hkd]
   have e1:(S.state (k:Int) != 1)=true:=by simp[h1]
   generalize S.state (k:Int)=st at cs HST e0 e1;clear hs ho hwf hS hn hm hkd h0 h1 hil hkb;go_enter func63,ntmps63;go_wp2_with (go_at_call 41;refine HST.out.mono ?_;rintro e w1 ⟨rfl,rfl⟩);go_ret2;exact⟨rfl,Same.refl w,HS.out⟩
  case pos =>
   rw[if_pos h1] at hkd;rw[hkd];rw[h1] at cs HST;obtain⟨g,capb,rfl,c6,cq,-⟩:=zbw ho hs;rw[hn] at c6;have HWF:=zh hwf;rw[zcl] at hs;have HC:=zh (zk1 q (S.disk k) _ (.slice none 0 0) [] w hs (fun _ _=>IntsAt.nil _));have HO:=zh ho
   have hk0:(0:Int)≤(k:Int):=by omega
   have hm6:(m:Int)≤1000000:=by omega
   have HST1:=zh h1;clear hs ho hwf hS hn hkd h0 h1 e0 hil hkb HS hm;go_enter func63,ntmps63
   go_upto_region 6 with (first
    | (go_at_call 41;refine HST.out.mono ?_;rintro e w1 ⟨rfl,rfl⟩)
    | (go_at_call 111;refine HC.out.mono ?_;rintro e w1 ⟨rfl,h1⟩))
   clear HC HST c6 c7 cs cq
   have hA:Sat w1 (zhC p S (.slice (some ⟨g,0,none⟩) n capb) (.slice (some ⟨gs,0,none⟩) n caps) vi n (ps.map zaB) (S.bays.map stV) m (qs.map zaB) (zbF RT q ((S.disk k).cut [])*(R*(zbA RT qs S.images*F)))):=by
    have h:=h1.out.2;rw[← zcl,zro,HN.out.1,HN.out.2.1] at h;exact h
   have H1:=(zd h1.out.1 hA)
   have hn0:0<n:=by omega
   obtain⟨ao,cap,rfl⟩:=zal (show Sat w1 (zaf TRp 1 vi m (qs.map zaB)*_) from hA.right.right.right)
   have hS0:w1.drew.cell? ⟨p,6,none⟩=some (.slice (some ⟨g,0,none⟩) n capb)∧w1.drew.cell? ⟨p,8,none⟩=some (.slice ao m cap)∧w1.drew.cell? ⟨g,k,none⟩=some (.pointer (some ⟨q,0,none⟩)):=
    ⟨(zdC hA).1,(zdC hA).2.2.1,(zir hA hn0).1 k (zaB q) (by rw[List.getElem?_map,HO.out.at_];rfl)⟩
   refine zah (fun w'=>w'.cell? ⟨p,6,none⟩=some (.slice (some ⟨g,0,none⟩) n capb)∧w'.cell? ⟨p,8,none⟩=some (.slice ao m cap)∧w'.cell? ⟨g,k,none⟩=some (.pointer (some ⟨q,0,none⟩))) (by kernel_rfl) ?_
   replace H1:=(zd H1.out.1.drew H1.out.2.drew);clear hA h1;generalize w1.drew=W1 at hS0 H1 ⊢;(apply zaa 0 rfl rfl (by kernel_rfl) rfl);(rintro w' ⟨h1,h2,h3⟩;go_simp;rfl);exact hS0;simp only[zq];(apply zaa 1 rfl rfl (by kernel_rfl) rfl);(rintro w' ⟨h1,h2,h3⟩;go_simp;rfl);exact hS0;simp only[zq];(apply zaa 2 rfl rfl (by kernel_rfl) rfl);(rintro w' ⟨h1,h2,h3⟩;go_simp;rfl);exact hS0;simp only[zq];(apply zaa 3 rfl rfl (by kernel_rfl) rfl);(rintro w' ⟨h1,h2,h3⟩;go_simp;rfl);exact hS0;simp only[zq];(apply zaa 4 rfl rfl (by kernel_rfl) rfl);(rintro w' ⟨h1,h2,h3⟩;go_simp;rfl);exact hS0;simp only[zq]
   (apply zaa 5 rfl rfl (by kernel_rfl) rfl);(rintro w' ⟨h1,h2,h3⟩;go_simp;rfl);exact hS0;simp only[zq];(apply zaa 6 rfl rfl (by kernel_rfl) rfl);(rintro w' ⟨h1,h2,h3⟩;go_simp;rfl);exact hS0;simp only[zq];(apply zaa 7 rfl rfl (by kernel_rfl) rfl);(rintro w' ⟨h1,h2,h3⟩;go_simp;rfl);exact hS0;simp only[zq];(apply zaa 8 rfl rfl (by kernel_rfl) rfl);(rintro w' ⟨h1,h2,h3⟩;go_simp;rfl);exact hS0;simp only[zq];(apply zaa 9 rfl rfl (by kernel_rfl) rfl);(rintro w' ⟨h1,h2,h3⟩;go_simp;rfl);exact hS0;simp only[zq]
   (apply zaa 10 rfl rfl (by kernel_rfl) rfl);(rintro w' ⟨h1,h2,h3⟩;go_simp;rfl);exact hS0;simp only[zq];(apply zaa 11 rfl rfl (by kernel_rfl) rfl);(rintro w' ⟨h1,h2,h3⟩;go_simp;rfl);exact hS0;simp only[zq];have hA2:=(show Sat (W1.alloc (.cells #[.pointer (some ⟨q,0,none⟩)] TRp)) (pts W1.heap.size (.cells #[.pointer (some ⟨q,0,none⟩)] TRp (0,0))*zhC p S (.slice (some ⟨g,0,none⟩) n capb) (.slice (some ⟨gs,0,none⟩) n caps) (.slice ao m cap) n (ps.map zaB) (S.bays.map stV) m (qs.map zaB) (zbF RT q ((S.disk k).cut [])*(R*(zbA RT qs S.images*F)))) from H1.out.2.alloc _)
   have hS2:(W1.alloc (.cells #[.pointer (some ⟨q,0,none⟩)] TRp)).cell? ⟨p,6,none⟩=some (.slice (some ⟨g,0,none⟩) n capb)∧(W1.alloc (.cells #[.pointer (some ⟨q,0,none⟩)] TRp)).cell? ⟨p,8,none⟩=some (.slice ao m cap)∧(W1.alloc (.cells #[.pointer (some ⟨q,0,none⟩)] TRp)).cell? ⟨g,k,none⟩=some (.pointer (some ⟨q,0,none⟩)):=
    ⟨(zdC hA2.right).1,(zdC hA2.right).2.2.1,(zir hA2.right hn0).1 k (zaB q) (by rw[List.getElem?_map,HO.out.at_];rfl)⟩
   refine zaV 12 (.slice (some ⟨W1.heap.size,0,none⟩) 1 1) (W1.alloc (.cells #[.pointer (some ⟨q,0,none⟩)] TRp)) rfl rfl (by kernel_rfl) rfl (by go_simp) (hS2) ?_;simp only[zq];obtain⟨ti,hti,hz0,hts,hz2⟩:=info_parts znb
   have hA3:=hA2.perm (show _=zaf TRp 1 (.slice ao m cap) m (qs.map zaB)*(pts W1.heap.size (.cells #[.pointer (some ⟨q,0,none⟩)] TRp (0,0))*(pts p (.cells (rsC S.cfg (.slice (some ⟨g,0,none⟩) n capb) (.slice (some ⟨gs,0,none⟩) n caps) (.slice ao m cap) (!S.off) S.rleft) ze9 (0,0))*(zaf TRp 1 (.slice (some ⟨g,0,none⟩) n capb) n (ps.map zaB)*(zaf 3 1 (.slice (some ⟨gs,0,none⟩) n caps) n (S.bays.map stV)*(zbF RT q ((S.disk k).cut [])*(R*(zbA RT qs S.images*F))))))) from by unfold zhC;ac_rfl)
   obtain⟨v',w5,hr,hsm5,hs5⟩:=zaH (P:=prog) 84 84 TRp ti _ underlying84 hti hz0 (by rw[hts];rfl) (.slice ao m cap) m (qs.map zaB) (by rw[hts];exact hA3) ⟨W1.heap.size,0,none⟩ 1 1 [.pointer (some ⟨q,0,none⟩)] (by rw[hts];rfl)
    (by intro j u hu;rw[Addr.add_mid,zab hA3.right.block,Nat.zero_add];simpa using hu) (by simp[Value.oneCell']) (by unfold maxLen;omega) (by rw[hz2];omega)
   rw[hts] at hs5;obtain⟨ao',cap',rfl⟩:=zal hs5
   have hA5:=hs5.perm (show _=pts W1.heap.size (.cells #[.pointer (some ⟨q,0,none⟩)] TRp (0,0))*(pts p (.cells (rsC S.cfg (.slice (some ⟨g,0,none⟩) n capb) (.slice (some ⟨gs,0,none⟩) n caps) (.slice ao m cap) (!S.off) S.rleft) ze9 (0,0))*(zaf TRp 1 (.slice (some ⟨g,0,none⟩) n capb) n (ps.map zaB)*(zaf 3 1 (.slice (some ⟨gs,0,none⟩) n caps) n (S.bays.map stV)*(zaf TRp 1 (.slice ao' (m+1) cap') (m+1) (qs.map zaB++[.pointer (some ⟨q,0,none⟩)])*(zbF RT q ((S.disk k).cut [])*(R*(zbA RT qs S.images*F))))))) from by ac_rfl)
   have hA6:=hA5.right;have hq6:=zbN hA6;have hb6:=zaO hA6.right hn0
   have hS5:w5.cell? ⟨p,6,none⟩=some (.slice (some ⟨g,0,none⟩) n capb)∧w5.cell? ⟨p,8,none⟩=some (.slice ao m cap)∧w5.cell? ⟨g,k,none⟩=some (.pointer (some ⟨q,0,none⟩)):=by
    refine⟨hq6.1.1,hq6.1.2.2.1,?_⟩;obtain⟨g',cap',cur,e,_,hc,hf,_⟩:=hb6;simp only[Value.slice.injEq,Option.some.injEq,Addr.mk.injEq,and_true,true_and] at e;obtain⟨rfl,-⟩:=e;exact hc k (zaB q) (by rw[List.getElem?_map,HO.out.at_];rfl)
   refine zaV 13 (.slice ao' (m+1) cap') (w5) rfl rfl (by kernel_rfl) rfl (zbc rfl rfl rfl hr) (hS5) ?_;simp only[zq];(apply zaa 14 rfl rfl (by kernel_rfl) rfl);(rintro w' ⟨h1,h2,h3⟩;go_simp;rfl);exact hS5;simp only[zq];(apply zaa 15 rfl rfl (by kernel_rfl) rfl);(rintro w' ⟨h1,h2,h3⟩;go_simp;rfl);exact hS5;simp only[zq];obtain⟨ip,hip,hip2⟩:=Option.map_eq_some_iff.1 (show (prog.info? 84).map (·.size)=some 1 by kernel_rfl);refine zat 16 (w5.setCell ⟨p,8,none⟩ (.slice ao' (m+1) cap')) rfl rfl (by kernel_rfl) rfl (zay rfl rfl rfl hip hip2 rfl hS5.2.1 (zaj hA6.block 8)) ?_
   have H6:=zh (show Same w (w5.setCell ⟨p,8,none⟩ (.slice ao' (m+1) cap'))∧Sat (w5.setCell ⟨p,8,none⟩ (.slice ao' (m+1) cap')) (zhC p S (.slice (some ⟨g,0,none⟩) n capb) (.slice (some ⟨gs,0,none⟩) n caps) (.slice ao' (m+1) cap') n (ps.map zaB) (S.bays.map stV) (m+1) (qs.map zaB++[zaB q]) (zbF RT q ((S.disk k).cut [])*(R*(zbA RT qs S.images*F)))) from⟨((H1.out.1.alloc _).trans hsm5).setCell _ _,by
    have h9:=hA6.setCell (i:=8) (.slice ao' (m+1) cap');unfold zhC
    exact h9.perm (by unfold rsC zaB;simp only[zq])⟩)
   clear hS0 hS2 hS5 hA2 hA3 hs5 hA5 hA6 hq6 hb6 hr hsm5 hti hz0 hts hz2 hip hip2 ip H1;generalize w5.setCell ⟨p,8,none⟩ (.slice ao' (m+1) cap')=W6 at H6 ⊢;go_upto_region 7 with (fail)
   have hS0:W6.drew.cell? ⟨p,6,none⟩=some (.slice (some ⟨g,0,none⟩) n capb):=(zdC H6.out.2).1
   refine zah (fun w'=>w'.cell? ⟨p,6,none⟩=some (.slice (some ⟨g,0,none⟩) n capb)) (by kernel_rfl) ?_
   replace H6:=(zd H6.out.1.drew H6.out.2.drew);generalize W6.drew=W7 at hS0 H6 ⊢;(apply zaa 0 rfl rfl (by kernel_rfl) rfl);(intro w' h1;go_simp;rfl);exact hS0;simp only[zq];(apply zaa 1 rfl rfl (by kernel_rfl) rfl);(intro w' h1;go_simp;rfl);exact hS0;simp only[zq];(apply zaa 2 rfl rfl (by kernel_rfl) rfl);(intro w' h1;go_simp;rfl);exact hS0;simp only[zq];(apply zaa 3 rfl rfl (by kernel_rfl) rfl);(intro w' h1;go_simp;rfl);exact hS0;simp only[zq];(apply zaa 4 rfl rfl (by kernel_rfl) rfl);(intro w' h1;go_simp;rfl);exact hS0;simp only[zq]
   refine zan 5 rfl rfl (by kernel_rfl) rfl (f:=33) (args:=#[.int .i64 0]) (R:=fun v w'=>∃ q',v = .pointer (some ⟨q',0,none⟩)∧Hid (Same w w'∧Sat w' (zhC p S (.slice (some ⟨g,0,none⟩) n capb) (.slice (some ⟨gs,0,none⟩) n caps) (.slice ao' (m+1) cap') n (ps.map zaB) (S.bays.map stV) (m+1) (qs.map zaB++[zaB q]) (zbF RT q' zsg.d0*(zbF RT q ((S.disk k).cut [])*(R*(zbA RT qs S.images*F))))))) (by kernel_rfl)
    ((zf7 0 _ W7 H6.out.2).mono fun e w' h=>by
     obtain⟨q',rfl,hX⟩:=h;obtain⟨h1,h2⟩:=hX.out
     exact⟨_,rfl,q',rfl,H6.out.1.trans h1,h2.perm (by unfold zhC;show zbF RT q' zsg.d0*_=_;ac_rfl)⟩) ?_
   rintro _ w8 ⟨q',rfl,H8⟩;have hS8:w8.cell? ⟨p,6,none⟩=some (.slice (some ⟨g,0,none⟩) n capb):=(zdC H8.out.2).1;refine⟨hS8,?_⟩;simp only[zq];(apply zaa 6 rfl rfl (by kernel_rfl) rfl);(intro w' h1;go_simp;rfl);exact hS8;simp only[zq];have hb8:=zir H8.out.2 hn0;have hq8:w8.cell? ⟨g,k,none⟩=some (.pointer (some ⟨q,0,none⟩)):=hb8.1 k (zaB q) (by rw[List.getElem?_map,HO.out.at_];rfl);obtain⟨ip,hip,hip2⟩:=Option.map_eq_some_iff.1 (show (prog.info? TRp).map (·.size)=some 1 by kernel_rfl);refine zat 7 (w8.setCell ⟨g,k,none⟩ (.pointer (some ⟨q',0,none⟩))) rfl rfl (by kernel_rfl) rfl (zay rfl rfl rfl hip hip2 rfl hq8 (hb8.2 k)) ?_
   have H9:=(zd (H8.out.1.setCell ⟨g,k,none⟩ (.pointer (some ⟨q',0,none⟩))) (znP (k:=k) H8.out.2 hn0 (.pointer (some ⟨q',0,none⟩))));clear hS0 hS8 hb8 hq8 hip hip2 ip H8 H6;generalize w8.setCell ⟨g,k,none⟩ (.pointer (some ⟨q',0,none⟩))=W9 at H9 ⊢;have c7:W9.cell? ⟨p,7,none⟩=some (.slice (some ⟨gs,0,none⟩) n caps):=(zdC H9.out.2).2.1;have cs:=(zhU H9.out.2 hn0).1 k _ (by rw[List.getElem?_map,HO.out.bay];rfl);have fs:=(zhU H9.out.2 hn0).2 k;have H10:=(zd (H9.out.1.setCell ⟨gs,k,none⟩ (.int .i64 2)) (znQ (k:=k) H9.out.2 hn0 (.int .i64 2)))
   have c8:(W9.setCell ⟨gs,k,none⟩ (.int .i64 2)).cell? ⟨p,8,none⟩=some (.slice ao' (m+1) cap'):=(zdC H10.out.2).2.2.1;go_wp2;go_ret2;obtain⟨hn,hm,hkb⟩:=HN.out;refine⟨by rw[hm];try simp,H10.out.1,?_⟩
   have hb:(S.setBay k ⟨zsg.d0,2⟩).bays=S.bays.set k ⟨zsg.d0,2⟩:=by unfold zsg.setBay;rw[Int.toNat_natCast]
   have hw2:(S.setBay k ⟨zsg.d0,2⟩).WF:=HWF.out.setBay _ ⟨.inr (.inl rfl),fun h=>by cases h⟩;have hst:=HST1.out;refine za9.2 ⟨.slice (some ⟨g,0,none⟩) n capb,.slice (some ⟨gs,0,none⟩) n caps,.slice ao' (m+1) cap',ps.set k q',qs++[q],⟨⟨hw2.cfg,hw2.bays,hw2.st,?_,hw2.left⟩,?_,?_⟩,?_⟩
   ·intro D hD
    rcases List.mem_append.1 hD with h|h
    ·exact HWF.out.images D h
    ·rw[List.mem_singleton.1 h,zsh.cut_n]
     exact zsg.disk_n HWF.out hst
   ·show (ps.set k q').length=(S.setBay k ⟨zsg.d0,2⟩).bays.length
    rw[hb,List.length_set,List.length_set];exact HO.out.lb
   ·show (qs++[q]).length=(S.images++[(S.disk k).cut []]).length
    rw[List.length_append,List.length_append,HO.out.li];rfl
   ·have h:=H10.out.2
    unfold zhC at h
    show Sat _ (pts p (.cells (rsC S.cfg _ _ _ (!S.off) S.rleft) ze9 (0,0))*(zaf TRp 1 _ (S.setBay k ⟨zsg.d0,2⟩).bays.length ((ps.set k q').map zaB)*(zaf 3 1 _ (S.setBay k ⟨zsg.d0,2⟩).bays.length ((S.setBay k ⟨zsg.d0,2⟩).bays.map stV)*(zaf TRp 1 _ (S.images++[(S.disk k).cut []]).length ((qs++[q]).map zaB) *
     (zbA RT (ps.set k q') ((S.setBay k ⟨zsg.d0,2⟩).bays.map zsk.disk)*(zbA RT (qs++[q]) (S.images++[(S.disk k).cut []])*F))))))
    rw[hb,List.length_set,List.map_set,List.map_set,List.map_set,HO.out.set,zg4 _ _ _ _ HO.out.li,List.length_append,hm,hn,List.map_append];exact h.perm (by show pts p _*(zaf TRp 1 _ n _*(zaf 3 1 _ n _*(zaf TRp 1 _ (m+1) _*_)))=pts p _*(zaf TRp 1 _ n _*(zaf 3 1 _ n _*(zaf TRp 1 _ (m+1) _*_)));ac_rfl)
end Go.Proofs.YtmcclbiaoeilkaaGreat
end
