import Derived.Test.YtmcclbiaoeilkaaGreatQ08
set_option maxHeartbeats 1000000
set_option maxRecDepth 100000
/- Part 9 of a proof;the last part says what is proved. -/
section
namespace Go.Proofs.YtmcclbiaoeilkaaGreat
open Go.Proofs.Tryz Go.RowKit Go.Sl Go.ChangeMaps
set_option linter.unusedSimpArgs false in
theorem zom (p : Nat) (D : zsh) (F : zsi) (i : Int) (s : List UInt8) (w : World) (hS : Sat w (zak TD TS p D * F)) :
    Calls prog 93 #[.pointer (some ⟨p, 0, none⟩), i, .string ⟨s.toArray⟩] w fun e w' =>
      e = .returned (.int .i64 (D.write i s).2) ∧ Same w w' ∧ Sat w' (zak TD TS p (D.write i s).1 * F) := by
  obtain ⟨v, cb, ab, es, ck, l, es2, ck2, l2, ⟨hwf, hM, hK, hM2, hK2⟩, hs⟩ := zaI.1 hS
  obtain ⟨b, cap, rfl⟩ := zcu hs.right
  obtain ⟨q0, q1, q2⟩ := zaZ hs
  have hab : Sat w (pts ab (.map es2 ck2) * (pts p (.cells #[.slice b D.n cap, .map (some cb), .map (some ab)] TD (0, 0)) * (zcN TS D.n D.dur (.slice b D.n cap) * (pts cb (.map es ck) * F)))) := hs.perm (by ac_rfl)
  by_cases h : D.has i = true ∧ s.length = 64
  · have hwr : D.write i s = (D.put i.toNat s, 0) := if_pos h
    rw [hwr]
    clear hwr
    obtain ⟨h, hlen⟩ := h
    have h2 := zsh.has_iff.1 h
    obtain ⟨k, rfl⟩ := Int.eq_ofNat_of_zero_le h2.1
    have hd : (decide (0 ≤ (k : Int)) && decide ((k : Int) < (D.n : Int))) = true := h
    have hl0 := zeh (P := prog) (w := w) (E := 3) (z := .int .i64 0) underlying90 underlying3 (by kernel_rfl) hab.block hM2 (k : Int)
    have hlk0 := hK2 (k : Int)
    rw [if_pos h2.1] at hlk0
    simp only [Int.toNat_natCast] at hlk0
    obtain ⟨es3, ck3, hdel, hM3⟩ := zeg (P := prog) underlying90 underlying3 hab.block hM2 (k : Int)
    have hc1 := cell?_setMap hab.block es3 ck3
    have hf1 := frozen?_setMap hab.block es3 ck3
    have hsz : (⟨s.toArray⟩ : ByteArray).size = 64 := by show s.toArray.size = 64; simpa using hlen
    have hplt : p < (setBlock w ab (.map es3 ck3)).heap.size := by rw [ziy]; exact hs.lt
    have HM := zh hM
    have hs1 := (hab.setBlock (o' := .map es3 ck3)).perm (show _ = pts cb (.map es ck) * (pts p (.cells #[.slice b D.n cap, .map (some cb), .map (some ab)] TD (0, 0)) * (zcN TS D.n D.dur (.slice b D.n cap) * (pts ab (.map es3 ck3) * F))) from by ac_rfl)
    have HS1 := zh hs1
    clear hs1
    have HP := zh (hwf.put (i := k) (s := s) (by omega) hlen)
    have HK := zh hK
    have hK2d : KvInt (del l2 (k : Int)) (za7 D.armed k none) := hK2.del hM2.nodup h2.1
    have HK2 := zh hK2d
    clear hK2d
    have HL := zh hlen
    have HM3 := zh hM3
    cases har : D.armed k with
    | none =>
      have HA := zh har
      rw [har] at hlk0
      rw [hlk0] at hl0
      simp only [Option.map_none, Option.getD_none, Option.isSome_none] at hl0
      clear hlk0 har hK hM hM2 hK2 hwf hs hab hS h hM3 hlen
      go_enter func93, ntmps93
      go_upto_region 7 with (first
        | (go_at_call 118; refine (zcc _ _ _ _ _ _ q0).mono ?_; rintro e w' ⟨rfl, rfl⟩)
        | (at_delete; apply zbU (hrun := hdel); rfl; rfl; rfl; rfl))
      have hk1 : ((k : Int) != -1) = true := by rw [bne_iff_ne]; omega
      go_upto_region 8 with (fail)
      refine zah (fun w' => w'.cell? ⟨p, 1, none⟩ = some (.map (some cb))) (by kernel_rfl) ?_
      (apply zaa 0 rfl rfl (by kernel_rfl) rfl); (intro w' hw'; go_simp; rfl); go_simp; simp only [zq]
      (apply zaa 1 rfl rfl (by kernel_rfl) rfl); (intro w' hw'; go_simp; rfl); go_simp; simp only [zq]
      (apply zaa 2 rfl rfl (by kernel_rfl) rfl); (intro w' hw'; go_simp; rfl); go_simp; simp only [zq]
      (apply zaa 3 rfl rfl (by kernel_rfl) rfl); (intro w' hw'; go_simp; rfl); go_simp; simp only [zq]
      (apply zaa 4 rfl rfl (by kernel_rfl) rfl); (intro w' hw'; go_simp; rfl); go_simp; simp only [zq]
      (apply zaa 5 rfl rfl (by kernel_rfl) rfl); (intro w' hw'; go_simp; rfl); go_simp; simp only [zq]
      obtain ⟨W, cap1, hcv, hra, hbl⟩ := zkF HL.out (setBlock w ab (.map es3 ck3)).drew
      have hq1 : W.cell? ⟨p, 1, none⟩ = some (.map (some cb)) := by rw [hbl.cell (p := ⟨p, 1, none⟩) (by simpa using hplt)]; exact (hc1 _).trans q1
      refine zaV 6 (.slice (some ⟨(setBlock w ab (.map es3 ck3)).heap.size, 0, none⟩) 64 cap1) W rfl rfl (by kernel_rfl) rfl (by go_simp) hq1 ?_
      simp only [zq]
      refine zaa 7 (v := .pointer (some ⟨(setBlock w ab (.map es3 ck3)).heap.size, 0, none⟩)) rfl rfl (by kernel_rfl) rfl (fun _ _ => zgf rfl rfl underlying153 (Nat.le_refl 64)) hq1 ?_
      simp only [zq]
      refine zaV 8 (ziK s) W rfl rfl (by kernel_rfl) rfl (zbC rfl rfl (run_loadAt_mid W _ 0 TS (zaY s) _ hra underlying153 rfl (by rw [zgP HL.out, zcn, zao]))) hq1 ?_
      simp only [zq]
      have hSW := (HS1.out.drew.below hbl)
      obtain ⟨es4, ck4, hup, hM4⟩ := zbt (P := prog) underlying128 underlying3 hSW.block HM.out (k : Int) (ziK s)
      have hq2 : (setBlock W cb (.map es4 ck4)).cell? ⟨p, 1, none⟩ = some (.map (some cb)) := (cell?_setMap hSW.block es4 ck4 _).trans hq1
      refine zfP 9 (setBlock W cb (.map es4 ck4)) rfl rfl (by kernel_rfl) rfl (zdG rfl rfl rfl rfl hup) hq2 ?_
      refine zar (by kernel_rfl) ?_
      clear hup
      go_wp2
      go_ret
      refine ⟨rfl, ?_, ?_⟩
      · exact ((((Same.refl w).setBlock _).drew).below hbl).setBlock _
      ·
        have e : D.put k s = { D with cache := za7 D.cache k (some s) } := by unfold zsh.put; rw [HA.out]
        have hP := HP.out
        rw [e] at hP
        have hK2' := HK2.out
        rw [zfG HA.out] at hK2'
        rw [Int.toNat_natCast, e]
        exact zaI.2 ⟨.slice b D.n cap, cb, ab, es4, ck4, _, es3, ck3, _, ⟨hP, hM4, HK.out.upd h2.1 s, HM3.out, hK2'⟩, (hSW.setBlock (o' := .map es4 ck4)).perm (by ac_rfl)⟩
    | some j =>
      have ha := hwf.armed k j har
      by_cases hj : j = -1
      · subst hj
        have HA := zh har
        rw [har] at hlk0
        rw [hlk0] at hl0
        simp only [Option.map_some, Option.getD_some, Option.isSome_some] at hl0
        clear hlk0 har hK hM hM2 hK2 hwf hs hab hS h hM3 hlen ha
        go_enter func93, ntmps93
        go_wp2_with (first
          | (go_at_call 118; refine (zcc _ _ _ _ _ _ q0).mono ?_; rintro e w' ⟨rfl, rfl⟩)
          | (at_delete; apply zbU (hrun := hdel); rfl; rfl; rfl; rfl))
        go_ret
        refine ⟨rfl, (Same.refl w).setBlock _, ?_⟩
        have e : D.put k s = { D with armed := za7 D.armed k none } := by unfold zsh.put; rw [HA.out]; simp
        have hP := HP.out
        rw [e] at hP
        rw [Int.toNat_natCast, e]
        exact zaI.2 ⟨.slice b D.n cap, cb, ab, es, ck, _, es3, ck3, _, ⟨hP, HM.out, HK.out, HM3.out, HK2.out⟩, HS1.out.perm (by ac_rfl)⟩
      have h0j : 0 ≤ j := by omega
      obtain ⟨j, rfl⟩ := Int.eq_ofNat_of_zero_le h0j
      have hk1 : ((j : Int) != -1) = true := by rw [bne_iff_ne]; omega
      have HA := zh har
      rw [har] at hlk0
      rw [hlk0] at hl0
      simp only [Option.map_some, Option.getD_some, Option.isSome_some] at hl0
      clear hlk0 har hK hM hM2 hK2 hwf hs hab hS h hM3 hlen ha hj
      go_enter func93, ntmps93
      go_upto_region 7 with (first
        | (go_at_call 118; refine (zcc _ _ _ _ _ _ q0).mono ?_; rintro e w' ⟨rfl, rfl⟩)
        | (at_delete; apply zbU (hrun := hdel); rfl; rfl; rfl; rfl))
      
      go_upto_region 8 with (fail)
      refine zah (fun w' => w'.cell? ⟨p, 1, none⟩ = some (.map (some cb))) (by kernel_rfl) ?_
      (apply zaa 0 rfl rfl (by kernel_rfl) rfl); (intro w' hw'; go_simp; rfl); go_simp; simp only [zq]
      (apply zaa 1 rfl rfl (by kernel_rfl) rfl); (intro w' hw'; go_simp; rfl); go_simp; simp only [zq]
      (apply zaa 2 rfl rfl (by kernel_rfl) rfl); (intro w' hw'; go_simp; rfl); go_simp; simp only [zq]
      (apply zaa 3 rfl rfl (by kernel_rfl) rfl); (intro w' hw'; go_simp; rfl); go_simp; simp only [zq]
      (apply zaa 4 rfl rfl (by kernel_rfl) rfl); (intro w' hw'; go_simp; rfl); go_simp; simp only [zq]
      (apply zaa 5 rfl rfl (by kernel_rfl) rfl); (intro w' hw'; go_simp; rfl); go_simp; simp only [zq]
      obtain ⟨W, cap1, hcv, hra, hbl⟩ := zkF HL.out (setBlock w ab (.map es3 ck3)).drew
      have hq1 : W.cell? ⟨p, 1, none⟩ = some (.map (some cb)) := by rw [hbl.cell (p := ⟨p, 1, none⟩) (by simpa using hplt)]; exact (hc1 _).trans q1
      refine zaV 6 (.slice (some ⟨(setBlock w ab (.map es3 ck3)).heap.size, 0, none⟩) 64 cap1) W rfl rfl (by kernel_rfl) rfl (by go_simp) hq1 ?_
      simp only [zq]
      refine zaa 7 (v := .pointer (some ⟨(setBlock w ab (.map es3 ck3)).heap.size, 0, none⟩)) rfl rfl (by kernel_rfl) rfl (fun _ _ => zgf rfl rfl underlying153 (Nat.le_refl 64)) hq1 ?_
      simp only [zq]
      refine zaV 8 (ziK s) W rfl rfl (by kernel_rfl) rfl (zbC rfl rfl (run_loadAt_mid W _ 0 TS (zaY s) _ hra underlying153 rfl (by rw [zgP HL.out, zcn, zao]))) hq1 ?_
      simp only [zq]
      have hSW := (HS1.out.drew.below hbl)
      obtain ⟨es4, ck4, hup, hM4⟩ := zbt (P := prog) underlying128 underlying3 hSW.block HM.out (j : Int) (ziK s)
      have hq2 : (setBlock W cb (.map es4 ck4)).cell? ⟨p, 1, none⟩ = some (.map (some cb)) := (cell?_setMap hSW.block es4 ck4 _).trans hq1
      refine zfP 9 (setBlock W cb (.map es4 ck4)) rfl rfl (by kernel_rfl) rfl (zdG rfl rfl rfl rfl hup) hq2 ?_
      refine zar (by kernel_rfl) ?_
      clear hup
      go_wp2
      go_ret
      refine ⟨rfl, ?_, ?_⟩
      · exact ((((Same.refl w).setBlock _).drew).below hbl).setBlock _
      ·
        have e : D.put k s = { D with armed := za7 D.armed k none, cache := za7 D.cache j (some s) } := by
          unfold zsh.put; rw [HA.out]; simp only [show ¬ ((j : Int) = -1) by omega, if_false, Int.toNat_natCast]
        have hP := HP.out
        rw [e] at hP
        rw [Int.toNat_natCast, e]
        exact zaI.2 ⟨.slice b D.n cap, cb, ab, es4, ck4, _, es3, ck3, _, ⟨hP, hM4, HK.out.upd (by omega) s, HM3.out, HK2.out⟩, (hSW.setBlock (o' := .map es4 ck4)).perm (by ac_rfl)⟩
  · have hwr : D.write i s = (D, 1) := if_neg h
    rw [hwr]
    have HS := zh hS
    by_cases hh : D.has i = true
    · have hd : (decide (0 ≤ i) && decide (i < (D.n : Int))) = true := hh
      have hsz : ((((⟨s.toArray⟩ : ByteArray).size : Nat) : Int) != 64) = true := by
        rw [bne_iff_ne]
        intro hc
        have : s.toArray.size = 64 := by have : (⟨s.toArray⟩ : ByteArray).size = 64 := by omega
                                         exact this
        exact h ⟨hh, by simpa using this⟩
      obtain ⟨m, hm⟩ : ∃ m, (⟨s.toArray⟩ : ByteArray).size = m := ⟨_, rfl⟩
      rw [hm] at hsz
      clear hwr h hS hs hab hM hK hM2 hK2 hwf hh
      go_enter func93, ntmps93
      go_wp2_with (go_at_call 118; refine (zcc _ _ _ _ _ _ q0).mono ?_; rintro e w' ⟨rfl, rfl⟩)
      go_ret
      exact ⟨rfl, Same.refl w, HS.out⟩
    · have hd : (decide (0 ≤ i) && decide (i < (D.n : Int))) = false := by simpa [zsh.has] using hh
      clear hwr h hS hs hab hM hK hM2 hK2 hwf hh
      go_enter func93, ntmps93
      go_wp2_with (go_at_call 118; refine (zcc _ _ _ _ _ _ q0).mono ?_; rintro e w' ⟨rfl, rfl⟩)
      go_ret
      exact ⟨rfl, Same.refl w, HS.out⟩
theorem zoD (args:Array Value)(w:World):(callFunc 94 args).run prog w = .ok (.enter 94 args) w:=by kernel_rfl
theorem zjz (p:Nat)(S:zsg)(vb:Value)(F:zsi)(d:Int)(f:FuncId)(cap:Array Value)(D':zsh)(hcf:∀ args w,(callFunc f args).run prog w = .ok (.enter f args) w)(hn:D'.n=(S.disk d).n)(hd:S.state d≠0)
  (hex:S.state d=1→∀ w' q G,Sat w' (zak TD TS q (S.disk d)*(F*G))→Calls prog f (#[.agg #[zaB q,.int .i64 1]]++cap) w' fun e w''=>e = .returned (.tuple #[])∧Hid (Same w' w''∧Sat w'' (zak TD TS q D'*(F*G))))
  (w:World) (hV:Sat w (zc1 SH p S vb*F)):
  Calls prog 91 #[.pointer (some ⟨p,0,none⟩),d,.func (.func f) #[] cap] w fun e w'=>e = .returned (.int .i64 (S.step d fun _=>D').2)∧Hid (Same w w'∧Sat w' (zc1 SH p (S.step d fun _=>D').1 vb*F)):=by
 have hS:Sat w (zac SH p S*F):=zbf.2 ⟨vb,hV⟩;have hwf:=zaE hS;have h:=zsg.state_in hwf hd;have hacc:=zhE p S F d w hS hd
 have hst:S.step d (fun _=>D')=if S.off then (S,14) else if S.state d≠1 then (S,15)
  else if S.fused then (if S.left=0 then ({ S with off:=true,fused:=false },14) else (({ S with left:=S.left - 1 }:zsg).setDisk d D',0))
  else (S.setDisk d D',0):=rfl
 have HS:=zh hV
 by_cases ho:S.off=true
 ·rw[if_pos ho] at hst
  have ha:S.access d=14:=by unfold zsg.access;rw[if_pos ho]
  rw[hst];rw[ha] at hacc;clear hst hwf h hex hS hV ha ho hd;go_enter func91,ntmps91;go_wp2_with (go_at_call 120;refine hacc.mono ?_;rintro e w' ⟨rfl,rfl⟩);go_ret;exact⟨rfl,Same.refl w,HS.out⟩
 rw[if_neg ho] at hst
 by_cases h1:S.state d=1
 case neg =>
  rw[if_pos h1] at hst
  have ha:S.access d=15:=by unfold zsg.access;rw[if_neg ho,if_neg h1]
  rw[hst];rw[ha] at hacc;clear hst hwf h hex hS hV ha ho hd h1;go_enter func91,ntmps91;go_wp2_with (go_at_call 120;refine hacc.mono ?_;rintro e w' ⟨rfl,rfl⟩);go_ret;exact⟨rfl,Same.refl w,HS.out⟩
 rw[if_neg (by simp[h1])] at hst
 have ha:S.access d=0:=by unfold zsg.access;rw[if_neg ho,if_pos h1]
 rw[ha] at hacc;have HEX:=zh (hex h1)
 have hoff:S.off=false:=by simpa using ho
 obtain⟨k,rfl⟩:=Int.eq_ofNat_of_zero_le h.1;obtain⟨g,cap',q,vi,G,hvb,hs,⟨hpg,hg⟩,b0,b1,hf,hcl,hbc⟩:=zdh hV (d:=k) (by omega);have HVB:=zh hvb;rw[h1] at b1;have HCL:=zh hcl;have HBC:=zh hbc;have HWF:=zh hwf;have H1:=zh h1;have HN:=zh hn;have hk:=h.2;obtain⟨⟨q6,q7,q8,q9,q10⟩,hp,hfp,hra⟩:=zaU hs;have HSS:=zh hs;obtain⟨n,hnn⟩:∃ n,S.bays.length=n:=⟨_,rfl⟩;rw[hnn] at q6 hk;have HNN:=zh hnn;clear hcl hbc hex hS hV hvb hs ho ha hra h hnn hd hn;cases hfu:S.fused
 ·rw[hfu] at q9
  rw[if_neg (by simp[hfu])] at hst;rw[hst];have HFU:=zh hfu;clear hst hwf hfu h1;rw[hoff] at q8;go_enter func91,ntmps91
  go_wp2_with (first
   | (go_at_call 120;refine hacc.mono ?_;rintro e w' ⟨rfl,rfl⟩)
   | (refine (HEX.out _ q (pts p (.cells (zaJ S.cfg (.slice (some ⟨g,0,none⟩) S.bays.length cap') vi S.off S.fused S.left) TSh (0,0))*G) (HSS.out.perm (by ac_rfl))).mono ?_;rintro e w2 ⟨rfl,h2⟩))
  go_ret;exact⟨rfl,h2.out.1,HCL.out w2 (S.setDisk (k:Int) D') D' F (HWF.out.setDisk (by rw[H1.out];decide) HN.out) rfl rfl rfl (h2.out.2.perm (by simp only[zsg.setDisk,zsg.setBay];ac_rfl))⟩
 ·rw[hfu] at q9
  rw[if_pos (by simp[hfu])] at hst;have HFU:=zh hfu;have hlf:=hwf.left hfu;have hlf1:=hlf.1;have hlf2:=hlf.2
  by_cases hl:S.left=0
  ·rw[if_pos hl] at hst
   rw[hst];rw[hl] at q10
   have hfin:Sat ((w.setCell ⟨p,8,none⟩ (.bool true)).setCell ⟨p,9,none⟩ (.bool false)) (zc1 SH p { S with off:=true,fused:=false } vb*F):=by
    refine Sat.shelfSetV HS.out ⟨hwf.cfg,hwf.bays,hwf.st,hwf.images,fun h=>by cases h⟩ rfl rfl rfl ?_;rintro _ _ vb vi G rfl rfl h;exact (h.setCell _).setCell _
   have HF:=zh hfin;clear hst hwf hfu h1 hlf hfin hl hlf1 hlf2;rw[hoff] at q8;go_enter func91,ntmps91;go_wp2_with (go_at_call 120;refine hacc.mono ?_;rintro e w' ⟨rfl,rfl⟩);go_ret;exact⟨rfl,((Same.refl w).setCell _ _).setCell _ _,HF.out⟩
  ·rw[if_neg hl] at hst
   rw[hst]
   have hl1:(S.left==0)=false:=by simp[hl]
   have hs2:=HSS.out.setCell (i:=10) (.int .i64 (S.left - 1));have hs3:Sat (w.setCell ⟨p,10,none⟩ (.int .i64 (S.left - 1))) (pts p (.cells (zaJ S.cfg (.slice (some ⟨g,0,none⟩) S.bays.length cap') vi S.off S.fused (S.left - 1)) TSh (0,0))*(zak TD TS q (S.disk k)*(F*G))):=hs2;have HS3:=zh hs3;have HL:=zh (show S.fused=true→0≤S.left - 1∧S.left - 1<9223372036854775808 from fun _=>by omega)
   have hlf3:S.left - 1<9223372036854775808:=by omega
   have hlf4:0≤S.left - 1:=by omega
   clear hst hwf hfu h1 hl hs2 hs3 hlf;rw[hoff] at q8;generalize hle:S.left=lf at q10 hlf1 hlf2 hl1 hlf3 hlf4;have HLE:=zh hle;clear hle;go_enter func91,ntmps91
   go_wp2_with (first
    | (go_at_call 120;refine hacc.mono ?_;rintro e w' ⟨rfl,rfl⟩)
    | (rw[← HLE.out];refine (HEX.out _ q (pts p (.cells (zaJ S.cfg (.slice (some ⟨g,0,none⟩) S.bays.length cap') vi S.off S.fused (S.left - 1)) TSh (0,0))*G) (HS3.out.perm (by ac_rfl))).mono ?_;rintro e w2 ⟨rfl,h2⟩))
   go_ret;rw[← HLE.out];refine⟨rfl,((Same.refl w).setCell _ _).trans h2.out.1,HCL.out w2 (({ S with left:=S.left - 1 }:zsg).setDisk (k:Int) D') D' F ?_ rfl rfl rfl (h2.out.2.perm (by simp only[zsg.setDisk,zsg.setBay];ac_rfl))⟩;have hw2:({ S with left:=S.left - 1 }:zsg).WF:=⟨HWF.out.cfg,HWF.out.bays,HWF.out.st,HWF.out.images,HL.out⟩;exact hw2.setDisk (d:=(k:Int)) (by show S.state k≠0;rw[H1.out];decide) HN.out
theorem zpJ (p:Nat)(S:zsg)(F:zsi)(d:Int)(f:FuncId)(cap:Array Value)(D':zsh)(hcf:∀ args w,(callFunc f args).run prog w = .ok (.enter f args) w)(hn:D'.n=(S.disk d).n)(hd:S.state d≠0)
  (hex:S.state d=1→∀ w' q G,Sat w' (zak TD TS q (S.disk d)*(F*G))→Calls prog f (#[.agg #[zaB q,.int .i64 1]]++cap) w' fun e w''=>e = .returned (.tuple #[])∧Hid (Same w' w''∧Sat w'' (zak TD TS q D'*(F*G))))
  (w:World) (hS:Sat w (zac SH p S*F)):
  Calls prog 91 #[.pointer (some ⟨p,0,none⟩),d,.func (.func f) #[] cap] w fun e w'=>e = .returned (.int .i64 (S.step d fun _=>D').2)∧Hid (Same w w'∧Sat w' (zac SH p (S.step d fun _=>D').1*F)):=by
 obtain⟨vb,hV⟩:=zbf.1 hS
 exact (zjz p S vb F d f cap D' hcf hn hd hex w hV).mono fun e w' h=>⟨h.1,h.2.out.1,zbf.2 ⟨vb,h.2.out.2⟩⟩
theorem zqO (w:World):(zeroValue zct).run prog w = .ok (.agg #[.pointer none,.int .i64 0]) w:=by kernel_rfl
theorem zdI (x y:Value):(prog.info? zct).map (·.size)=some (#[x,y]:Array Value).size:=by
 show _=some 2
 kernel_rfl
theorem zmB (p:Nat)(S:zsg)(F:zsi)(a:zsj)(valid:Bool)(f:FuncId)(cap:Array Value)(w:World)(hS:Sat w (zac SH p S*F))(h:S.number a<0∨valid=false):
  Calls prog 71 #[.pointer (some ⟨p,0,none⟩),.agg (plA a),.bool valid,.func (.func f) #[] cap] w fun e w'=>e = .returned (.int .i64 1)∧Hid (Same w w'∧Sat w' (zac SH p S*F)):=by
 have HS:=zh hS;have hnum:=zdf p S F a (w.alloc (.cells (plA a) TPl)) (hS.allocKeep _)
 generalize S.number a=x at *
 clear hS
 by_cases h0:x<0
 ·have hb:decide (x<0)=true:=decide_eq_true h0
  clear h h0;go_enter func71,ntmps71;go_wp2_with (go_at_call 90;refine hnum.mono ?_;rintro e w' ⟨rfl,hb1⟩);go_ret;exact⟨rfl,((Same.refl w).alloc _).below hb1.out,(HS.out.allocKeep _).below hb1.out⟩
 ·have hb:decide (x<0)=false:=decide_eq_false h0
  obtain rfl:valid=false:=by rcases h with h|h;exact absurd h h0;exact h
  clear h h0;go_enter func71,ntmps71;go_wp2_with (go_at_call 90;refine hnum.mono ?_;rintro e w' ⟨rfl,hb1⟩);go_ret;exact⟨rfl,((Same.refl w).alloc _).below hb1.out,(HS.out.allocKeep _).below hb1.out⟩
def zq4 (st r:Int):Int:=if st=1 then r else 15
def ziL (p:Nat)(S:zsg)(F F':zsi)(d:Int)(D':zsh)(w':World):Prop:=if S.state d=1 then Sat w' (zac SH p (S.setDisk d D')*F') else Sat w' (zac SH p S*F)
theorem zpT (p:Nat)(S:zsg)(F F':zsi)(a:zsj)(f:FuncId)(cap:Array Value)(D':zsh)(r:Int)(hcf:∀ args w,(callFunc f args).run prog w = .ok (.enter f args) w)(hnum0:0≤S.number a)
  (hn:S.state a.disk=1→D'.n=(S.disk a.disk).n)
  (hex:S.state a.disk=1→∀ w' q G,Sat w' (zak TD TS q (S.disk a.disk)*(F*G))→Calls prog f (#[.agg #[zaB q,.int .i64 1],.int .i64 (S.number a)]++cap) w' fun e w''=>e = .returned (.int .i64 r)∧Hid (Same w' w''∧Sat w'' (zak TD TS q D'*(F'*G))))
  (w:World) (hS:Sat w (zac SH p S*F)):
  Calls prog 71 #[.pointer (some ⟨p,0,none⟩),.agg (plA a),.bool true,.func (.func f) #[] cap] w fun e w' =>
   e = .returned (.int .i64 (zq4 (S.state a.disk) r))∧Hid (Same w w'∧ziL p S F F' a.disk D' w'):=by
 have hwf:=zaE hS;have hnl:=zsg.number_lt hwf hnum0;have h:=zsg.state_in hwf hnl.1;have hnum:=zdf p S F a (w.alloc (.cells (plA a) TPl)) (hS.allocKeep _);have hS0:=(hS.alloc (.cells (plA a) TPl)).perm (show _=zac SH p S*(F*pts w.heap.size (.cells (plA a) TPl (0,0))) from by ac_rfl);have hSm0:=(Same.refl w).alloc (.cells (plA a) TPl);have HS:=(zd hSm0 hS0);have hb:decide (S.number a<0)=false:=decide_eq_false (by omega);obtain⟨⟨d,ar,ix⟩,ha⟩:∃ b:zsj,a=b:=⟨_,rfl⟩;subst ha
 simp only at *
 obtain⟨k,rfl⟩:=Int.eq_ofNat_of_zero_le h.1;have hk:=h.2;have HEX:=zh hex;have HN:=zh hn;have HWF:=zh hwf
 obtain⟨tib,htib⟩:∃ ti,prog.info? zct=some ti∧ti.size=2:=by have:=zdI (zaB 0) (zaB 0);obtain⟨ti,h1,h2⟩:=Option.map_eq_some_iff.1 this;exact⟨ti,h1,h2⟩
 have htb:=htib.1;have htb2:=htib.2;clear htib;obtain⟨nb,hnb⟩:∃ nb,S.number ⟨(k:Int),ar,ix⟩=nb:=⟨_,rfl⟩;rw[hnb] at hnum hb;have HNB:=zh hnb;clear hex hn hwf hS hnl h hS0 hSm0 hnb hnum0;go_enter func71,ntmps71;go_upto_region 4 with (go_at_call 90;refine hnum.mono ?_;rintro e w1 ⟨rfl,hb1⟩;replace HS:=(zd (HS.out.1.below hb1.out) (HS.out.2.below hb1.out));clear hb1)
 generalize w.heap.size=B at HS ⊢;obtain⟨g,cap',q,vi,G,hs,⟨hpg,hg⟩,b0,b1,hf,hcl,hbc⟩:=zeH HS.out.2 (d:=k) (by omega);have c0:w1.cell? ⟨B,0,none⟩=some (.int .i64 (k:Int)):=zab (HS.out.2.perm (show _=pts B (.cells (plA ⟨(k:Int),ar,ix⟩) TPl (0,0))*(zac SH p S*F) from by ac_rfl)).block 0;obtain⟨⟨q6,q7,q8,q9,q10⟩,hp,hfp,hra⟩:=zaU hs;have HSS:=zh hs;have HCL:=zh hcl;obtain⟨n,hnn⟩:∃ n,S.bays.length=n:=⟨_,rfl⟩;rw[hnn] at q6 hk;have HNN:=zh hnn
 have hra2:w1.rangeAt g (0+k*2) [zaB q,.int .i64 (S.state k)]:=by
  intro j u hu
  match j,hu with
  | 0,hu=>simp at hu;subst hu;rw[Nat.zero_add];exact b0
  | 1,hu=>simp at hu;subst hu;rw[Nat.zero_add];exact b1
 clear hcl hbc hs hra hnn hf hfp;obtain⟨st,hst⟩:∃ st,S.state (k:Int)=st:=⟨_,rfl⟩;rw[hst] at hra2 b1;have HST:=zh hst;clear hst;have hS0:w1.drew.cell? ⟨p,6,none⟩=some (.slice (some ⟨g,0,none⟩) n cap')∧w1.drew.cell? ⟨B,0,none⟩=some (.int .i64 (k:Int))∧w1.drew.rangeAt g (0+k*2) [zaB q,.int .i64 st]:=⟨q6,c0,hra2⟩
 refine zah (fun w'=>w'.cell? ⟨p,6,none⟩=some (.slice (some ⟨g,0,none⟩) n cap')∧w'.cell? ⟨B,0,none⟩=some (.int .i64 (k:Int))∧w'.rangeAt g (0+k*2) [zaB q,.int .i64 st]) (by kernel_rfl) ?_
 (apply zaa 0 rfl rfl (by kernel_rfl) rfl);(rintro w' ⟨h1,h2,h3⟩;go_simp;rfl);exact hS0;simp only[zq];(apply zaa 1 rfl rfl (by kernel_rfl) rfl);(rintro w' ⟨h1,h2,h3⟩;go_simp;rfl);exact hS0;simp only[zq];(apply zaa 2 rfl rfl (by kernel_rfl) rfl);(rintro w' ⟨h1,h2,h3⟩;go_simp;rfl);exact hS0;simp only[zq];(apply zaa 3 rfl rfl (by kernel_rfl) rfl);(rintro w' ⟨h1,h2,h3⟩;go_simp;rfl);exact hS0;simp only[zq];(apply zaa 4 rfl rfl (by kernel_rfl) rfl);(rintro w' ⟨h1,h2,h3⟩;go_simp;rfl);exact hS0;simp only[zq]
 (apply zaa 5 rfl rfl (by kernel_rfl) rfl);(rintro w' ⟨h1,h2,h3⟩;go_simp;rfl);exact hS0;simp only[zq];refine zaa 6 (v:=.pointer (some ⟨g,0+k*2,none⟩)) rfl rfl (by kernel_rfl) rfl (fun _ _=>zaw rfl rfl rfl underlying76 htb htb2 (by omega)) hS0 ?_;simp only[zq]
 refine zaa 7 (v:=.agg #[zaB q,st]) rfl rfl (by kernel_rfl) rfl (fun w' h=>zbC rfl rfl (run_loadAt_mid w' g (0+k*2) zct [zaB q,.int .i64 st] _ h.2.2 underlying83 rfl (zdI _ _))) hS0 ?_;simp only[zq]
 have hBlt:B<w1.heap.size:=World.block_lt_of_cell? _ _ c0;refine zaV 8 (.pointer (some ⟨w1.heap.size,0,none⟩)) (w1.drew.alloc (.cells #[.pointer none,.int .i64 0] zct)) rfl rfl (by kernel_rfl) rfl (zca rfl _ (zqO _)) (⟨(World.cell?_alloc_lt _ _ _ hp).trans q6,(World.cell?_alloc_lt _ _ _ hBlt).trans c0,fun j u hu=>(World.cell?_alloc_lt _ _ _ hg).trans (hra2 j u hu)⟩) ?_;simp only[zq];refine zat 9 (w1.drew.alloc (.cells #[zaB q,st] zct)) rfl rfl (by kernel_rfl) rfl (zb0 rfl zct _ _ rfl rfl (zdI _ _) rfl (by simp[zaB,Value.oneCell'])) ?_
 have hB:=HS.out.2
 by_cases h1:st=1
 ·subst h1
  have hex2:∀ w' q G,Sat w' (zak TD TS q (S.disk k)*(F*G))→Calls prog f (#[.agg #[zaB q,.int .i64 1],.int .i64 nb]++cap) w' fun e w''=>e = .returned (.int .i64 r)∧Hid (Same w' w''∧Sat w'' (zak TD TS q D'*(F'*G))):=by
   rw[← HNB.out];exact HEX.out HST.out
  have HEX2:=zh hex2;clear hex2 hB;go_wp2_with (refine (HEX2.out _ q (pts p (.cells (zaJ S.cfg (.slice (some ⟨g,0,none⟩) S.bays.length cap') vi S.off S.fused S.left) TSh (0,0))*(pts B (.cells (plA ⟨(k:Int),ar,ix⟩) TPl (0,0))*G)) ((HSS.out.drew.allocKeep _).perm (by ac_rfl))).mono ?_;rintro e w2 ⟨rfl,h2⟩);go_ret;unfold ziL zq4;rw[if_pos HST.out,if_pos HST.out];have hfin:=HCL.out w2 (S.setDisk (k:Int) D') D' (F'*pts B (.cells (plA ⟨(k:Int),ar,ix⟩) TPl (0,0))) (HWF.out.setDisk (by rw[HST.out];decide) (HN.out HST.out)) rfl rfl rfl (h2.out.2.perm (by simp only[zsg.setDisk,zsg.setBay];ac_rfl))
  exact⟨rfl,(HS.out.1.drew.alloc _).trans h2.out.1,(hfin.perm (show _=pts B (.cells (plA ⟨(k:Int),ar,ix⟩) TPl (0,0))*(zac SH p (S.setDisk (k:Int) D')*F') from by ac_rfl)).right⟩
 ·have h1b:(st==1)=false:=by simp[h1]
  clear hB;go_wp2;go_ret;unfold ziL zq4;rw[if_neg (by rw[HST.out];exact h1),if_neg (by rw[HST.out];exact h1)];exact⟨rfl,HS.out.1.drew.alloc _,((HS.out.2.drew.allocKeep _).perm (show _=pts B (.cells (plA ⟨(k:Int),ar,ix⟩) TPl (0,0))*(zac SH p S*F) from by ac_rfl)).right⟩
abbrev zbP:TypeId:=3
abbrev zbg:TypeId:=9
def zae (s:List UInt8):ByteArray:=⟨s.toArray⟩
theorem zap (s:List UInt8):(zae s).size=s.length:=by show s.toArray.size=_;simp
theorem zoE (args:Array Value)(w:World):(callFunc 92 args).run prog w = .ok (.enter 92 args) w:=by kernel_rfl
theorem zlF (q:Nat)(D:zsh)(G:zsi)(w:World)(hS:Sat w (zak TD TS q D*G)):
  Calls prog 94 (#[.agg #[zaB q,.int .i64 1]]++#[]) w fun e w'=>e = .returned (.tuple #[])∧Hid (Same w w'∧Sat w' (zak TD TS q D.flush*G)):=by
 have HS:=zh hS;clear hS;show Calls prog 94 #[.agg #[zaB q,.int .i64 1]] w _;unfold zaB;go_enter func94,ntmps94;go_wp2_with (go_at_call 95;refine (zmZ q D G _ (HS.out.allocKeep _)).mono ?_;rintro e w' ⟨rfl,h1,h2⟩;have H:=(zd h1 h2);clear h1 h2)
 first|go_end0|go_ret
 exact⟨rfl,((Same.refl w).alloc _).trans H.out.1,H.out.2⟩
theorem zmn (q nB sB:Nat)(n:Int)(s:List UInt8)(D:zsh)(F G:zsi)(w:World)(hS:Sat w (zak TD TS q D*((pts nB (.cells #[n] zbP (0,0))*(pts sB (.cells #[.string (zae s)] zbg (0,0))*F))*G))):
  Calls prog 92 (#[.agg #[zaB q,.int .i64 1]]++#[zaB nB,zaB sB]) w fun e w'=>e = .returned (.tuple #[])∧Hid (Same w w'∧Sat w' (zak TD TS q (D.write n s).1*((pts nB (.cells #[n] zbP (0,0))*(pts sB (.cells #[.string (zae s)] zbg (0,0))*F))*G))):=by
 have HS:=zh hS;have c0:w.cell? ⟨nB,0,none⟩=some (.int .i64 n):=zab (hS.perm (show _=pts nB (.cells #[n] zbP (0,0))*(zak TD TS q D*(pts sB (.cells #[.string (zae s)] zbg (0,0))*F*G)) from by ac_rfl)).block 0;have c1:w.cell? ⟨sB,0,none⟩=some (.string (zae s)):=zab (hS.perm (show _=pts sB (.cells #[.string (zae s)] zbg (0,0))*(zak TD TS q D*(pts nB (.cells #[n] zbP (0,0))*F*G)) from by ac_rfl)).block 0;have l0:=World.block_lt_of_cell? _ _ c0;have l1:=World.block_lt_of_cell? _ _ c1;simp only at l0 l1
 clear hS;show Calls prog 92 #[.agg #[zaB q,.int .i64 1],zaB nB,zaB sB] w _;unfold zaB;go_enter func92,ntmps92;go_wp2_with (go_at_call 93;refine (zom q D _ n s _ (HS.out.allocKeep _)).mono ?_;rintro e w' ⟨rfl,h1,h2⟩;have H:=(zd h1 h2);clear h1 h2)
 first|go_end0|go_ret
 exact⟨rfl,((Same.refl w).alloc _).trans H.out.1,H.out.2⟩
theorem zhj (p:Nat)(S:zsg)(vb:Value)(F:zsi)(d:Int)(w:World)(hV:Sat w (zc1 SH p S vb*F)):
  Calls prog 45 #[.pointer (some ⟨p,0,none⟩),d] w fun e w'=>e = .returned (.int .i64 (S.flush d).2)∧Hid (Same w w'∧Sat w' (zc1 SH p (S.flush d).1 vb*F)):=by
 have hS:Sat w (zac SH p S*F):=zbf.2 ⟨vb,hV⟩;have HS:=zh hV;have hst:=zdY p S F d w hS
 have hfl:S.flush d=if S.state d=0 then (S,1) else S.step d fun _=>(S.disk d).flush:=rfl
 by_cases h0:S.state d=0
 ·rw[if_pos h0] at hfl
  rw[hfl];rw[h0] at hst;clear hfl h0 hS hV;go_enter func45,ntmps45;go_wp2_with (go_at_call 36;refine hst.mono ?_;rintro e w' ⟨rfl,rfl⟩);go_ret;exact⟨rfl,Same.refl w,HS.out⟩
 ·rw[if_neg h0] at hfl
  rw[hfl]
  have hb:(S.state d==0)=false:=by simp[h0]
  have hstep:=zjz p S vb F d 94 #[] (S.disk d).flush zoD rfl h0 (fun _ w' q G h=>zlF q (S.disk d) (F*G) w' h) w hV
  generalize S.state d=st at *
  clear hfl h0 hS hV;go_enter func45,ntmps45
  go_wp2_with (first
   | (go_at_call 36;refine hst.mono ?_;rintro e w' ⟨rfl,rfl⟩)
   | (go_at_call 91;refine hstep.mono ?_;rintro e w2 ⟨rfl,h2⟩))
  go_ret;exact⟨rfl,h2⟩
theorem zhY (p:Nat)(S:zsg)(F:zsi)(d:Int)(w:World)(hS:Sat w (zac SH p S*F)):
  Calls prog 45 #[.pointer (some ⟨p,0,none⟩),d] w fun e w'=>e = .returned (.int .i64 (S.flush d).2)∧Hid (Same w w'∧Sat w' (zac SH p (S.flush d).1*F)):=by
 obtain⟨vb,hV⟩:=zbf.1 hS
 exact (zhj p S vb F d w hV).mono fun e w' h=>⟨h.1,h.2.out.1,zbf.2 ⟨vb,h.2.out.2⟩⟩
theorem zml (p:Nat)(S:zsg)(F:zsi)(a:zsj)(s:List UInt8)(w:World)(hS:Sat w (zac SH p S*F))(h:S.number a<0∨s.length≠64):
  Calls prog 43 #[.pointer (some ⟨p,0,none⟩),.agg (plA a),.string (zae s)] w fun e w'=>e = .returned (.int .i64 1)∧Hid (Same w w'∧Sat w' (zac SH p S*F)):=by
 have hnum:=fun o1 o2=>zdf p S F a ((w.alloc o1).alloc o2) ((hS.allocKeep o1).allocKeep o2)
 replace hnum:=hnum (.cells (plA a) TPl) (.cells #[.string (zae s)] zbg);have hs1:(zae s).size=s.length:=zap s;obtain⟨b,hb⟩:∃ b,zae s=b:=⟨_,rfl⟩;rw[hb] at hs1 hnum ⊢
 generalize S.number a=x at *
 have HS:=zh hS;have HB:=zh hb;clear hS hb
 by_cases h0:x<0
 ·have hb:decide (x<0)=true:=decide_eq_true h0
  clear h h0;go_enter func43,ntmps43;go_wp2_with (go_at_call 90;refine hnum.mono ?_;rintro e w1 ⟨rfl,hb1⟩;replace HS:=(zd (((((Same.refl w).alloc _).alloc _).below hb1.out).alloc (.cells #[x] zbP)) ((((HS.out.allocKeep _).allocKeep _).below hb1.out).allocKeep (.cells #[x] zbP)));clear hb1);go_ret;exact⟨rfl,HS.out⟩
 ·have hb:decide (x<0)=false:=decide_eq_false h0
  have hne:s.length≠64:=by rcases h with h|h;exact absurd h h0;exact h
  have hlb:((b.size:Int) != 64)=true:=by rw[bne_iff_ne];omega
  clear h h0 hs1 hne;go_enter func43,ntmps43;go_upto_region 2 with (go_at_call 90;refine hnum.mono ?_;rintro e w1 ⟨rfl,hb1⟩)
  have hS0:=HS.out;have hA:=((((hS0.alloc (.cells (plA a) TPl)).alloc (.cells #[.string b] zbg)).below hb1.out).alloc (.cells #[x] zbP));have hSm:=((((Same.refl w).alloc (.cells (plA a) TPl)).alloc (.cells #[.string b] zbg)).below hb1.out).alloc (.cells #[x] zbP);rw[World.size_alloc] at hA;clear hb1 hS0;generalize w1.alloc (.cells #[x] zbP)=W at hA hSm ⊢;generalize w1.heap.size=B2 at hA ⊢;generalize w.heap.size+1=B1 at hA ⊢;generalize w.heap.size=B0 at hA ⊢;have q2:W.cell? ⟨B2,0,none⟩=some (.int .i64 x):=zab hA.block 0
  have q1:W.cell? ⟨B1,0,none⟩=some (.string b):=zab hA.right.block 0;have q0:W.cell? ⟨B0,0,none⟩=some (.int .i64 a.disk):=zab hA.right.right.block 0;have HA:=(zd hSm hA);clear hA hSm;go_wp2;go_ret;exact⟨rfl,HA.out.1,HA.out.2.right.right.right⟩
theorem zn7 (p:Nat)(S:zsg)(F:zsi)(a:zsj)(s:List UInt8)(w:World)(hS:Sat w (zac SH p S*F))(h0:0≤S.number a)(hl:s.length=64):
  Calls prog 43 #[.pointer (some ⟨p,0,none⟩),.agg (plA a),.string (zae s)] w fun e w'=>e = .returned (.int .i64 (S.step a.disk fun D=>(D.write (S.number a) s).1).2)∧Hid (Same w w'∧Sat w' (zac SH p (S.step a.disk fun D=>(D.write (S.number a) s).1).1*F)):=by
 rw[zsg.step_const]
 have hnum:=fun o1 o2=>zdf p S F a ((w.alloc o1).alloc o2) ((hS.allocKeep o1).allocKeep o2)
 replace hnum:=hnum (.cells (plA a) TPl) (.cells #[.string (zae s)] zbg)
 have hs1:(zae s).size=64:=by rw[zap,hl]
 have hst:=(zsg.number_lt (zaE hS) h0).1
 have hstep:=fun (nB sB:Nat) (F:zsi)=>zpJ p S (pts nB (.cells #[.int .i64 (S.number a)] zbP (0,0))*(pts sB (.cells #[.string (zae s)] zbg (0,0))*F)) a.disk 92 #[zaB nB,zaB sB] ((S.disk a.disk).write (S.number a) s).1 zoE (zsh.write_n _ _ _) hst
  (fun _ w' q G h=>zmn q nB sB _ s _ F G w' h)
 have HSTEP:=zh hstep;obtain⟨b,hb⟩:∃ b,zae s=b:=⟨_,rfl⟩;rw[hb] at hs1 hnum ⊢;obtain⟨x,hx⟩:∃ x,S.number a=x:=⟨_,rfl⟩;rw[hx] at hnum h0 ⊢;have HX:=zh hx;have HB:=zh hb;have hS0:=hS;have hbd:decide (x<0)=false:=decide_eq_false (by omega);clear hS hb hx hst hstep hl h0;have HS0:=zh hS0;clear hS0;go_enter func43,ntmps43;go_upto_region 2 with (go_at_call 90;refine hnum.mono ?_;rintro e w1 ⟨rfl,hb1⟩)
 have hS0:=HS0.out;have hA:=((((hS0.alloc (.cells (plA a) TPl)).alloc (.cells #[.string b] zbg)).below hb1.out).alloc (.cells #[x] zbP));have hSm:=((((Same.refl w).alloc (.cells (plA a) TPl)).alloc (.cells #[.string b] zbg)).below hb1.out).alloc (.cells #[x] zbP);rw[World.size_alloc] at hA;clear hb1 hS0;generalize w1.alloc (.cells #[x] zbP)=W at hA hSm ⊢;generalize w1.heap.size=B2 at hA ⊢;generalize w.heap.size+1=B1 at hA ⊢;generalize w.heap.size=B0 at hA ⊢;have q2:W.cell? ⟨B2,0,none⟩=some (.int .i64 x):=zab hA.block 0
 have q1:W.cell? ⟨B1,0,none⟩=some (.string b):=zab hA.right.block 0;have q0:W.cell? ⟨B0,0,none⟩=some (.int .i64 a.disk):=zab hA.right.right.block 0;have HA:=(zd hSm hA);clear hA hSm
 have hlb:((b.size:Int) != 64)=false:=by rw[hs1];rfl
 have hc:=HSTEP.out B2 B1 (pts B0 (.cells (plA a) TPl (0,0))*F) W (by rw[HX.out,HB.out];exact HA.out.2.perm (by ac_rfl));unfold zaB at hc;go_wp2_with (go_at_call 91;refine hc.mono ?_;rintro e w2 ⟨rfl,h2⟩;clear hc);go_ret;rw[← HX.out];exact⟨rfl,HA.out.1.trans h2.out.1,(h2.out.2.perm (show _=pts B2 (.cells #[.int .i64 (S.number a)] zbP (0,0))*(pts B1 (.cells #[.string (zae s)] zbg (0,0))*(pts B0 (.cells (plA a) TPl (0,0))*(zac SH p _*F))) from by ac_rfl)).right.right.right⟩
theorem zh4 (p:Nat)(S:zsg)(F:zsi)(a:zsj)(s:List UInt8)(w:World)(hS:Sat w (zac SH p S*F)):
  Calls prog 43 #[.pointer (some ⟨p,0,none⟩),.agg (plA a),.string (zae s)] w fun e w'=>e = .returned (.int .i64 (S.write a s).2)∧Hid (Same w w'∧Sat w' (zac SH p (S.write a s).1*F)):=by
 by_cases h:S.number a<0∨s.length≠64
 ·have e:S.write a s=(S,1):=if_pos h
  rw[e];exact zml p S F a s w hS h
 ·have e:S.write a s=S.step a.disk fun D=>(D.write (S.number a) s).1:=if_neg h
  rw[e];exact zn7 p S F a s w hS (by omega) (by omega)
end Go.Proofs.YtmcclbiaoeilkaaGreat
end
