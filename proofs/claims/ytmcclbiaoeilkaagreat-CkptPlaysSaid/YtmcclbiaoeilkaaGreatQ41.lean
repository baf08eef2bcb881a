import Derived.Test.YtmcclbiaoeilkaaGreatQ40
set_option maxHeartbeats 8000000
set_option maxRecDepth 20000
/- Part 41 of a proof;the last part says what is proved. -/
section
namespace Go.Proofs.YtmcclbiaoeilkaaGreat
open Go.Proofs.Tryz Go.RowKit Go.Sl Go.ChangeMaps
theorem zmo (D:zsh)(i:Int)(s:List UInt8)(h:D.has i=true)(hs:s.length=64):(D.write i s).2=0:=by
 unfold zsh.write;split
 ·rfl
 ·rename_i hn;exact absurd (by simp[h,hs]) hn
theorem zgl (p:Nat)(S:zsg)(F:zsi)(a:zsj)(s:List UInt8)(w:World)(hS:Sat w (zad RS p S*F)):
  Calls prog 56 #[.pointer (some ⟨p,0,none⟩),.agg (plA a),.string (zh2 s)] w fun e w'=>e = .returned (.int .i64 (S.write a s).2)∧Hid (Same w w'∧Sat w' (zad RS p (S.write a s).1*F)):=by
 have hwf:=zbm hS;obtain⟨d,ar,ix⟩:=a;have HA:=zh (show Same w (w.alloc (.cells (plA ⟨d,ar,ix⟩) TPl))∧Sat (w.alloc (.cells (plA ⟨d,ar,ix⟩) TPl)) (zad RS p S*(pts w.heap.size (.cells (plA ⟨d,ar,ix⟩) TPl (0,0))*F)) from⟨(Same.refl w).alloc _,(hS.alloc (.cells (plA ⟨d,ar,ix⟩) TPl)).perm (by ac_rfl)⟩)
 have HNB:=zh (fun G W (h:Sat W (zad RS p S*G))=>zcx p S G ⟨d,ar,ix⟩ W h)
 have hsz:(zh2 s).size=s.length:=by unfold zh2;simp[ByteArray.size]
 have hwr:S.write ⟨d,ar,ix⟩ s=if S.number ⟨d,ar,ix⟩<0∨s.length≠64 then (S,1) else S.step d fun D=>(D.write (S.number ⟨d,ar,ix⟩) s).1:=rfl
 clear hS
 by_cases hn:S.number ⟨d,ar,ix⟩<0
 ·rw[if_pos (.inl hn)] at hwr
  rw[hwr];rw[show zeU S ⟨d,ar,ix⟩=0 by unfold zeU;rw[if_pos hn],decide_eq_false (by omega:¬ 0≤S.number ⟨d,ar,ix⟩)] at HNB;clear hwr hn hwf
  generalize zh2 s=ss at *
  go_enter func56,ntmps56;go_upto_region 1 with (fail)
  unfold plA at HA;generalize w.alloc _=W1 at HA ⊢;generalize w.heap.size=B at HA ⊢;have hbx:=HA.out.2.perm (show _=pts B (.cells #[d,ar,ix] TPl (0,0))*(zad RS p S*F) from by ac_rfl);have b0:W1.cell? ⟨B,0,none⟩=some (.int .i64 d):=zab hbx.block 0;have b1:W1.cell? ⟨B,1,none⟩=some (.int .i64 ar):=zab hbx.block 1;have b2:W1.cell? ⟨B,2,none⟩=some (.int .i64 ix):=zab hbx.block 2;clear hbx
  go_wp2_with (first
   | (go_at_call 74;refine (HNB.out _ W1 HA.out.2).mono ?_;rintro e w2 ⟨rfl,hb⟩;clear b0 b1 b2;have H2:=(zd (HA.out.1.below hb) (HA.out.2.below hb));clear hb;have b0:w2.cell? ⟨B,0,none⟩=some (.int .i64 d):=zab (H2.out.2.perm (show _=pts B (.cells #[d,ar,ix] TPl (0,0))*(zad RS p S*F) from by ac_rfl)).block 0))
  go_ret;exact⟨rfl,H2.out.1,(H2.out.2.perm (show _=pts B (.cells #[d,ar,ix] TPl (0,0))*(zad RS p S*F) from by ac_rfl)).right⟩
 have hnm:zeU S ⟨d,ar,ix⟩=S.number ⟨d,ar,ix⟩:=by unfold zeU;rw[if_neg hn]
 rw[hnm,decide_eq_true (by omega:0≤S.number ⟨d,ar,ix⟩)] at HNB
 by_cases hl:s.length=64
 case neg =>
  rw[if_pos (.inr hl)] at hwr;rw[hwr]
  have hne:((s.length:Int) != 64)=true:=by simp;omega
  generalize S.number ⟨d,ar,ix⟩=nu at HNB;clear hwr hn hwf hl hnm
  generalize zh2 s=ss at *
  go_enter func56,ntmps56;go_upto_region 1 with (fail)
  unfold plA at HA;generalize w.alloc _=W1 at HA ⊢;generalize w.heap.size=B at HA ⊢;have hbx:=HA.out.2.perm (show _=pts B (.cells #[d,ar,ix] TPl (0,0))*(zad RS p S*F) from by ac_rfl);have b0:W1.cell? ⟨B,0,none⟩=some (.int .i64 d):=zab hbx.block 0;have b1:W1.cell? ⟨B,1,none⟩=some (.int .i64 ar):=zab hbx.block 1;have b2:W1.cell? ⟨B,2,none⟩=some (.int .i64 ix):=zab hbx.block 2;clear hbx
  go_wp2_with (first
   | (go_at_call 74;refine (HNB.out _ W1 HA.out.2).mono ?_;rintro e w2 ⟨rfl,hb⟩;clear b0 b1 b2;have H2:=(zd (HA.out.1.below hb) (HA.out.2.below hb));clear hb;have b0:w2.cell? ⟨B,0,none⟩=some (.int .i64 d):=zab (H2.out.2.perm (show _=pts B (.cells #[d,ar,ix] TPl (0,0))*(zad RS p S*F) from by ac_rfl)).block 0))
  go_ret;exact⟨rfl,H2.out.1,(H2.out.2.perm (show _=pts B (.cells #[d,ar,ix] TPl (0,0))*(zad RS p S*F) from by ac_rfl)).right⟩
 have hne:((s.length:Int) != 64)=false:=by simp[hl]
 rw[if_neg (by intro h;rcases h with h|h;exact hn h;exact h hl)] at hwr;have hlt:=zsg.number_lt hwf (a:=⟨d,ar,ix⟩) (by omega);dsimp only at hlt;obtain⟨hd0,hd1⟩:=zsg.state_in hwf hlt.1;obtain⟨k,rfl⟩:=Int.eq_ofNat_of_zero_le hd0
 have hkb:k<S.bays.length:=by omega
 have HRD:=zh (fun G W (h:Sat W (zad RS p S*G))=>zf8 p S G k hkb W h)
 have HST0:=zh hlt.1;have HLT:=zh hlt.2.2.2.2.2.2;have HWF0:=zh hwf;obtain⟨nu,hnu⟩:∃ nu,nu=S.number ⟨(k:Int),ar,ix⟩:=⟨_,rfl⟩;rw[← hnu] at HNB hwr HLT hn;have HNU:=zh hn;have HL:=zh hl;clear hnu hnm hlt hd0 hd1 hwf hn hl
 by_cases ha:S.access (k:Int)=0
 case neg =>
  rw[hwr,zsg.step_acc _ ha]
  have e1:(S.access (k:Int) != 0)=true:=by simp[ha]
  clear hwr ha hkb HST0 HLT HWF0
  generalize S.access (k:Int)=ac at *
  generalize zh2 s=ss at *
  go_enter func56,ntmps56;go_upto_region 1 with (fail)
  unfold plA at HA;generalize w.alloc _=W1 at HA ⊢;generalize w.heap.size=B at HA ⊢;have hbx:=HA.out.2.perm (show _=pts B (.cells #[(k:Int),ar,ix] TPl (0,0))*(zad RS p S*F) from by ac_rfl);have b0:W1.cell? ⟨B,0,none⟩=some (.int .i64 (k:Int)):=zab hbx.block 0;have b1:W1.cell? ⟨B,1,none⟩=some (.int .i64 ar):=zab hbx.block 1;have b2:W1.cell? ⟨B,2,none⟩=some (.int .i64 ix):=zab hbx.block 2;clear hbx
  go_wp2_with (first
   | (go_at_call 74;refine (HNB.out _ W1 HA.out.2).mono ?_;rintro e w2 ⟨rfl,hb⟩;clear b0 b1 b2;have H2:=(zd (HA.out.1.below hb) (HA.out.2.below hb));clear hb;have b0:w2.cell? ⟨B,0,none⟩=some (.int .i64 (k:Int)):=zab (H2.out.2.perm (show _=pts B (.cells #[(k:Int),ar,ix] TPl (0,0))*(zad RS p S*F) from by ac_rfl)).block 0)
   | (go_at_call 106;refine (HRD.out _ w2 H2.out.2).mono ?_;rintro e w3 ⟨rfl,rfl⟩))
  go_ret;exact⟨rfl,H2.out.1,(H2.out.2.perm (show _=pts B (.cells #[(k:Int),ar,ix] TPl (0,0))*(zad RS p S*F) from by ac_rfl)).right⟩
 case pos =>
  have hac:=ha;rw[ha] at HRD;rw[hwr,zsg.step_tick _ ha]
  have HTK:=zh (fun G W (h:Sat W (zad RS p S*G))=>zjr p S G W h)
  obtain⟨hb1,-,-⟩:=S.tick_bays;obtain⟨hs1,hs2⟩:=S.tick_bay (k:Int);have HWF:=zh (zsg.tick_wf HWF0.out);have HB:=(zd hb1 (And.intro hs1 hs2))
  have h1:S.state (k:Int)=1:=by
   unfold zsg.access at hac;split at hac
   ·cases hac
   ·split at hac
    ·assumption
    ·cases hac
  have HDN:=zh (zsg.disk_n HWF0.out h1);clear hwr ha hac hb1 hs1 hs2 h1
  by_cases ht:S.tick.2=0
  case neg =>
   rw[if_neg ht]
   have e1:(S.tick.2 != 0)=true:=by simp[ht]
   clear ht hkb HST0 HLT HWF0 HWF HB HDN
   generalize S.tick.2=tk at *
   generalize S.tick.1=S1 at *
   generalize zh2 s=ss at *
   go_enter func56,ntmps56;go_upto_region 1 with (fail)
   unfold plA at HA;generalize w.alloc _=W1 at HA ⊢;generalize w.heap.size=B at HA ⊢;have hbx:=HA.out.2.perm (show _=pts B (.cells #[(k:Int),ar,ix] TPl (0,0))*(zad RS p S*F) from by ac_rfl);have b0:W1.cell? ⟨B,0,none⟩=some (.int .i64 (k:Int)):=zab hbx.block 0;have b1:W1.cell? ⟨B,1,none⟩=some (.int .i64 ar):=zab hbx.block 1;have b2:W1.cell? ⟨B,2,none⟩=some (.int .i64 ix):=zab hbx.block 2;clear hbx
   go_wp2_with (first
    | (go_at_call 74;refine (HNB.out _ W1 HA.out.2).mono ?_;rintro e w2 ⟨rfl,hb⟩;clear b0 b1 b2;have H2:=(zd (HA.out.1.below hb) (HA.out.2.below hb));clear hb;have b0:w2.cell? ⟨B,0,none⟩=some (.int .i64 (k:Int)):=zab (H2.out.2.perm (show _=pts B (.cells #[(k:Int),ar,ix] TPl (0,0))*(zad RS p S*F) from by ac_rfl)).block 0)
    | (go_at_call 106;refine (HRD.out _ w2 H2.out.2).mono ?_;rintro e w3 ⟨rfl,rfl⟩)
    | (go_at_call 107;refine (HTK.out _ w2 H2.out.2).mono ?_;rintro e w4 ⟨rfl,h4⟩))
   go_ret;exact⟨rfl,H2.out.1.trans h4.out.1,(h4.out.2.perm (show _=pts B (.cells #[(k:Int),ar,ix] TPl (0,0))*(zad RS p S1*F) from by ac_rfl)).right⟩
  case pos =>
   rw[if_pos ht];rw[ht] at HTK;have HK:=zh hkb;clear ht hkb;have HDK:=zh HB.out.2.2
   have HHAS:=zh (show (S.disk k).has nu=true by
    have h2:=HLT.out;have h3:=HDN.out;have h4:=HNU.out;unfold zsh.has
    rw[decide_eq_true (by omega:0≤nu),decide_eq_true (by omega:nu<((S.disk k).n:Int))];rfl)
   go_enter func56,ntmps56;go_upto_region 1 with (fail)
   unfold plA at HA;generalize w.alloc _=W1 at HA ⊢;generalize w.heap.size=B at HA ⊢;have hbx:=HA.out.2.perm (show _=pts B (.cells #[(k:Int),ar,ix] TPl (0,0))*(zad RS p S*F) from by ac_rfl);have b0:W1.cell? ⟨B,0,none⟩=some (.int .i64 (k:Int)):=zab hbx.block 0;have b1:W1.cell? ⟨B,1,none⟩=some (.int .i64 ar):=zab hbx.block 1;have b2:W1.cell? ⟨B,2,none⟩=some (.int .i64 ix):=zab hbx.block 2;clear hbx
   go_upto_region 10 with (first
    | (go_at_call 74;refine (HNB.out _ W1 HA.out.2).mono ?_;rintro e w2 ⟨rfl,hb⟩;clear b0 b1 b2;have H2:=(zd (HA.out.1.below hb) (HA.out.2.below hb));clear hb;have b0:w2.cell? ⟨B,0,none⟩=some (.int .i64 (k:Int)):=zab (H2.out.2.perm (show _=pts B (.cells #[(k:Int),ar,ix] TPl (0,0))*(zad RS p S*F) from by ac_rfl)).block 0)
    | (go_at_call 106;refine (HRD.out _ w2 H2.out.2).mono ?_;rintro e w3 ⟨rfl,rfl⟩)
    | (go_at_call 107;refine (HTK.out _ w2 H2.out.2).mono ?_;rintro e w4 ⟨rfl,h4⟩;clear b0))
   have hs4:=h4.out.2;obtain⟨vb,vs,vi,ps,qs,q,R,ho,hs⟩:=zcL hs4 (k:=k) (by rw[HB.out.1];exact HK.out);obtain⟨g,capb,rfl,c6,cq,-⟩:=zbw ho hs;have b0:w4.cell? ⟨B,0,none⟩=some (.int .i64 (k:Int)):=zab (hs4.perm (show _=pts B (.cells #[(k:Int),ar,ix] TPl (0,0))*(zad RS p S.tick.1*F) from by ac_rfl)).block 0;have HO:=zh ho;rw[zcl] at hs
   have hkn:(k:Int)<(S.tick.1.bays.length:Int):=by rw[HB.out.1];have:=HK.out;omega
   obtain⟨n,hn⟩:∃ n,S.tick.1.bays.length=n:=⟨_,rfl⟩;rw[hn] at hkn c6 hs;have HN:=zh hn;have HQ:=zh hs
   have hk0:(0:Int)≤(k:Int):=by omega
   clear hs4 ho hs hn;have hS0:w4.drew.cell? ⟨p,6,none⟩=some (.slice (some ⟨g,0,none⟩) n capb)∧w4.drew.cell? ⟨g,k,none⟩=some (.pointer (some ⟨q,0,none⟩))∧w4.drew.cell? ⟨B,0,none⟩=some (.int .i64 (k:Int)):=⟨c6,cq,b0⟩
   refine zah (fun w'=>w'.cell? ⟨p,6,none⟩=some (.slice (some ⟨g,0,none⟩) n capb)∧w'.cell? ⟨g,k,none⟩=some (.pointer (some ⟨q,0,none⟩))∧w'.cell? ⟨B,0,none⟩=some (.int .i64 (k:Int))) (by kernel_rfl) ?_
   clear c6 cq b0;(apply zaa 0 rfl rfl (by kernel_rfl) rfl);(rintro w' ⟨h1,h2,h3⟩;go_simp;rfl);exact hS0;simp only[zq];(apply zaa 1 rfl rfl (by kernel_rfl) rfl);(rintro w' ⟨h1,h2,h3⟩;go_simp;rfl);exact hS0;simp only[zq];(apply zaa 2 rfl rfl (by kernel_rfl) rfl);(rintro w' ⟨h1,h2,h3⟩;go_simp;rfl);exact hS0;simp only[zq];(apply zaa 3 rfl rfl (by kernel_rfl) rfl);(rintro w' ⟨h1,h2,h3⟩;go_simp;rfl);exact hS0;simp only[zq];(apply zaa 4 rfl rfl (by kernel_rfl) rfl);(rintro w' ⟨h1,h2,h3⟩;go_simp;rfl);exact hS0;simp only[zq]
   (apply zaa 5 rfl rfl (by kernel_rfl) rfl);(rintro w' ⟨h1,h2,h3⟩;go_simp;rfl);exact hS0;simp only[zq];(apply zaa 6 rfl rfl (by kernel_rfl) rfl);(rintro w' ⟨h1,h2,h3⟩;go_simp;rfl);exact hS0;simp only[zq];(apply zaa 7 rfl rfl (by kernel_rfl) rfl);(rintro w' ⟨h1,h2,h3⟩;go_simp;rfl);exact hS0;simp only[zq];(apply zaa 8 rfl rfl (by kernel_rfl) rfl);(rintro w' ⟨h1,h2,h3⟩;go_simp;rfl);exact hS0;simp only[zq];(apply zaa 9 rfl rfl (by kernel_rfl) rfl);(rintro w' ⟨h1,h2,h3⟩;go_simp;rfl);exact hS0;simp only[zq]
   refine zan 10 rfl rfl (by kernel_rfl) rfl (R:=fun v w'=>v = .int .i64 0∧Hid (Same w4 w'∧Sat w' (zbF RT q ((S.disk k).write nu s).1*zos p S.tick.1 (.slice (some ⟨g,0,none⟩) n capb) vs vi ps qs R (pts B (.cells #[(k:Int),ar,ix] TPl (0,0))*F)))) (by kernel_rfl) ((zmb q _ _ nu s w4.drew HQ.out.drew).mono fun e w' h=>⟨_,h.1,by rw[HDK.out,zmo _ _ _ HHAS.out HL.out],by have h8:=h.2.out;rw[HDK.out] at h8;exact⟨(Same.refl w4).drew.trans h8.1,h8.2⟩⟩) ?_
   rintro _ w5 ⟨rfl,h5⟩;simp only[zq];have h6:=h5.out.2;rw[← HN.out,← zcl] at h6;have h7:=ze3 HO.out (HWF.out.setDisk (by rw[HB.out.2.1];exact HST0.out) (by rw[HDK.out];exact zsh.write_n _ _ _)) h6
   have hS5:w5.cell? ⟨p,6,none⟩=some (.slice (some ⟨g,0,none⟩) n capb)∧w5.cell? ⟨g,k,none⟩=some (.pointer (some ⟨q,0,none⟩))∧w5.cell? ⟨B,0,none⟩=some (.int .i64 (k:Int)):=by
    obtain⟨g',capb',e,c6,cq,-⟩:=zbw HO.out h6;cases e;rw[HN.out] at c6;exact⟨c6,cq,zab (h7.perm (show _=pts B (.cells #[(k:Int),ar,ix] TPl (0,0))*(zad RS p (S.tick.1.setDisk k ((S.disk k).write nu s).1)*F) from by ac_rfl)).block 0⟩
   refine⟨hS5,?_⟩;(apply zaa 11 rfl rfl (by kernel_rfl) rfl);(rintro w' ⟨h1,h2,h3⟩;go_simp;rfl);exact hS5;simp only[zq];refine zar (by kernel_rfl) ?_;have HE:=(zd h5.out.1 (h7.perm (show _=pts B (.cells #[(k:Int),ar,ix] TPl (0,0))*(zad RS p (S.tick.1.setDisk k ((S.disk k).write nu s).1)*F) from by ac_rfl)).right);clear hS0 hS5 h6 h7;go_wp2;go_ret;exact⟨rfl,(H2.out.1.trans h4.out.1).trans HE.out.1,HE.out.2⟩
def ziM (p:Nat)(S:zsg)(F:zsi)(d area:Int)(c:CkM)(w:World)(e:Ending)(w':World):Prop:=e = .returned (.int .i64 (zbH S d area c).2)∧Hid (Same w w'∧Sat w' (zad RS p (zbH S d area c).1*F))
structure zrG (w:World)(p:Nat)(S:zsg)(d area:Int)(c:CkM)(n:Nat)(Y:zsi)(i:Value)(wr:World):Prop where
 st:∃ k:Nat,k≤n∧i = .int .i64 (k:Int)∧(wrA d area c S k).2=0∧Same w wr∧Sat wr (zad RS p (wrA d area c S k).1*Y)
theorem zfx (p:Nat)(S:zsg)(F:zsi)(d area ge gc:Int)(sq:Nat)(im:List UInt8)(hsq:sq<9223372036854775808)(him:im.length≤2621440)(hseal:∀ k:Nat,k<zaR ⟨⟨ge,gc⟩,(sq:Int),im⟩+1→zdr ⟨d,area,(k:Int)⟩ ⟨ge,gc⟩ (zcs ⟨⟨ge,gc⟩,(sq:Int),im⟩ k)=true)(w:World)(hS:Sat w (zad RS p S*F)):
  Calls prog 42 #[.pointer (some ⟨p,0,none⟩),d,area,.agg #[ge,gc,(sq:Int),.string (zae im)]] w (ziM p S F d area ⟨⟨ge,gc⟩,(sq:Int),im⟩ w):=by
 have HPY:=zh (fun (W:World) (X:zsi) (h:Sat W X)=>zhy ge gc sq im hsq him X W h)
 have HSL:=zh (fun (k:Nat) (hk:k<zaR ⟨⟨ge,gc⟩,(sq:Int),im⟩+1) (W:World) (X:zsi) (h:Sat W X)=>zmh ⟨d,area,(k:Int)⟩ ⟨ge,gc⟩ (zcs ⟨⟨ge,gc⟩,(sq:Int),im⟩ k) (hseal k hk) X W h)
 have HPL:=zh (show zaR ⟨⟨ge,gc⟩,(sq:Int),im⟩≤65536 from by unfold zaR;show (im.length+39) / 40≤65536;omega);have HWM:=zh (ze8 d area ⟨⟨ge,gc⟩,(sq:Int),im⟩ S)
 have HAS:=zh (fun (k:Nat) (h:(wrA d area ⟨⟨ge,gc⟩,(sq:Int),im⟩ S k).2=0)=>ziF h)
 have HAT:=zh (fun (k:Nat) (h:(wrA d area ⟨⟨ge,gc⟩,(sq:Int),im⟩ S k).2≠0)=>zgB h)
 have HGN:=zh (show (⟨⟨ge,gc⟩,(sq:Int),im⟩:CkM).gen=⟨ge,gc⟩ from rfl);unfold ziM;generalize hc:(⟨⟨ge,gc⟩,(sq:Int),im⟩:CkM)=c at HPY HSL HPL HWM HAS HAT HGN ⊢
 have HWR:=zh (fun (S':zsg) (k:Nat) (s:List UInt8) (W:World) (X:zsi) (h:Sat W (zad RS p S'*X))=>zgl p S' X ⟨d,area,(k:Int)⟩ s W h)
 have HFL:=zh (fun (S':zsg) (W:World) (X:zsi) (h:Sat W (zad RS p S'*X))=>zeC p S' X d W h)
 have H1:=(zd ((Same.refl w).alloc (.cells #[ge,gc,(sq:Int),.string (zae im)] TCk)) ((hS.alloc (.cells #[ge,gc,(sq:Int),.string (zae im)] TCk)).perm (show _=pts w.heap.size (.cells #[ge,gc,(sq:Int),.string (zae im)] TCk (0,0))*(zad RS p S*F) from by ac_rfl)));clear hS hseal hsq him hc;go_enter func42,ntmps42;go_upto_region 1 with (fail)
 generalize w.alloc (.cells #[ge,gc,(sq:Int),.string (zae im)] TCk)=w1 at H1 ⊢;generalize w.heap.size=cB at H1 ⊢;obtain⟨⟨r0,r1,r2,r3⟩,⟨f0,f1,f2,f3⟩,rl⟩:=zas H1.out.2;go_wp2_with (go_at_call 88;refine (HPY.out w1 _ H1.out.2).mono ?_;rintro e w2 ⟨v,rfl,h2⟩;replace H1:=(zt H1 h2);clear h2 r0 r1 r2 r3 f0 f1 f2 f3 rl);obtain⟨ao,cap,rfl⟩:=zal H1.out.2;obtain⟨n,hn⟩:∃ n,zaR c+1=n:=⟨_,rfl⟩;rw[hn] at H1 HWM HSL ⊢;have HPN:=zh (show n≤65537 from by have:=HPL.out;omega);obtain⟨ti,hti,hz0,hts,hz2⟩:=info_parts zi4
 have HTI:=(zd hti hts);clear hti hz0 hts hz2
 have HRW:=zh (show ∀ (W:World) (X:zsi) (k:Nat),k<n→Sat W (X*(zaf zfg 1 (.slice ao n cap) n (zny c n)*(pts cB (.cells #[ge,gc,(sq:Int),.string (zae im)] TCk (0,0))*F)))→∃ g,ao=some ⟨g,0,none⟩∧W.cell? ⟨g,0+k*1,none⟩=some (.string (zae (zcs c k)))∧W.cell? ⟨cB,0,none⟩=some (.int .i64 ge)∧W.cell? ⟨cB,1,none⟩=some (.int .i64 gc) from fun W X k hk h=>by
  obtain⟨g,gcap,hv,hcell⟩:=zbd h.right (by omega)
  obtain⟨rfl,_,rfl⟩:ao=some ⟨g,0,none⟩∧True∧cap=gcap:=by simpa using hv
  exact⟨g,rfl,by rw[Nat.zero_add,Nat.mul_one];exact hcell k _ (zqs hk),zab h.right.right.block 0,zab h.right.right.block 1⟩)
 generalize hY:zaf zfg 1 (.slice ao n cap) n (zny c n)*(pts cB (.cells #[ge,gc,(sq:Int),.string (zae im)] TCk (0,0))*F)=Y at H1 HRW
 have HY:=zh (show ∀ (W:World) (X:zsi),Sat W (X*Y)→Sat W (X*F) from fun W X h=>by
  rw[← hY] at h
  exact (h.perm (show _=(zaf zfg 1 (.slice ao n cap) n (zny c n)*pts cB (.cells #[ge,gc,(sq:Int),.string (zae im)] TCk (0,0)))*(X*F) from by ac_rfl)).right)
 replace H1:=(zd H1.out.1 (show Sat w2 (zad RS p S*Y) from by
  have h:=H1.out.2;rw[← hY]
  exact h.perm (by ac_rfl)))
 clear hY hn
 go_loopw [10,11,12,13,14] (fun i _ _ _ _ wr=>zrG w p S d area c n Y i wr) (fun i _ _ _ _ _=>n - (intOf i).toNat)
 case atStart=>exact⟨0,Nat.zero_le _,rfl,rfl,H1.out.1,H1.out.2⟩
 case round =>
  clear H1;obtain⟨k,hk,rfl,hz,hsm,hs⟩:=hrel.st;clear hrel;have H1:=(zd hsm hs);clear hsm hs
  by_cases hlt:k<n
  case pos =>
   have hltd:decide ((k:Int)<(n:Int))=true:=decide_eq_true (by omega);have hltn:decide (k<n)=true:=decide_eq_true hlt
   have hk6:(k:Int)≤65537:=by have:=HPN.out;omega
   have HLT:=(zd hlt hz);clear hlt hz hk;go_upto_region 6 with (fail)
   replace H1:=(zd (H1.out.1.alloc (.cells #[d,area,(k:Int)] TPl)) ((H1.out.2.alloc (.cells #[d,area,(k:Int)] TPl)).perm (show _=(zad RS p (wrA d area c S k).1*pts wr.heap.size (.cells #[d,area,(k:Int)] TPl (0,0)))*Y from by ac_rfl)));change Code.wp _ _ _ _ (wr.alloc (.cells #[d,area,(k:Int)] TPl));generalize wr.alloc (.cells #[d,area,(k:Int)] TPl)=w4 at H1 ⊢;generalize wr.heap.size=pB at H1 ⊢
   have HCL:=zh (show ∀ (W:World),Sat W ((zad RS p (wrA d area c S k).1*pts pB (.cells #[d,area,(k:Int)] TPl (0,0)))*Y)→W.cell? ⟨pB,0,none⟩=some (.int .i64 d)∧W.cell? ⟨pB,1,none⟩=some (.int .i64 area)∧W.cell? ⟨pB,2,none⟩=some (.int .i64 (k:Int)) from fun W h=>by
    have h2:=h.perm (show _=pts pB (.cells #[d,area,(k:Int)] TPl (0,0))*(zad RS p (wrA d area c S k).1*Y) from by ac_rfl)
    exact⟨zab h2.block 0,zab h2.block 1,zab h2.block 2⟩)
   replace H1:=(zd H1.out.1.drew H1.out.2.drew);obtain⟨g,rfl,c0,c1,c2⟩:=HRW.out _ _ k HLT.out.1 H1.out.2;obtain⟨p0,p1,p2⟩:=HCL.out _ H1.out.2;have hS0:w4.drew.cell? ⟨g,0+k*1,none⟩=some (.string (zae (zcs c k)))∧w4.drew.cell? ⟨cB,0,none⟩=some (.int .i64 ge)∧w4.drew.cell? ⟨cB,1,none⟩=some (.int .i64 gc)∧w4.drew.cell? ⟨pB,0,none⟩=some (.int .i64 d)∧w4.drew.cell? ⟨pB,1,none⟩=some (.int .i64 area)∧w4.drew.cell? ⟨pB,2,none⟩=some (.int .i64 (k:Int)):=⟨c0,c1,c2,p0,p1,p2⟩;clear c0 c1 c2 p0 p1 p2
   refine zah (fun w'=>w'.cell? ⟨g,0+k*1,none⟩=some (.string (zae (zcs c k)))∧w'.cell? ⟨cB,0,none⟩=some (.int .i64 ge)∧w'.cell? ⟨cB,1,none⟩=some (.int .i64 gc)∧w'.cell? ⟨pB,0,none⟩=some (.int .i64 d)∧w'.cell? ⟨pB,1,none⟩=some (.int .i64 area)∧w'.cell? ⟨pB,2,none⟩=some (.int .i64 (k:Int))) (by kernel_rfl) ?_
   (apply zaa 0 rfl rfl (by kernel_rfl) rfl);(rintro w' ⟨h1,h2,h3,h4,h5,h6⟩;go_simp;rfl);exact hS0;simp only[zq];(apply zaa 1 rfl rfl (by kernel_rfl) rfl);(rintro w' ⟨h1,h2,h3,h4,h5,h6⟩;go_simp;rfl);exact hS0;simp only[zq];(apply zaa 2 rfl rfl (by kernel_rfl) rfl);(rintro w' ⟨h1,h2,h3,h4,h5,h6⟩;go_simp;rfl);exact hS0;simp only[zq];(apply zaa 3 rfl rfl (by kernel_rfl) rfl);(rintro w' ⟨h1,h2,h3,h4,h5,h6⟩;go_simp;rfl);exact hS0;simp only[zq];(apply zaa 4 rfl rfl (by kernel_rfl) rfl);(rintro w' ⟨h1,h2,h3,h4,h5,h6⟩;go_simp;rfl);exact hS0;simp only[zq]
   refine zaa 5 (v:=.pointer (some ⟨g,0+k*1,none⟩)) rfl rfl (by kernel_rfl) rfl (fun _ _=>zaw rfl rfl rfl underlying140 HTI.out.1 HTI.out.2 HLT.out.1) hS0 ?_;simp only[zq];refine zaa 6 (v:=.string (zae (zcs c k))) rfl rfl (by kernel_rfl) rfl (fun _ h=>zbl rfl rfl underlying9 rfl h.1) hS0 ?_;simp only[zq]
   refine zan 7 rfl rfl (by kernel_rfl) rfl (f:=89) (args:=#[.agg (plA ⟨d,area,(k:Int)⟩),.agg (zcH ⟨ge,gc⟩),.string (zae (zcs c k))]) (R:=fun v w'=>v = .tuple #[.string (zae (zbX ⟨d,area,(k:Int)⟩ ⟨ge,gc⟩ (zcs c k))),.int .i64 0]∧Hid (Same w4.drew w'∧Sat w' ((zad RS p (wrA d area c S k).1*pts pB (.cells #[d,area,(k:Int)] TPl (0,0)))*Y))) (by kernel_rfl) ((HSL.out k HLT.out.1 w4.drew _ H1.out.2).mono fun e w' h=>⟨_,h.1,rfl,h.2⟩) ?_
   rintro _ w5 ⟨rfl,h2⟩;replace H1:=(zt H1 h2);clear h2 hS0;obtain⟨g2,hg2,c0,c1,c2⟩:=HRW.out _ _ k HLT.out.1 H1.out.2
   obtain rfl:g=g2:=by simpa using hg2
   obtain⟨p0,p1,p2⟩:=HCL.out _ H1.out.2;have hS0:w5.cell? ⟨g,0+k*1,none⟩=some (.string (zae (zcs c k)))∧w5.cell? ⟨cB,0,none⟩=some (.int .i64 ge)∧w5.cell? ⟨cB,1,none⟩=some (.int .i64 gc)∧w5.cell? ⟨pB,0,none⟩=some (.int .i64 d)∧w5.cell? ⟨pB,1,none⟩=some (.int .i64 area)∧w5.cell? ⟨pB,2,none⟩=some (.int .i64 (k:Int)):=⟨c0,c1,c2,p0,p1,p2⟩;refine⟨hS0,?_⟩;simp only[zq];clear hg2;(apply zaa 8 rfl rfl (by kernel_rfl) rfl);(rintro w' ⟨h1,h2,h3,h4,h5,h6⟩;go_simp;rfl);exact hS0;simp only[zq];(apply zaa 9 rfl rfl (by kernel_rfl) rfl);(rintro w' ⟨h1,h2,h3,h4,h5,h6⟩;go_simp;rfl);exact hS0;simp only[zq]
   (apply zaa 10 rfl rfl (by kernel_rfl) rfl);(rintro w' ⟨h1,h2,h3,h4,h5,h6⟩;go_simp;rfl);exact hS0;simp only[zq];(apply zaa 11 rfl rfl (by kernel_rfl) rfl);(rintro w' ⟨h1,h2,h3,h4,h5,h6⟩;go_simp;rfl);exact hS0;simp only[zq];(apply zaa 12 rfl rfl (by kernel_rfl) rfl);(rintro w' ⟨h1,h2,h3,h4,h5,h6⟩;go_simp;rfl);exact hS0;simp only[zq];refine zar (by kernel_rfl) ?_;clear hS0 c0 c1 c2
   have HW1:=zh (show ∀ (W:World) (X:zsi),Sat W (zad RS p (wrA d area c S k).1*X)→Calls prog 56 #[.pointer (some ⟨p,0,none⟩),.agg (plA ⟨d,area,(k:Int)⟩),.string (zae (zbX ⟨d,area,(k:Int)⟩ ⟨ge,gc⟩ (zcs c k)))] W fun e w'=>e = .returned (.int .i64 (wrA d area c S (k+1)).2)∧Hid (Same W w'∧Sat w' (zad RS p (wrA d area c S (k+1)).1*X)) from fun W X h=>by
    rw[HAS.out k HLT.out.2,HGN.out]
    exact HWR.out _ k _ W X h)
   generalize zbX ⟨d,area,(k:Int)⟩ ⟨ge,gc⟩ (zcs c k)=sl at HW1 ⊢;obtain⟨er,her⟩:∃ er,(wrA d area c S (k+1)).2=er:=⟨_,rfl⟩;rw[her] at HW1;have HER:=zh her;clear her;go_upto_region 8 with (go_at_call 56;refine (HW1.out w5 _ (H1.out.2.perm (show _=zad RS p (wrA d area c S k).1*(pts pB (.cells #[d,area,(k:Int)] TPl (0,0))*Y) from by ac_rfl))).mono ?_;rintro e w6 ⟨rfl,h2⟩;replace H1:=(zt H1 h2);clear h2 p0 p1 p2)
   by_cases he:er=0
   case pos =>
    subst he;go_wp2;exact⟨⟨k+1,HLT.out.1,rfl,HER.out,H1.out.1,(H1.out.2.perm (show _=pts pB (.cells #[d,area,(k:Int)] TPl (0,0))*(zad RS p (wrA d area c S (k+1)).1*Y) from by ac_rfl)).right⟩,by have:=HLT.out.1;simp only[intOf];omega⟩
   case neg =>
    have hne:(er != 0)=true:=bne_iff_ne.2 he
    have HR:=zh (show zbH S d area c=wrA d area c S (k+1) from by
     have h1:(wrA d area c S (k+1)).2≠0:=by rw[HER.out];exact he
     have h2:=HAT.out (k+1) h1 (n - (k+1));rw[show k+1+(n - (k+1))=n by have:=HLT.out.1;omega] at h2
     rw[HWM.out,h2,if_pos h1])
    clear he;go_wp2;go_ret;exact⟨by rw[HR.out,HER.out];rfl,H1.out.1,by rw[HR.out];exact HY.out _ _ ((H1.out.2.perm (show _=pts pB (.cells #[d,area,(k:Int)] TPl (0,0))*(zad RS p (wrA d area c S (k+1)).1*Y) from by ac_rfl)).right)⟩
  case neg =>
   obtain rfl:k=n:=by omega
   have hltd:decide ((k:Int)<(k:Int))=false:=decide_eq_false (by omega);have hltn:decide (k<k)=false:=decide_eq_false (by omega);have HR:=zh (show zbH S d area c=(wrA d area c S k).1.flush d from by rw[HWM.out,if_neg (by rw[hz];simp)]);clear hlt hz;go_wp2_with (go_at_call 58;refine (HFL.out _ wr _ H1.out.2).mono ?_;rintro e w9 ⟨rfl,h2⟩;replace H1:=(zt H1 h2);clear h2);go_ret;exact⟨by rw[HR.out];rfl,H1.out.1,by rw[HR.out];exact HY.out _ _ H1.out.2⟩
end Go.Proofs.YtmcclbiaoeilkaaGreat
end
