import Derived.Test.YtmcclbiaoeilkaaGreatQ09
set_option maxHeartbeats 8000000
set_option maxRecDepth 100000
/- Part 25 of a proof;the last part says what is proved. -/
section
namespace Go.Proofs.YtmcclbiaoeilkaaGreat
open Go.Proofs.Tryz Go.RowKit Go.Sl Go.ChangeMaps
structure zr3 (w:World)(p:Nat)(S:zsg)(vb:Value)(F:zsi)(n:Nat)(i:Value)(wr:World):Prop where
 st:∃ (k:Nat) (S':zsg),k≤n∧i = .int .i64 k∧S'.bays.length=n∧S.flushFrom 0 n=S'.flushFrom k (n - k)∧Same w wr∧Sat wr (zc1 SH p S' vb*F)
theorem ziY (p:Nat)(S:zsg)(F:zsi)(w:World)(hS:Sat w (zac SH p S*F)):
  Calls prog 46 #[.pointer (some ⟨p,0,none⟩)] w fun e w'=>e = .returned (.int .i64 S.flushAll.2)∧Hid (Same w w'∧Sat w' (zac SH p S.flushAll.1*F)):=by
 have hwf:=zaE hS;obtain⟨vb,hV⟩:=zbf.1 hS
 have hn0:0<S.bays.length:=by rw[hwf.bays];have:=hwf.cfg.disks;omega
 have hn64:S.bays.length≤64:=by rw[hwf.bays];have:=hwf.cfg.disks;omega
 obtain⟨g,cap,q,vi,G,rfl,hs,_,_,_,_,_,_⟩:=zdh hV (d:=0) hn0;obtain⟨⟨q6,q7,q8,q9,q10⟩,hp,hfp,hra⟩:=zaU hs;have HS:=zh hS;have HV:=zh hV
 have hfa:S.flushAll=if S.off then (S,14) else S.flushFrom 0 S.bays.length:=rfl
 obtain⟨n,hnn⟩:∃ n,S.bays.length=n:=⟨_,rfl⟩;rw[hnn] at q6 hn0 hn64 hfa;have HNN:=zh hnn;clear hs hS hV hfp hra hwf q7 q9 q10;cases ho:S.off
 ·rw[ho] at q8 hfa
  rw[if_neg (by decide)] at hfa;rw[hfa];clear hfa ho;go_enter func46,ntmps46;go_wp2;rw[hnn] at HV;clear hnn
  go_loopw [3,4,5,15] (fun _ _ _ i wr=>zr3 w p S (.slice (some ⟨g,0,none⟩) n cap) F n i wr) (fun _ _ _ i _=>n - (intOf i).toNat)
  case atStart=>exact⟨0,S,by omega,rfl,HNN.out,rfl,Same.refl w,HV.out⟩
  case round =>
   obtain⟨k,S',hk,rfl,hlen,hff,hsm,hV'⟩:=hrel.st;clear hrel;have HH:=(zd hff (And.intro hsm hV'));have HLN:=zh hlen
   by_cases hlt:k<n
   ·have hltd:decide ((k:Int)<(n:Int))=true:=decide_eq_true (by omega)
    obtain⟨g',cap',q',vi',G',hvb,hs',⟨hpg,hg⟩,b0,b1,hf,_,_⟩:=zdh hV' (d:=k) (by omega);simp only[Value.slice.injEq,Option.some.injEq,Addr.mk.injEq,and_true] at hvb;obtain⟨rfl,hnl,rfl⟩:=hvb;clear hnl;unfold zaB at b0;have hfl:=zsg.flushFrom_lt S' k n hlt;have HFL:=zh hfl;obtain⟨st,hst⟩:∃ st,S'.state (k:Int)=st:=⟨_,rfl⟩;rw[hst] at b1;have HST:=zh hst;clear hs' hf hfl hst hff hsm hV' hlen
    by_cases h1:st=1
    ·subst h1
     go_upto_region 7 with (fail);have hc:=zhj p S' (.slice (some ⟨g,0,none⟩) n cap) F k _ ((HH.out.2.2).allocKeep (.cells #[.pointer (some ⟨q',0,none⟩),.int .i64 1] zct));obtain⟨⟨S2,e2⟩,hfl2⟩:∃ r,S'.flush (k:Int)=r:=⟨_,rfl⟩;rw[hfl2] at hc;have HF2:=zh hfl2;simp only at hc;clear hfl2
     by_cases he:e2=0
     ·subst he
      go_wp2_with (go_at_call 45;refine hc.mono ?_;rintro e w' ⟨rfl,h2⟩;clear hc)
      go_roundw
      case rel =>
       refine⟨⟨k+1,S2,by omega,rfl,?_,?_,(HH.out.2.1.alloc _).trans h2.out.1,h2.out.2⟩⟩
       ·have:=zsg.flush_len S' k;rw[HF2.out] at this;rw[← HLN.out];exact this
       ·rw[HH.out.1,HFL.out,if_neg (by rw[HST.out];decide),HF2.out];rfl
      case measure=>simp only[intOf];omega
     ·have heb:(e2 != 0)=true:=by simp[he]
      go_wp2_with (go_at_call 45;refine hc.mono ?_;rintro e w' ⟨rfl,h2⟩;clear hc);go_ret
      have hr:S.flushFrom 0 n=(S2,e2):=by rw[HH.out.1,HFL.out,if_neg (by rw[HST.out];simp),HF2.out,if_pos (by simpa using he)]
      rw[hr];exact⟨rfl,(HH.out.2.1.alloc _).trans h2.out.1,zbf.2 ⟨_,h2.out.2⟩⟩
    ·have h1b:(st != 1)=true:=by simp[h1]
     go_wp2
     go_roundw
     case rel =>
      refine⟨⟨k+1,S',by omega,rfl,HLN.out,?_,HH.out.2.1.alloc _,HH.out.2.2.allocKeep _⟩⟩;rw[HH.out.1,HFL.out,if_pos (by rw[HST.out];exact h1)]
     case measure=>simp only[intOf];omega
   ·have hltd:decide ((k:Int)<(n:Int))=false:=decide_eq_false (by omega)
    have hkn:k=n:=by omega
    clear hff hsm hV' hlen;go_wp2;go_ret
    have hr:S.flushFrom 0 n=(S',0):=by rw[HH.out.1,show n - k=0 by omega];rfl
    rw[hr];exact⟨rfl,HH.out.2.1,zbf.2 ⟨_,HH.out.2.2⟩⟩
 ·rw[ho] at q8 hfa
  rw[if_pos rfl] at hfa;rw[hfa];clear hfa ho hnn;go_enter func46,ntmps46;go_wp2;go_ret;exact⟨rfl,Same.refl w,HS.out⟩
theorem zgc {b:zsk}{r:List zsk}{l:List Int}(h:b.state≠1):zsg.cutBays (b::r) l=b::zsg.cutBays r l:=by
 show (if b.state=1 then _ else _)=_;rw[if_neg h]
theorem zgI {b:zsk}{r:List zsk}{l:List Int}(h:b.state=1):zsg.cutBays (b::r) l=⟨b.disk.cut (l.take b.disk.pending.length),1⟩::zsg.cutBays r (l.drop b.disk.pending.length):=by
 show (if b.state=1 then _ else _)=_;rw[if_pos h]
theorem zm6:(prog.info? zbP).map (·.size)=some 1:=by kernel_rfl
structure zr4 (w:World)(p:Nat)(S:zsg)(vb:Value)(F:zsi)(n:Nat)(picks:List Int)(pv i:Value)(wr:World):Prop where
 st:∃ (k:Nat) (dn:List zsk) (pk:List Int),k≤n∧i = .int .i64 k∧dn.length=k∧zsg.cutBays S.bays picks=dn++zsg.cutBays (S.bays.drop k) pk∧(∀ w',Sat w' F→IntsC w' pv pk)∧pk.length≤9223372036854775807∧Same w wr∧Sat wr (zc1 SH p { S with bays:=dn++S.bays.drop k } vb*F)
theorem znm (p:Nat)(S:zsg)(F:zsi)(pv:Value)(picks:List Int)(w:World)(hS:Sat w (zac SH p S*F))(hpk:∀ w',Sat w' F→IntsC w' pv picks)(hpl:picks.length≤9223372036854775807):
  Calls prog 48 #[.pointer (some ⟨p,0,none⟩),pv] w fun e w'=>e = .returned (.tuple #[])∧Hid (Same w w'∧Sat w' (zac SH p (S.mount picks)*F)):=by
 have hwf:=zaE hS;obtain⟨vb,hV⟩:=zbf.1 hS
 have hn0:0<S.bays.length:=by rw[hwf.bays];have:=hwf.cfg.disks;omega
 have hn64:S.bays.length≤64:=by rw[hwf.bays];have:=hwf.cfg.disks;omega
 obtain⟨g,cap,q,vi,G,rfl,hs,h1,h2,h3,h4,h5,h6⟩:=zdh hV (d:=0) hn0;obtain⟨⟨q6,q7,q8,q9,q10⟩,hp,hfp,hra⟩:=zaU hs;have HS:=zh hS;have HV:=zh hV;have HPK:=zh hpk;obtain⟨n,hnn⟩:∃ n,S.bays.length=n:=⟨_,rfl⟩;rw[hnn] at q6 hn0 hn64 HV;have HNN:=zh hnn;clear hs hS hV hfp hra hwf q7 q8 q9 q10 h1 h2 h3 h4 h5 h6 hnn hpk;go_enter func48,ntmps48;go_wp2
 go_loopw [1,5,6,12] (fun pv _ _ i wr=>zr4 w p S (.slice (some ⟨g,0,none⟩) n cap) F n picks pv i wr) (fun _ _ _ i _=>n - (intOf i).toNat)
 case atStart=>exact⟨0,[],picks,by omega,rfl,rfl,rfl,HPK.out,hpl,Same.refl w,HV.out⟩
 case round =>
  obtain⟨k,dn,pk,hk,rfl,hdn,hcb,hpk,hpkl,hsm,hV'⟩:=hrel.st;clear hrel HPK;obtain⟨ao,pc,rfl,_,_⟩:=hpk _ hV'.right;have HH:=(zd hcb (And.intro hsm hV'));have HPK:=zh hpk;have HDN:=zh hdn
  by_cases hlt:k<n
  ·have hltd:decide ((k:Int)<(n:Int))=true:=decide_eq_true (by omega)
   have hn2:=HNN.out
   have hblen:(dn++S.bays.drop k).length=n:=by rw[List.length_append,List.length_drop];omega
   obtain⟨b,hb⟩:∃ b,S.bays[k]?=some b:=⟨_,List.getElem?_eq_getElem (by omega)⟩
   have hdrop:S.bays.drop k=b::S.bays.drop (k+1):=by
    rw[List.drop_eq_getElem_cons (by omega)];congr 1;rw[List.getElem?_eq_getElem (by omega)] at hb;exact Option.some.inj hb
   have hSb:(dn++S.bays.drop k)[k]?=some b:=by rw[List.getElem?_append_right (by omega),hdn,Nat.sub_self,hdrop];rfl
   have hbo:=zsg.bay_of (S:={ S with bays:=dn++S.bays.drop k }) (d:=(k:Int)) (by omega) (by show (k:Int)<((dn++S.bays.drop k).length:Int);omega);rw[Int.toNat_natCast] at hbo;have hbb:=hSb.symm.trans hbo
   injection hbb with hbb
   obtain⟨g',cap',q',vi',G',hvb,hs',⟨hpg,hg⟩,b0,b1,hf,hcl,h7⟩:=zdh hV' (d:=k) (by show k<(dn++S.bays.drop k).length;omega);rw[show ({ S with bays:=dn++S.bays.drop k }:zsg).bays.length=n from hblen] at hvb hs' hcl;simp only[Value.slice.injEq,Option.some.injEq,Addr.mk.injEq,and_true,true_and] at hvb;obtain⟨rfl,rfl⟩:=hvb
   have hbs:b.state=({ S with bays:=dn++S.bays.drop k }:zsg).state k:=by rw[hbb]
   have hbd:b.disk=({ S with bays:=dn++S.bays.drop k }:zsg).disk k:=by rw[hbb]
   rw[← hbs] at b1;rw[← hbd] at hs';unfold zaB at b0;obtain⟨st,hst⟩:∃ st,b.state=st:=⟨_,rfl⟩;rw[hst] at b1;have HB:=(zd hst (And.intro hbs hdrop));have HBD:=zh hbd;have HSS:=zh hs';have HCL:=zh hcl;have HWF':=zh (zaE (zbf.2 ⟨_,hV'⟩));clear hs' hf hst hsm hV' hdn hcb hpk hcl h7 hbs hbd hbb hbo hSb hdrop hb hblen hn2 HV HS
   by_cases h1:st=1
   ·subst h1
    have hA:=(HSS.out.alloc (.cells #[.pointer (some ⟨q',0,none⟩),.int .i64 1] zct)).perm (show _=zak TD TS q' b.disk*(pts wr.heap.size (.cells #[.pointer (some ⟨q',0,none⟩),.int .i64 1] zct (0,0))*(pts p (.cells (zaJ S.cfg (.slice (some ⟨g,0,none⟩) n cap) vi' S.off S.fused S.left) TSh (0,0))*(F*G'))) from by ac_rfl);have hpd:=zgZ q' b.disk _ _ hA;have HA:=(zd ((HH.out.2.1.alloc (.cells #[.pointer (some ⟨q',0,none⟩),.int .i64 1] zct))) hA);obtain⟨pl,hple⟩:∃ pl,b.disk.pending.length=pl:=⟨_,rfl⟩;rw[hple] at hpd
    have HPL:=zh hple
    have hpl2:pl≤65536:=by
     have h1:b.disk.pending.length≤b.disk.n:=by unfold zsh.pending;exact Nat.le_trans (List.length_filter_le _ _) (by simp)
     have h2:=(zgJ hA).small;omega
    clear hA hple;go_upto_region 5 with (go_at_call 96;refine hpd.mono ?_;rintro e w2 ⟨pvv,rfl,hb2,hrow,_⟩;obtain⟨ao2,pc2,rfl⟩:∃ ao2 pc2,pvv = .slice ao2 pl pc2:=by { rcases hrow.2 with ⟨rfl,h0⟩|⟨g2,cap2,cur2,rfl,_⟩;exact⟨_,_,by rw[h0]⟩;exact⟨_,_,rfl⟩ };replace HA:=(zd (HA.out.1.below hb2) (HA.out.2.below hb2));clear hb2 hrow hpd)
    generalize wr.heap.size=B5 at HA ⊢;obtain⟨m,hm⟩:∃ m,min pl pk.length=m:=⟨_,rfl⟩
    have hmi:min (pl:Int) (pk.length:Int)=(m:Int):=by omega
    have hm1:m≤pk.length:=by omega
    have htk:pk.take b.disk.pending.length=pk.take m:=by rw[HPL.out,← hm];rw[List.take_eq_take_iff];omega
    have hdk:pk.drop b.disk.pending.length=pk.drop m:=by
     rw[HPL.out,← hm];rcases Nat.le_total pl pk.length with h|h
     ·rw[Nat.min_eq_left h]
     ·rw[Nat.min_eq_right h,List.drop_eq_nil_of_le h,List.drop_eq_nil_of_le (Nat.le_refl _)]
    rw[hmi];have HTD:=(zd htk hdk)
    have hsF:∀ (w':World) (D:zsh),Sat w' (zak TD TS q' D*(pts B5 (.cells #[.pointer (some ⟨q',0,none⟩),.int .i64 1] zct (0,0))*(pts p (.cells (zaJ S.cfg (.slice (some ⟨g,0,none⟩) n cap) vi' S.off S.fused S.left) TSh (0,0))*(F*G'))))→Sat w' F:=fun w' D h=>h.right.right.right.left
    obtain⟨v1,hv1,hvi1⟩:=zlc (P:=prog) (HPK.out _ (hsF _ _ HA.out.2)) hm1 underlying38 zm6;have HV1:=zh hv1
    have hcut:=zmO q' b.disk _ v1 (pk.take m) w2.drew HA.out.2.drew (fun w' h=>(hvi1 w' (HPK.out w' h.right.right.left)).at)
    have c5:w2.drew.cell? ⟨B5,0,none⟩=some (.pointer (some ⟨q',0,none⟩)):=zab HA.out.2.right.block 0;clear hm hmi htk hdk hv1 hvi1
    refine zah (fun w'=>w'.cell? ⟨B5,0,none⟩=some (.pointer (some ⟨q',0,none⟩))) (by kernel_rfl) ?_
    (apply zaa 0 rfl rfl (by kernel_rfl) rfl);(intro w' hw';go_simp;rfl);exact c5;simp only[zq];(apply zaa 1 rfl rfl (by kernel_rfl) rfl);(intro w' hw';go_simp;rfl);exact c5;simp only[zq];(apply zaa 2 rfl rfl (by kernel_rfl) rfl);(intro w' hw';go_simp;rfl);exact c5;simp only[zq];(apply zaa 3 rfl rfl (by kernel_rfl) rfl);(intro w' hw';go_simp;rfl);exact c5;simp only[zq];refine zaa 4 (v:=v1) rfl rfl (by kernel_rfl) rfl (fun _ _=>zfc rfl rfl (HV1.out _)) c5 ?_;simp only[zq]
    refine zan 5 rfl rfl (by kernel_rfl) rfl (f:=97) (args:=#[.pointer (some ⟨q',0,none⟩),v1]) (R:=fun v w'=>v = .tuple #[]∧Hid (Same w w'∧Sat w' (zak TD TS q' (b.disk.cut (pk.take m))*(pts B5 (.cells #[.pointer (some ⟨q',0,none⟩),.int .i64 1] zct (0,0))*(pts p (.cells (zaJ S.cfg (.slice (some ⟨g,0,none⟩) n cap) vi' S.off S.fused S.left) TSh (0,0))*(F*G')))))) (by kernel_rfl) (hcut.mono fun e w' h=>⟨_,h.1,rfl,HA.out.1.drew.trans h.2.1,h.2.2⟩) ?_
    rintro _ w3 ⟨rfl,h3⟩;refine⟨zab h3.out.2.right.block 0,?_⟩;simp only[zq];refine zar (by kernel_rfl) ?_;clear hcut c5;go_wp2
    go_roundw
    case rel =>
     refine⟨⟨k+1,dn++[⟨b.disk.cut (pk.take m),1⟩],pk.drop m,by omega,rfl,by rw[List.length_append,HDN.out];rfl,?_,fun w' h=>(HPK.out w' h).drop hm1,by rw[List.length_drop];omega,h3.out.1,?_⟩⟩
     ·rw[HH.out.1,HB.out.2.2,zgI HB.out.1,HTD.out.1,HTD.out.2];simp
     ·have hset:(dn++S.bays.drop k).set k ⟨b.disk.cut (pk.take m),1⟩=(dn++[⟨b.disk.cut (pk.take m),1⟩])++S.bays.drop (k+1):=by
       rw[HB.out.2.2,List.set_append_right _ _ (by rw[HDN.out];exact Nat.le_refl _),HDN.out,Nat.sub_self];simp
      have hst1:({ S with bays:=dn++S.bays.drop k }:zsg).state k=1:=by rw[← HB.out.2.1];exact HB.out.1
      have hdb:({ S with bays:=dn++S.bays.drop k }:zsg).disk k=b.disk:=HBD.out.symm;have hwf2:=HWF'.out.setDisk (d:=(k:Int)) (D:=b.disk.cut (pk.take m)) (by rw[hst1];decide) (by rw[hdb];rfl);have h8:=HCL.out w3 (({ S with bays:=dn++S.bays.drop k }:zsg).setDisk k (b.disk.cut (pk.take m))) (b.disk.cut (pk.take m)) F hwf2 rfl rfl rfl
       ((h3.out.2.perm (show _=pts B5 (.cells #[.pointer (some ⟨q',0,none⟩),.int .i64 1] zct (0,0))*(pts p (.cells (zaJ S.cfg (.slice (some ⟨g,0,none⟩) n cap) vi' S.off S.fused S.left) TSh (0,0))*(zak TD TS q' (b.disk.cut (pk.take m))*(F*G'))) from by ac_rfl)).right)
      have e9:(({ S with bays:=dn++S.bays.drop k }:zsg).setDisk k (b.disk.cut (pk.take m)))={ S with bays:=(dn++[⟨b.disk.cut (pk.take m),1⟩])++S.bays.drop (k+1) }:=by
       unfold zsg.setDisk zsg.setBay;rw[hst1,Int.toNat_natCast,hset]
      rw[e9] at h8;exact h8
    case measure=>simp only[intOf];omega
   ·have h1b:(st==1)=false:=by simp[h1]
    go_wp2
    go_roundw
    case rel =>
     refine⟨⟨k+1,dn++[b],pk,by omega,rfl,by rw[List.length_append,HDN.out];rfl,?_,HPK.out,hpkl,HH.out.2.1.alloc _,?_⟩⟩
     ·rw[HH.out.1,HB.out.2.2,zgc (by rw[HB.out.1];exact h1)];simp
     ·have:=HH.out.2.2.allocKeep (.cells #[.pointer (some ⟨q',0,none⟩),st] zct)
      rw[HB.out.2.2] at this;rw[List.append_assoc];exact this
    case measure=>simp only[intOf];omega
  ·have hltd:decide ((k:Int)<(n:Int))=false:=decide_eq_false (by omega)
   obtain rfl:k=n:=by omega
   have e1:S.bays.drop k=[]:=List.drop_eq_nil_of_le (by rw[HNN.out];exact Nat.le_refl _);rw[e1] at hcb hV'
   have hcb2:zsg.cutBays S.bays picks=dn:=by rw[hcb];simp[zsg.cutBays]
   rw[List.append_nil,← hcb2] at hV'
   have hfin:Sat ((wr.setCell ⟨p,8,none⟩ (.bool false)).setCell ⟨p,9,none⟩ (.bool false)) (zac SH p (S.mount picks)*F):=by
    have hw:=zaE (zbf.2 ⟨_,hV'⟩);refine Sat.shelfSet (zbf.2 ⟨_,hV'⟩) ⟨hw.cfg,hw.bays,hw.st,hw.images,fun h=>by cases h⟩ rfl rfl rfl ?_;rintro _ _ vb vi G rfl rfl h;exact (h.setCell _).setCell _
   have HF:=zh hfin;have HSM:=zh hsm;obtain⟨_,_,_,_,hs9⟩:=zdX.1 hV';obtain⟨⟨q6',q7',q8',q9',q10'⟩,hp',hfp',hra'⟩:=zaU hs9;clear hsm hV' hdn hcb hpk e1 hcb2 hfin hs9 hra';go_wp2
   first|go_end0|go_ret
   exact⟨rfl,(HSM.out.setCell _ _).setCell _ _,HF.out⟩
theorem zcz (n lo hi:Int)(w:World):Calls prog 83 #[n,lo,hi] w fun e w'=>e = .returned (.bool (inB n lo hi))∧w=w':=by
 by_cases h:lo≤n
 ·have hb:inB n lo hi=decide (n≤hi):=by unfold inB;rw[decide_eq_true h];rfl
  rw[hb];have hd:decide (lo≤n)=true:=decide_eq_true h;clear h hb;go_enter func83,ntmps83;go_wp2;go_ret;exact⟨rfl,rfl⟩
 ·have hb:inB n lo hi=false:=by unfold inB;rw[decide_eq_false h];rfl
  rw[hb];have hd:decide (lo≤n)=false:=decide_eq_false h;clear h hb;go_enter func83,ntmps83;go_wp2;go_ret;exact⟨rfl,rfl⟩
theorem ziR (c:zsl)(w:World):Calls prog 28 #[.agg (za8 c)] w fun e w'=>e = .returned (.int .i64 (if c.ok=true then 0 else 1))∧Below w.heap.size w w':=by
 have hok:c.ok=(inB c.disks 1 64&&inB c.racks 1 8&&inB c.rows 1 4096&&inB c.spare 0 (c.disks - 1)&&inB c.log 1 65536&&inB c.image 1 65536&&decide (c.disks%c.racks=0)):=rfl;cases h1:inB c.disks 1 64
 case false =>
  have he:c.ok=false:=by rw[hok];simp[h1]
  rw[he];clear he hok;go_enter func28,ntmps28;go_wp2_with (go_at_call 83;refine (zcz _ _ _ _).mono ?_;rintro e w' ⟨rfl,rfl⟩);go_ret;exact⟨rfl,(Below.refl _ _).alloc (Nat.le_refl _) _⟩
 have hd:=h1;unfold inB at hd;simp only[Bool.and_eq_true,decide_eq_true_eq] at hd;have hd1:=hd.1;have hd2:=hd.2;clear hd;cases h2:inB c.racks 1 8
 case false =>
  have he:c.ok=false:=by rw[hok];simp[h2]
  rw[he];clear he hok;go_enter func28,ntmps28;go_wp2_with (go_at_call 83;refine (zcz _ _ _ _).mono ?_;rintro e w' ⟨rfl,rfl⟩);go_ret;exact⟨rfl,(Below.refl _ _).alloc (Nat.le_refl _) _⟩
 have hr:=h2;unfold inB at hr;simp only[Bool.and_eq_true,decide_eq_true_eq] at hr;have hr1:=hr.1;have hr2:=hr.2;clear hr;cases h3:inB c.rows 1 4096
 case false =>
  have he:c.ok=false:=by rw[hok];simp[h3]
  rw[he];clear he hok;go_enter func28,ntmps28;go_wp2_with (go_at_call 83;refine (zcz _ _ _ _).mono ?_;rintro e w' ⟨rfl,rfl⟩);go_ret;exact⟨rfl,(Below.refl _ _).alloc (Nat.le_refl _) _⟩
 cases h4:inB c.spare 0 (c.disks - 1)
 case false =>
  have he:c.ok=false:=by rw[hok];simp[h4]
  rw[he];clear he hok;go_enter func28,ntmps28;go_wp2_with (go_at_call 83;refine (zcz _ _ _ _).mono ?_;rintro e w' ⟨rfl,rfl⟩);go_ret;exact⟨rfl,(Below.refl _ _).alloc (Nat.le_refl _) _⟩
 cases h5:inB c.log 1 65536
 case false =>
  have he:c.ok=false:=by rw[hok];simp[h5]
  rw[he];clear he hok;go_enter func28,ntmps28;go_wp2_with (go_at_call 83;refine (zcz _ _ _ _).mono ?_;rintro e w' ⟨rfl,rfl⟩);go_ret;exact⟨rfl,(Below.refl _ _).alloc (Nat.le_refl _) _⟩
 cases h6:inB c.image 1 65536
 case false =>
  have he:c.ok=false:=by rw[hok];simp[h6]
  rw[he];clear he hok;go_enter func28,ntmps28;go_wp2_with (go_at_call 83;refine (zcz _ _ _ _).mono ?_;rintro e w' ⟨rfl,rfl⟩);go_ret;exact⟨rfl,(Below.refl _ _).alloc (Nat.le_refl _) _⟩
 by_cases h7:c.disks%c.racks=0
 ·have he:c.ok=true:=by rw[hok];simp[h1,h2,h3,h4,h5,h6,h7]
  rw[he]
  have h7':(c.disks%c.racks != 0)=false:=by simp[h7]
  clear he hok h7;go_enter func28,ntmps28;go_wp2_with (go_at_call 83;refine (zcz _ _ _ _).mono ?_;rintro e w' ⟨rfl,rfl⟩);go_ret;exact⟨rfl,(Below.refl _ _).alloc (Nat.le_refl _) _⟩
 ·have he:c.ok=false:=by rw[hok];simp[h1,h2,h3,h4,h5,h6,h7]
  rw[he]
  have h7':(c.disks%c.racks != 0)=true:=by simp[h7]
  clear he hok h7;go_enter func28,ntmps28;go_wp2_with (go_at_call 83;refine (zcz _ _ _ _).mono ?_;rintro e w' ⟨rfl,rfl⟩);go_ret;exact⟨rfl,(Below.refl _ _).alloc (Nat.le_refl _) _⟩
theorem zqp {c:zsl}(h:c.ok=true)(hs:c.sectors≤65536):c.WF:=by
 unfold zsl.ok inB at h;simp only[Bool.and_eq_true,decide_eq_true_eq] at h;obtain⟨⟨⟨⟨⟨⟨⟨a1,a2⟩,b1,b2⟩,c1,c2⟩,d1,d2⟩,e1,e2⟩,f1,f2⟩,_⟩:=h;exact⟨⟨a1,a2⟩,⟨c1,c2⟩,⟨e1,e2⟩,⟨f1,f2⟩,hs⟩
theorem zrQ {c:zsl}(h:c.WF):((zsh.new c.sectors).n:Int)=c.sectors:=by
 have:=h.small;have:=h.log;have:=h.image;have:=h.rows;show (((min (max c.sectors 0) 65536).toNat:Nat):Int)=c.sectors
 unfold zsl.sectors at *
 omega
theorem znp {c:zsl}(h:c.WF):(zsg.new c).WF:=
 ⟨h,by simp[zsg.new],fun b hb=>by
  have:=List.eq_of_mem_replicate hb;subst this
  exact⟨.inl rfl,fun _=>zrQ h⟩,fun D hD=>by simp[zsg.new] at hD,fun h=>by simp[zsg.new] at h⟩
theorem zbo {w:World}{B:Nat}{c:zsl}{T:TypeId}{F:zsi}(h:Sat w (pts B (.cells (za8 c) T (0,0))*F)):
  (w.cell? ⟨B,0,none⟩=some (.int .i64 c.disks)∧w.cell? ⟨B,1,none⟩=some (.int .i64 c.racks)∧w.cell? ⟨B,2,none⟩=some (.int .i64 c.rows))∧
  (w.cell? ⟨B,3,none⟩=some (.int .i64 c.spare)∧w.cell? ⟨B,4,none⟩=some (.int .i64 c.log)∧w.cell? ⟨B,5,none⟩=some (.int .i64 c.image))∧B<w.heap.size∧w.rangeAt B 0 (zfa c):=by
 have hb:=zab h.block
 refine⟨⟨hb 0,hb 1,hb 2⟩,⟨hb 3,hb 4,hb 5⟩,h.lt,fun j u hu=>?_⟩
 rw[hb,Nat.zero_add,← hu];simp[zfa]
structure zrC (w:World)(p B0:Nat)(c:zsl)(F:zsi)(i:Value)(wr:World):Prop where
 st:∃ (k:Nat) (ps:List Nat) (vb:Value),(k:Int)≤c.disks∧i = .int .i64 k∧ps.length=k∧Same w wr∧Sat wr (pts p (.cells (zaJ c vb (.slice none 0 0) false false 0) TSh (0,0))*(zaf zct 2 vb k (zbq ps (List.replicate k ⟨zsh.new c.sectors,1⟩)) *
  (zaF TD TS ps (List.replicate k (zsh.new c.sectors))*(pts B0 (.cells (za8 c) zcC (0,0))*F))))
theorem zm8:(prog.info? zct).map (fun i=>(i.zero,i.size,i.bytes))=some (some (.agg #[.pointer none,.int .i64 0]),2,16):=by kernel_rfl
theorem zpG (c:zsl)(F:zsi)(w:World)(hF:Sat w F)(hok:c.ok=false):
  Calls prog 7 #[.agg (za8 c)] w fun e w'=>e = .returned (.tuple #[.pointer none,.int .i64 1])∧Hid (Same w w'∧Sat w' F):=by
 have hc:=ziR c (w.alloc (.cells (za8 c) zcC));rw[if_neg (by rw[hok];decide)] at hc;have HF:=zh hF;clear hF hok;go_enter func7,ntmps7;go_wp2_with (go_at_call 28;refine hc.mono ?_;rintro e w1 ⟨rfl,hb⟩;have HB:=zh hb;clear hb hc);go_ret2;exact⟨rfl,((Same.refl w).alloc _).below HB.out,(HF.out.allocKeep _).below HB.out⟩
theorem zn1 (c:zsl)(F:zsi)(w:World)(hF:Sat w F)(hok:c.ok=true)(hsm:c.sectors≤65536):
  Calls prog 7 #[.agg (za8 c)] w fun e w'=>∃ p,e = .returned (.tuple #[.pointer (some ⟨p,0,none⟩),.int .i64 0])∧Hid (Same w w'∧Sat w' (zac SH p (zsg.new c)*F)):=by
 have hc:=ziR c (w.alloc (.cells (za8 c) zcC));rw[if_pos hok] at hc;have hwf:=zqp hok hsm
 have hsec:=fun w'=>zhg c w' (by have:=hwf.log;omega) (by have:=hwf.image;omega) (by have:=hwf.rows;omega)
 have hlim:decide (65536<c.sectors)=false:=decide_eq_false (by omega);have HF:=(zd ((Same.refl w).alloc (.cells (za8 c) zcC)) (hF.alloc (.cells (za8 c) zcC)));have HWF:=zh hwf;have hd1:=hwf.disks.1;have hd2:=hwf.disks.2;obtain⟨sc,hsc⟩:∃ sc,c.sectors=sc:=⟨_,rfl⟩;rw[hsc] at hsec hlim;have HSC:=zh hsc;have HSEC:=zh hsec;clear hF hok hsm hwf hsc hsec;go_enter func7,ntmps7
 go_upto_region 5 with (first
  | (go_at_call 28;refine hc.mono ?_;rintro e w1 ⟨rfl,hb⟩;replace HF:=(zd (HF.out.1.below hb) (HF.out.2.below hb));obtain⟨⟨b0,b1,b2⟩,⟨b3,b4,b5⟩,bl,br⟩:=zbo HF.out.2;clear hb hc br)
  | (go_at_call 29;refine (HSEC.out _).mono ?_;rintro e w2 ⟨rfl,hb⟩;replace HF:=(zd (HF.out.1.below hb) (HF.out.2.below hb));clear b0 b1 b2 b3 b4 b5 bl;obtain⟨⟨b0,b1,b2⟩,⟨b3,b4,b5⟩,bl,br⟩:=zbo HF.out.2;clear hb br))
 go_upto_region 7 with (fail);have hA:=(HF.out.2.alloc (.cells (zaJ c (.slice none 0 0) (.slice none 0 0) false false 0) TSh));have hSm:=HF.out.1.alloc (.cells (zaJ c (.slice none 0 0) (.slice none 0 0) false false 0) TSh);clear HF b0 b1 b2 b3 b4 b5 bl;unfold zaJ at hA hSm;generalize w2.alloc (.cells _ TSh)=W at hA hSm ⊢;generalize w2.heap.size=p at hA ⊢;generalize w.heap.size=B0 at hA ⊢;have HA:=(zd hSm hA);clear hA hSm
 go_loopw [16] (fun i wr=>zrC w p B0 c F i wr) (fun i _=>c.disks.toNat - (intOf i).toNat)
 case atStart =>
  have h0:Sat W (zaf zct 2 (.slice none 0 0) 0 []*(pts p (.cells (zaJ c (.slice none 0 0) (.slice none 0 0) false false 0) TSh (0,0))*(emp*(pts B0 (.cells (za8 c) zcC (0,0))*F)))):=zbp.2 (by rw[zaL];exact HA.out.2);exact⟨0,[],.slice none 0 0,by omega,rfl,rfl,HA.out.1,h0.perm (by show _=pts p _*(zaf zct 2 _ 0 []*(emp*_));unfold zaJ;ac_rfl)⟩
 case round =>
  obtain⟨k,ps,vb,hk,rfl,hps,hsm,hs⟩:=hrel.st;clear hrel HA;have H1:=(zd hsm hs);have HPS:=zh hps;have hp6:wr.cell? ⟨p,6,none⟩=some vb:=zab hs.block 6
  obtain⟨_,_,hp,hra⟩:=zbo (hs.perm (show _=pts B0 (.cells (za8 c) zcC (0,0))*(pts p (.cells (zaJ c vb (.slice none 0 0) false false 0) TSh (0,0))*(zaf zct 2 vb k (zbq ps (List.replicate k ⟨zsh.new c.sectors,1⟩)) *
   (zaF TD TS ps (List.replicate k (zsh.new c.sectors))*F))) from by ac_rfl))
  clear hsm hs hps
  by_cases hlt:(k:Int)<c.disks
  ·have hltd:decide ((k:Int)<c.disks)=true:=decide_eq_true hlt
   go_upto_region 8 with (fail);have hS0:wr.drew.cell? ⟨p,6,none⟩=some vb∧wr.drew.rangeAt B0 0 (zfa c):=⟨hp6,hra⟩;refine zah (fun w'=>w'.cell? ⟨p,6,none⟩=some vb∧w'.rangeAt B0 0 (zfa c)) (by kernel_rfl) ?_;(apply zaa 0 rfl rfl (by kernel_rfl) rfl);(rintro w' ⟨h1,h2⟩;go_simp;rfl);exact hS0;simp only[zq];(apply zaa 1 rfl rfl (by kernel_rfl) rfl);(rintro w' ⟨h1,h2⟩;go_simp;rfl);exact hS0;simp only[zq];(apply zaa 2 rfl rfl (by kernel_rfl) rfl);(rintro w' ⟨h1,h2⟩;go_simp;rfl);exact hS0;simp only[zq];(apply zaa 3 rfl rfl (by kernel_rfl) rfl);(rintro w' ⟨h1,h2⟩;go_simp;rfl);exact hS0;simp only[zq]
   (apply zaa 4 rfl rfl (by kernel_rfl) rfl);(rintro w' ⟨h1,h2⟩;go_simp;rfl);exact hS0;simp only[zq];refine zaa 5 (v:=.agg (za8 c)) rfl rfl (by kernel_rfl) rfl (fun w' h=>zbC rfl rfl (zeT h.2)) hS0 ?_;simp only[zq];refine zan 6 rfl rfl (by kernel_rfl) rfl (f:=29) (args:=#[.agg (za8 c)]) (R:=fun v w'=>v = .int .i64 sc∧Hid (Below wr.heap.size wr w')) (by kernel_rfl) ((HSEC.out wr.drew).mono fun e w' h=>⟨_,h.1,rfl,⟨h.2.os,h.2.tape,h.2.output,h.2.size,h.2.block⟩⟩) ?_;rintro _ w1 ⟨rfl,hb1⟩;replace H1:=(zd (H1.out.1.below hb1.out) (H1.out.2.below hb1.out))
   have hS1:w1.cell? ⟨p,6,none⟩=some vb∧w1.rangeAt B0 0 (zfa c):=⟨(hb1.out.cell (p:=⟨p,6,none⟩) (World.block_lt_of_cell? _ _ hp6)).trans hp6,fun j u hu=>(hb1.out.cell (p:=⟨B0,0+j,none⟩) hp).trans (hra j u hu)⟩
   refine⟨hS1,?_⟩;simp only[zq]
   refine zan 7 rfl rfl (by kernel_rfl) rfl (f:=30) (args:=#[.int .i64 sc]) (R:=fun v w'=>∃ q,v = .pointer (some ⟨q,0,none⟩)∧Hid (Same w w'∧Sat w' (zak TD TS q (zsh.new c.sectors)*(pts p (.cells (zaJ c vb (.slice none 0 0) false false 0) TSh (0,0))*(zaf zct 2 vb k (zbq ps (List.replicate k ⟨zsh.new c.sectors,1⟩)) *
    (zaF TD TS ps (List.replicate k (zsh.new c.sectors))*(pts B0 (.cells (za8 c) zcC (0,0))*F))))))) (by kernel_rfl)
    ((zj4 sc _ w1 H1.out.2).mono fun e w' h=>by
     obtain⟨q',rfl,h1,h2⟩:=h;rw[show zsh.new sc=zsh.new c.sectors by rw[HSC.out]] at h2
     exact⟨_,rfl,q',rfl,H1.out.1.trans h1,h2⟩) ?_
   rintro _ w3 ⟨q,rfl,h3⟩
   have hS3:w3.cell? ⟨p,6,none⟩=some vb∧w3.rangeAt B0 0 (zfa c):=⟨zab h3.out.2.right.block 6,(zbo (h3.out.2.perm (show _=pts B0 (.cells (za8 c) zcC (0,0))*(zak TD TS q (zsh.new c.sectors)*(pts p (.cells (zaJ c vb (.slice none 0 0) false false 0) TSh (0,0))*(zaf zct 2 vb k (zbq ps (List.replicate k ⟨zsh.new c.sectors,1⟩)) *
    (zaF TD TS ps (List.replicate k (zsh.new c.sectors))*F)))) from by ac_rfl))).2.2.2⟩
   refine⟨hS3,?_⟩;simp only[zq];(apply zaa 8 rfl rfl (by kernel_rfl) rfl);(rintro w' ⟨h1,h2⟩;go_simp;rfl);exact hS3;simp only[zq];have hA4:=h3.out.2.alloc (.cells #[.pointer (some ⟨q,0,none⟩),.int .i64 1] zct);have hS4:(w3.alloc (.cells #[.pointer (some ⟨q,0,none⟩),.int .i64 1] zct)).cell? ⟨p,6,none⟩=some vb∧(w3.alloc (.cells #[.pointer (some ⟨q,0,none⟩),.int .i64 1] zct)).rangeAt B0 0 (zfa c):=⟨zab hA4.right.right.block 6,fun j u hu=>(World.cell?_alloc_lt _ _ _ (World.block_lt_of_cell? _ _ (hS3.2 j u hu))).trans (hS3.2 j u hu)⟩
   refine zaV 9 (.slice (some ⟨w3.heap.size,0,none⟩) 1 1) (w3.alloc (.cells #[.pointer (some ⟨q,0,none⟩),.int .i64 1] zct)) rfl rfl (by kernel_rfl) rfl (by go_simp) (hS4) ?_;simp only[zq]
   have hA5:=hA4.perm (show _=zaf zct 2 vb k (zbq ps (List.replicate k ⟨zsh.new c.sectors,1⟩))*(pts w3.heap.size (.cells #[.pointer (some ⟨q,0,none⟩),.int .i64 1] zct (0,0))*(zak TD TS q (zsh.new c.sectors)*(pts p (.cells (zaJ c vb (.slice none 0 0) false false 0) TSh (0,0)) *
    (zaF TD TS ps (List.replicate k (zsh.new c.sectors))*(pts B0 (.cells (za8 c) zcC (0,0))*F))))) from by ac_rfl)
   obtain⟨ti,hti,hz0,hts,hz2⟩:=info_parts zm8;obtain⟨v',w5,hr,hsm5,hs5⟩:=zaH (P:=prog) 76 76 zct ti _ underlying76 hti hz0 (by rw[hts];rfl) vb k (zbq ps (List.replicate k ⟨zsh.new c.sectors,1⟩)) (by rw[hts];exact hA5) ⟨w3.heap.size,0,none⟩ 1 1 [.pointer (some ⟨q,0,none⟩),.int .i64 1] (by rw[hts];rfl)
    (by intro j u hu;rw[Addr.add_mid,zab hA5.right.block,Nat.zero_add];simpa using hu) (by simp[Value.oneCell']) (by unfold maxLen;omega) (by rw[hz2];omega)
   rw[hts] at hs5
   have hs6:=hs5.perm (show _=pts p (.cells (zaJ c vb (.slice none 0 0) false false 0) TSh (0,0))*(zaf zct 2 v' (k+1) (zbq ps (List.replicate k ⟨zsh.new c.sectors,1⟩)++[.pointer (some ⟨q,0,none⟩),.int .i64 1]) *
    (pts w3.heap.size (.cells #[.pointer (some ⟨q,0,none⟩),.int .i64 1] zct (0,0))*(zak TD TS q (zsh.new c.sectors)*(zaF TD TS ps (List.replicate k (zsh.new c.sectors))*(pts B0 (.cells (za8 c) zcC (0,0))*F))))) from by ac_rfl)
   have hS6:w5.cell? ⟨p,6,none⟩=some vb∧w5.rangeAt B0 0 (zfa c):=⟨zab hs6.block 6,(zbo (hs6.perm (show _=pts B0 (.cells (za8 c) zcC (0,0))*(pts p (.cells (zaJ c vb (.slice none 0 0) false false 0) TSh (0,0))*(zaf zct 2 v' (k+1) (zbq ps (List.replicate k ⟨zsh.new c.sectors,1⟩)++[.pointer (some ⟨q,0,none⟩),.int .i64 1]) *
    (pts w3.heap.size (.cells #[.pointer (some ⟨q,0,none⟩),.int .i64 1] zct (0,0))*(zak TD TS q (zsh.new c.sectors)*(zaF TD TS ps (List.replicate k (zsh.new c.sectors))*F))))) from by ac_rfl))).2.2.2⟩
   refine zaV 10 (v') (w5) rfl rfl (by kernel_rfl) rfl (zbc rfl rfl rfl hr) (hS6) ?_;simp only[zq];(apply zaa 11 rfl rfl (by kernel_rfl) rfl);(rintro w' ⟨h1,h2⟩;go_simp;rfl);exact hS6;simp only[zq];(apply zaa 12 rfl rfl (by kernel_rfl) rfl);(rintro w' ⟨h1,h2⟩;go_simp;rfl);exact hS6;simp only[zq];obtain⟨ip,hip,hip2⟩:=Option.map_eq_some_iff.1 (show (prog.info? 76).map (·.size)=some 1 by kernel_rfl);obtain⟨ao',cp',rfl⟩:=zal hs5;refine zat 13 (w5.setCell ⟨p,6,none⟩ (.slice ao' (k+1) cp')) rfl rfl (by kernel_rfl) rfl (zay rfl rfl rfl hip hip2 rfl hS6.1 (zaj hs6.block 6)) ?_
   go_wp2
   go_roundw
   case rel =>
    refine⟨⟨k+1,ps++[q],.slice ao' (k+1) cp',by omega,rfl,by rw[List.length_append,HPS.out];rfl,(((h3.out.1.alloc _).trans hsm5).setCell _ _),?_⟩⟩;rw[List.replicate_succ',List.replicate_succ',ziO _ _ _ _ (by rw[HPS.out];simp),zfk _ _ _ _ (by rw[HPS.out];simp)];have h9:=(hs6.setCell (i:=6) (.slice ao' (k+1) cp'))
    exact (h9.perm (show _=pts w3.heap.size (.cells #[.pointer (some ⟨q,0,none⟩),.int .i64 1] zct (0,0))*(pts p (.cells (zaJ c (.slice ao' (k+1) cp') (.slice none 0 0) false false 0) TSh (0,0))*(zaf zct 2 (.slice ao' (k+1) cp') (k+1) (zbq ps (List.replicate k ⟨zsh.new c.sectors,1⟩)++[.pointer (some ⟨q,0,none⟩),.int .i64 1]) *
     (zaF TD TS ps (List.replicate k (zsh.new c.sectors))*zak TD TS q (zsh.new c.sectors)*(pts B0 (.cells (za8 c) zcC (0,0))*F)))) from by unfold zaJ;simp only[zq];ac_rfl)).right
   case measure=>simp only[intOf];omega
  ·have hltd:decide ((k:Int)<c.disks)=false:=decide_eq_false hlt
   have hke:k=c.disks.toNat:=by omega
   clear hra;go_wp2;go_ret2;refine⟨p,rfl,H1.out.1,zbJ.2 ⟨vb,.slice none 0 0,ps,[],⟨znp HWF.out,by rw[HPS.out,hke];simp[zsg.new],rfl⟩,?_⟩⟩;have h9:Sat wr (zaf zer 1 (.slice none 0 0) 0 []*_):=zbp.2 H1.out.2;rw[hke] at h9;have e1:(zsg.new c).bays=List.replicate c.disks.toNat ⟨zsh.new c.sectors,1⟩:=rfl
   have e2:(zsg.new c).bays.map zsk.disk=List.replicate c.disks.toNat (zsh.new c.sectors):=by rw[e1];simp
   rw[e2,e1,List.length_replicate];have h10:=h9.perm (show _=pts B0 (.cells (za8 c) zcC (0,0))*(pts p (.cells (zaJ c vb (.slice none 0 0) false false 0) TSh (0,0))*(zaf zct 2 vb c.disks.toNat (zbq ps (List.replicate c.disks.toNat ⟨zsh.new c.sectors,1⟩))*(zaf zer 1 (.slice none 0 0) 0 []*(zaF TD TS ps (List.replicate c.disks.toNat (zsh.new c.sectors))*F)))) from by ac_rfl);have h11:=h10.right;exact h11.perm (by show _=pts p _*(_*(zaf zer 1 _ 0 []*(_*(emp*F))));rw[zaL];rfl)
end Go.Proofs.YtmcclbiaoeilkaaGreat
end
