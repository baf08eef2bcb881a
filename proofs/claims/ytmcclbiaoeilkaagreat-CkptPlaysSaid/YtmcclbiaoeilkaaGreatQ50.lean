import Derived.Test.YtmcclbiaoeilkaaGreatQ49
set_option maxHeartbeats 4000000
set_option maxRecDepth 20000
/- Part 50. -/
section
namespace Go.Proofs.YtmcclbiaoeilkaaGreat
open Go.Proofs.Tryz Go.RowKit Go.Sl Go.ChangeMaps
structure zqY (w:World)(p:Nat)(S:zsg)(F:zsi)(n:Nat)(picks:List Int)(pv i:Value)(wr:World):Prop where
 st:∃ (k:Nat) (dn:List zsk) (pk:List Int),k≤n∧i = .int .i64 (k:Int)∧dn.length=k∧zsg.cutBays S.bays picks=dn++zsg.cutBays (S.bays.drop k) pk∧Hid (∀ w',Sat w' F→IntsC w' pv pk)∧pk.length≤9223372036854775807∧Hid (Same w wr∧Sat wr (zad RS p { S with bays:=dn++S.bays.drop k }*F))
theorem zkk {p:Nat}{S:zsg}{F:zsi}{w:World}(h:Sat w (zad RS p S*F)):w.frozen? ⟨p,9,none⟩=false∧w.frozen? ⟨p,10,none⟩=false∧(∃ b l,w.cell? ⟨p,9,none⟩=some (.bool b)∧w.cell? ⟨p,10,none⟩=some (.int .i64 l))∧Sat ((w.setCell ⟨p,9,none⟩ (.bool true)).setCell ⟨p,10,none⟩ (.int .i64 (-1))) (zad RS p { S with off:=false,fused:=false }*F):=by
 obtain⟨vb,vs,vi,ps,qs,⟨hwf,h1,h2⟩,hs⟩:=za9.1 h;obtain⟨⟨_,_,_,q9,q10⟩,_,_⟩:=zbN hs;refine⟨zaj hs.block 9,zaj hs.block 10,⟨_,_,q9,q10⟩,za9.2 ⟨vb,vs,vi,ps,qs,⟨⟨hwf.cfg,hwf.bays,hwf.st,hwf.images,fun h=>by cases h⟩,h1,h2⟩,?_⟩⟩;have h9:=(hs.setCell (i:=9) (.bool true)).setCell (i:=10) (.int .i64 (-1));unfold rsC at h9;simp only[zq] at h9;exact h9
theorem zl8 (p:Nat)(S:zsg)(F:zsi)(pv:Value)(picks:List Int)(w:World)(hS:Sat w (zad RS p S*F))(hpk:∀ w',Sat w' F→IntsC w' pv picks)(hpl:picks.length≤9223372036854775807):
  Calls prog 61 #[.pointer (some ⟨p,0,none⟩),pv] w fun e w'=>e = .returned (.tuple #[])∧Hid (Same w w'∧Sat w' (zad RS p (S.mount picks)*F)):=by
 have hwf:=zbm hS
 have hn64:S.bays.length≤64:=by rw[hwf.bays];have:=hwf.cfg.disks;omega
 obtain⟨n,hnn⟩:∃ n,S.bays.length=n:=⟨_,rfl⟩;rw[hnn] at hn64;have HNN:=zh hnn;have H0:=zh (show zqY w p S F n picks pv (.int .i64 0) w from⟨0,[],picks,Nat.zero_le _,rfl,rfl,rfl,hpk,hpl,Same.refl w,hS⟩);clear hS hpk hpl hwf hnn;go_enter func61,ntmps61;go_upto_region 1 with (fail)
 go_loopw [1,4] (fun pv i wr=>zqY w p S F n picks pv i wr) (fun _ i _=>n - (intOf i).toNat)
 case atStart=>exact H0.out
 case round =>
  clear H0;obtain⟨k,dn,pk,hk,rfl,hdn,hcb,HPK,hpkl,H1⟩:=hrel.st;clear hrel;obtain⟨ao,pc,rfl,-,-⟩:=HPK.out _ H1.out.2.right
  have hk64:(k:Int)≤64:=by omega
  by_cases hlt:k<n
  ·have hltd:decide ((k:Int)<(n:Int))=true:=decide_eq_true (by omega)
   have hkn:(k:Int)<(n:Int):=by omega
   have hk0:(0:Int)≤(k:Int):=by omega
   have hwk:IntKind.i64.wrap ((k:Int)+1)=(k:Int)+1:=IntWalk.i64_in _ (by omega);have hn2:=HNN.out
   have hblen:(dn++S.bays.drop k).length=n:=by rw[List.length_append,List.length_drop];omega
   obtain⟨b,hb⟩:∃ b,S.bays[k]?=some b:=⟨_,List.getElem?_eq_getElem (by omega)⟩
   have hdrop:S.bays.drop k=b::S.bays.drop (k+1):=by
    rw[List.drop_eq_getElem_cons (by omega)];congr 1;rw[List.getElem?_eq_getElem (by omega)] at hb;exact Option.some.inj hb
   have hSb:(dn++S.bays.drop k)[k]?=some b:=by rw[List.getElem?_append_right (by omega),hdn,Nat.sub_self,hdrop];rfl
   obtain⟨T,hT⟩:∃ T:zsg,T={ S with bays:=dn++S.bays.drop k }:=⟨_,rfl⟩;rw[← hT] at H1
   have hTb:T.bays=dn++S.bays.drop k:=by rw[hT]
   have hTl:T.bays.length=n:=by rw[hTb];exact hblen
   have hbo:=zsg.bay_of (S:=T) (d:=(k:Int)) (by omega) (by omega);rw[Int.toNat_natCast,hTb] at hbo;have hbb:=Option.some.inj (hSb.symm.trans hbo)
   have hbs:b.state=T.state k:=by rw[hbb]
   have hbd:b.disk=T.disk k:=by rw[hbb]
   obtain⟨vb,vs,vi,ps,qs,q,R,ho,hs⟩:=zcL H1.out.2 (k:=k) (by omega);obtain⟨gs,caps,rfl,c7,cs,-⟩:=zdV ho hs;obtain⟨g,capb,rfl,c6,cq,-⟩:=zbw ho hs;rw[hTl] at c6 c7;have HT:=(zd hT (And.intro hTl (And.intro hbs (And.intro hbd hdrop))));have HH:=(zd hcb hdn)
   by_cases h1:T.state (k:Int)=1
   ·rw[h1] at cs
    have hwfD:=H1.out.2;rw[zcl,← hbd] at hs;have HPD:=zh (zgj q b.disk _ wr hs);obtain⟨pl,hple⟩:∃ pl,b.disk.pending.length=pl:=⟨_,rfl⟩;rw[hple] at HPD
    have hwfd:b.disk.WF:=by obtain⟨_,_,⟨h,_⟩,_⟩:=zbz.1 hs;exact h
    have hpl2:pl≤65536:=by rw[← hple];exact Nat.le_trans (zik b.disk b.disk.n) hwfd.small
    have HPL:=zh hple;have HO:=(zd ho h1);clear hs ho hple hwfD hwfd h1 hbb hbo hbs hbd hSb hdrop hb hblen hn2 hTb hTl hT hcb hdn hlt hk;go_upto_region 5 with (go_at_call 110;refine HPD.out.mono ?_;rintro e w2 ⟨pvv,rfl,h2⟩;obtain⟨ao2,pc2,rfl⟩:=zal h2.out.2)
    obtain⟨m,hm⟩:∃ m,min pl pk.length=m:=⟨_,rfl⟩
    have hmi:min (pl:Int) (pk.length:Int)=(m:Int):=by omega
    have hm1:m≤pk.length:=by omega
    have htk:pk.take b.disk.pending.length=pk.take m:=by rw[HPL.out,← hm];rw[List.take_eq_take_iff];omega
    have hdk:pk.drop b.disk.pending.length=pk.drop m:=by
     rw[HPL.out,← hm];rcases Nat.le_total pl pk.length with h|h
     ·rw[Nat.min_eq_left h]
     ·rw[Nat.min_eq_right h,List.drop_eq_nil_of_le h,List.drop_eq_nil_of_le (Nat.le_refl _)]
    rw[hmi];have HTD:=(zd htk hdk)
    have hsF:∀ (w':World) (D:zsh),Sat w' (zbF RT q D*zos p T (.slice (some ⟨g,0,none⟩) T.bays.length capb) (.slice (some ⟨gs,0,none⟩) T.bays.length caps) vi ps qs R F)→Sat w' F:=fun w' D h=>by
     have h1:=h.right;unfold zos at h1;exact h1.right.right.right.right.right.right
    have HA:=(zd (H1.out.1.trans h2.out.1) h2.out.2.right);obtain⟨v1,hv1,hvi1⟩:=zlc (P:=prog) (HPK.out _ (hsF _ _ HA.out.2)) hm1 underlying38 zm6;have HV1:=zh hv1
    have HCUT:=zh (zk1 q b.disk _ v1 (pk.take m) w2.drew HA.out.2.drew (fun w' h=>(hvi1 w' (HPK.out w' (by unfold zos at h;exact h.right.right.right.right.right.right))).at))
    have hx:=HA.out.2;rw[HT.out.2.2.2.1,← zcl] at hx;obtain⟨g',capb',eg,d6,dq,-⟩:=zbw HO.out.1 hx;simp only[Value.slice.injEq,Option.some.injEq,Addr.mk.injEq,and_true,true_and] at eg;obtain⟨rfl,rfl⟩:=eg;rw[HT.out.2.1] at d6;have hS0:w2.drew.cell? ⟨p,6,none⟩=some (.slice (some ⟨g,0,none⟩) n capb)∧w2.drew.cell? ⟨g,k,none⟩=some (.pointer (some ⟨q,0,none⟩)):=⟨d6,dq⟩;clear hm hmi htk hdk hv1 hvi1 hsF hx d6 dq c6 c7 cs cq h2 HPD
    refine zah (fun w'=>w'.cell? ⟨p,6,none⟩=some (.slice (some ⟨g,0,none⟩) n capb)∧w'.cell? ⟨g,k,none⟩=some (.pointer (some ⟨q,0,none⟩))) (by kernel_rfl) ?_
    (apply zaa 0 rfl rfl (by kernel_rfl) rfl);(rintro w' ⟨h1,h2⟩;go_simp;rfl);exact hS0;simp only[zq];(apply zaa 1 rfl rfl (by kernel_rfl) rfl);(rintro w' ⟨h1,h2⟩;go_simp;rfl);exact hS0;simp only[zq];(apply zaa 2 rfl rfl (by kernel_rfl) rfl);(rintro w' ⟨h1,h2⟩;go_simp;rfl);exact hS0;simp only[zq];(apply zaa 3 rfl rfl (by kernel_rfl) rfl);(rintro w' ⟨h1,h2⟩;go_simp;rfl);exact hS0;simp only[zq];(apply zaa 4 rfl rfl (by kernel_rfl) rfl);(rintro w' ⟨h1,h2⟩;go_simp;rfl);exact hS0;simp only[zq];(apply zaa 5 rfl rfl (by kernel_rfl) rfl);(rintro w' ⟨h1,h2⟩;go_simp;rfl);exact hS0;simp only[zq]
    (apply zaa 6 rfl rfl (by kernel_rfl) rfl);(rintro w' ⟨h1,h2⟩;go_simp;rfl);exact hS0;simp only[zq];(apply zaa 7 rfl rfl (by kernel_rfl) rfl);(rintro w' ⟨h1,h2⟩;go_simp;rfl);exact hS0;simp only[zq];(apply zaa 8 rfl rfl (by kernel_rfl) rfl);(rintro w' ⟨h1,h2⟩;go_simp;rfl);exact hS0;simp only[zq];refine zaa 9 (v:=v1) rfl rfl (by kernel_rfl) rfl (fun _ _=>zfc rfl rfl (HV1.out _)) hS0 ?_;simp only[zq]
    refine zan 10 rfl rfl (by kernel_rfl) rfl (f:=111) (args:=#[.pointer (some ⟨q,0,none⟩),v1]) (R:=fun v w'=>v = .tuple #[]∧Hid (Same w w'∧Sat w' (zbF RT q (b.disk.cut (pk.take m))*zos p T (.slice (some ⟨g,0,none⟩) T.bays.length capb) (.slice (some ⟨gs,0,none⟩) T.bays.length caps) vi ps qs R F))) (by kernel_rfl) (HCUT.out.mono fun e w' h=>⟨_,h.1,rfl,HA.out.1.drew.trans h.2.out.1,h.2.out.2⟩) ?_
    rintro _ w3 ⟨rfl,H3⟩;have hx:=H3.out.2;rw[← zcl] at hx;obtain⟨g',capb',eg,d6,dq,-⟩:=zbw HO.out.1 hx;simp only[Value.slice.injEq,Option.some.injEq,Addr.mk.injEq,and_true,true_and] at eg;obtain⟨rfl,rfl⟩:=eg;rw[HT.out.2.1] at d6;refine⟨⟨d6,dq⟩,?_⟩;have HX:=(zd H3.out.1 hx);clear hx d6 dq hS0 HCUT HA H3;simp only[zq];refine zar (by kernel_rfl) ?_;go_wp2
    go_roundw
    case rel =>
     refine⟨⟨k+1,dn++[⟨b.disk.cut (pk.take m),1⟩],pk.drop m,by omega,rfl,by rw[List.length_append,HH.out.2];rfl,?_,zh fun w' h=>(HPK.out w' h).drop hm1,by rw[List.length_drop];omega,HX.out.1,?_⟩⟩
     ·rw[HH.out.1,HT.out.2.2.2.2,zgI (by rw[HT.out.2.2.1];exact HO.out.2),HTD.out.1,HTD.out.2];simp
     ·have hset:(dn++S.bays.drop k).set k ⟨b.disk.cut (pk.take m),1⟩=(dn++[⟨b.disk.cut (pk.take m),1⟩])++S.bays.drop (k+1):=by
       rw[HT.out.2.2.2.2,List.set_append_right _ _ (by rw[HH.out.2];exact Nat.le_refl _),HH.out.2,Nat.sub_self];simp
      have hwf2:=(zbm H1.out.2).setDisk (d:=(k:Int)) (D:=b.disk.cut (pk.take m)) (by rw[HO.out.2];decide) (by rw[← HT.out.2.2.2.1];rfl);have h8:=ze3 HO.out.1 hwf2 HX.out.2
      have e9:T.setDisk k (b.disk.cut (pk.take m))={ S with bays:=(dn++[⟨b.disk.cut (pk.take m),1⟩])++S.bays.drop (k+1) }:=by
       unfold zsg.setDisk zsg.setBay;rw[HO.out.2,Int.toNat_natCast,HT.out.1];dsimp only;rw[hset]
      rw[e9] at h8;exact h8
    case measure=>simp only[intOf];omega
   ·have e1:(T.state (k:Int) != 1)=true:=by simp[h1]
    have H1N:=zh (show b.state≠1 by rw[hbs];exact h1);generalize T.state (k:Int)=st at cs e1;clear hs ho h1 hbb hbo hbs hbd hSb hdrop hb hblen hn2 hTb hTl hT hcb hdn hlt hk;go_wp2
    go_roundw
    case rel =>
     refine⟨⟨k+1,dn++[b],pk,by omega,rfl,by rw[List.length_append,HH.out.2];rfl,?_,HPK,hpkl,H1.out.1,?_⟩⟩
     ·rw[HH.out.1,HT.out.2.2.2.2,zgc H1N.out];simp
     ·have:=H1.out.2
      rw[HT.out.1,HT.out.2.2.2.2] at this;rw[List.append_assoc];exact this
    case measure=>simp only[intOf];omega
  ·have hltd:decide ((k:Int)<(n:Int))=false:=decide_eq_false (by omega)
   obtain rfl:k=n:=by omega
   have e1:S.bays.drop k=[]:=List.drop_eq_nil_of_le (by rw[HNN.out];exact Nat.le_refl _);rw[e1] at hcb H1
   have hcb2:zsg.cutBays S.bays picks=dn:=by rw[hcb];simp[zsg.cutBays]
   rw[List.append_nil,← hcb2] at H1;obtain⟨vb,vs,vi,ps,qs,-,hs9⟩:=za9.1 H1.out.2;obtain⟨⟨q6,_,_,_,_⟩,_,_⟩:=zbN hs9;obtain⟨ao6,cap6,rfl⟩:=zal hs9.right
   have hl6:({ S with bays:=zsg.cutBays S.bays picks }:zsg).bays.length=k:=by show (zsg.cutBays S.bays picks).length=k;rw[hcb2];exact hdn
   rw[hl6] at q6;obtain⟨f9,f10,⟨b9,l10,c9,c10⟩,hfin⟩:=zkk H1.out.2;have HF:=(zd ((H1.out.1.setCell ⟨p,9,none⟩ (.bool true)).setCell ⟨p,10,none⟩ (.int .i64 (-1))) hfin);clear hs9 hcb hcb2 e1 hfin hdn hl6 H1;go_wp2
   first|go_end0|go_ret
   exact⟨rfl,HF.out⟩
structure zp4 (w:World)(p:Nat)(Z:zsg×Int)(F:zsi)(n:Nat)(i:Value)(wr:World):Prop where
 st:∃ (k:Nat) (S':zsg),k≤n∧i = .int .i64 (k:Int)∧S'.bays.length=n∧Z=S'.flushFrom k (n - k)∧Same w wr∧Sat wr (zad RS p S'*F)
theorem zio (p:Nat)(S:zsg)(F:zsi)(w:World)(hS:Sat w (zad RS p S*F)):
  Calls prog 59 #[.pointer (some ⟨p,0,none⟩)] w fun e w'=>e = .returned (.int .i64 S.flushAll.2)∧Hid (Same w w'∧Sat w' (zad RS p S.flushAll.1*F)):=by
 have hwf:=zbm hS
 have hn0:0<S.bays.length:=by rw[hwf.bays];have:=hwf.cfg.disks;omega
 have hn64:S.bays.length≤64:=by rw[hwf.bays];have:=hwf.cfg.disks;omega
 obtain⟨_,c9,_⟩:=zfr hS
 have hfa:S.flushAll=if S.off then (S,14) else S.flushFrom 0 S.bays.length:=rfl
 have HS:=zh hS;obtain⟨n,hn⟩:∃ n,S.bays.length=n:=⟨_,rfl⟩;rw[hn] at hn0 hn64 hfa;have HN:=zh hn;clear hn hwf hS
 cases ho:S.off with
 | true =>
  rw[ho] at c9 hfa;rw[hfa,if_pos rfl];clear hfa ho;go_enter func59,ntmps59;go_wp2;go_ret;exact⟨rfl,Same.refl w,HS.out⟩
 | false =>
  rw[ho] at c9 hfa;rw[if_neg (by decide)] at hfa;obtain⟨Z,hZ⟩:∃ Z,Z=S.flushFrom 0 n:=⟨_,rfl⟩;rw[← hZ] at hfa;rw[hfa];have H0:=zh (show zp4 w p Z F n (.int .i64 0) w from⟨0,S,Nat.zero_le _,rfl,HN.out,hZ,Same.refl w,HS.out⟩);clear hfa ho hZ HS;go_enter func59,ntmps59;go_upto_region 4 with (fail)
  clear c9
  go_loopw [3,4] (fun i _ wr=>zp4 w p Z F n i wr) (fun i _ _=>n - (intOf i).toNat)
  case atStart=>exact H0.out
  case round =>
   clear H0;obtain⟨k,S',hk,rfl,hlen,hff,hsm,hst⟩:=hrel.st;clear hrel
   have hk64:(k:Int)≤64:=by omega
   have hwk:IntKind.i64.wrap ((k:Int)+1)=(k:Int)+1:=IntWalk.i64_in _ (by omega)
   by_cases hlt:k<n
   ·have hltd:decide ((k:Int)<(n:Int))=true:=decide_eq_true (by omega)
    have hkn:(k:Int)<(n:Int):=by omega
    have hk0:(0:Int)≤(k:Int):=by omega
    obtain⟨g,capb,gs,caps,q,R,⟨c6,c7⟩,⟨_,cs⟩,_⟩:=zdo hst (k:=k) (by omega);rw[hlen] at c6 c7;have hstep:=zsg.flushFrom_lt S' k n hlt
    by_cases h1:S'.state k=1
    ·rw[h1] at cs
     rw[if_neg (by simp[h1])] at hstep;have HFL:=zh (zeC p S' F k wr hst)
     by_cases he:(S'.flush k).2=0
     ·rw[if_neg (by simp[he])] at hstep
      rw[he] at HFL;have HH:=(zd hsm (And.intro (hff.trans hstep) (show (S'.flush k).1.bays.length=n by rw[zsg.flush_len];exact hlen)));generalize (S'.flush k).1=S2 at HFL HH;clear hsm hff hstep he hst h1 hlen;go_wp2_with (go_at_call 58;refine HFL.out.mono ?_;rintro e w2 ⟨rfl,h2⟩)
      go_roundw
      case rel=>exact⟨⟨k+1,S2,hlt,by push_cast;rfl,HH.out.2.2,HH.out.2.1,HH.out.1.trans h2.out.1,h2.out.2⟩⟩
      case measure=>simp only[intOf];omega
     ·rw[if_pos he] at hstep
      have HH:=(zd hsm (hff.trans hstep))
      have e1:((S'.flush k).2 != 0)=true:=by simp[he]
      generalize S'.flush k=Y at HFL HH e1;clear hsm hff hstep he hst h1 hlen;go_wp2_with (go_at_call 58;refine HFL.out.mono ?_;rintro e w2 ⟨rfl,h2⟩);go_ret;rw[HH.out.2];exact⟨rfl,HH.out.1.trans h2.out.1,h2.out.2⟩
    ·rw[if_pos h1] at hstep
     have e1:(S'.state k != 1)=true:=by simp[h1]
     have HH:=zh (show zp4 w p Z F n (.int .i64 ((k:Int)+1)) wr from⟨k+1,S',hlt,by push_cast;rfl,hlen,hff.trans hstep,hsm,hst⟩);generalize S'.state k=st at cs e1;clear hsm hff hstep hst h1 hlen;go_wp2
     go_roundw
     case rel=>exact HH.out
     case measure=>simp only[intOf];omega
   ·have hke:k=n:=by omega
    have hltd:decide ((k:Int)<(n:Int))=false:=decide_eq_false (by omega);obtain⟨g,capb,gs,caps,q,R,⟨c6,c7⟩,⟨_,cs⟩,_⟩:=zdo hst (k:=0) (by omega);rw[hlen] at c6
    have hz:Z=(S',0):=by rw[hff,hke,Nat.sub_self];rfl
    have HH:=(zd hsm hst);clear hsm hst hff c7 cs;go_wp2;go_ret;rw[hz];exact⟨rfl,HH.out.1,HH.out.2⟩
theorem zki (p:Nat)(S:zsg)(F:zsi)(a:zsj)(w:World)(hS:Sat w (zad RS p S*F)):
  Calls prog 67 #[.pointer (some ⟨p,0,none⟩),.agg (plA a)] w fun e w'=>e = .returned (.int .i64 (S.lose a).2)∧Hid (Same w w'∧Sat w' (zad RS p (S.lose a).1*F)):=by
 have hwf:=zbm hS;obtain⟨d,ar,ix⟩:=a;have HA:=zh (show Same w (w.alloc (.cells (plA ⟨d,ar,ix⟩) TPl))∧Sat (w.alloc (.cells (plA ⟨d,ar,ix⟩) TPl)) (zad RS p S*(pts w.heap.size (.cells (plA ⟨d,ar,ix⟩) TPl (0,0))*F)) from⟨(Same.refl w).alloc _,(hS.alloc (.cells (plA ⟨d,ar,ix⟩) TPl)).perm (by ac_rfl)⟩)
 have HNB:=zh (fun G W (h:Sat W (zad RS p S*G))=>zcx p S G ⟨d,ar,ix⟩ W h)
 have hwr:S.lose ⟨d,ar,ix⟩=if S.number ⟨d,ar,ix⟩<0∨true=false then (S,1) else if S.state d=1 then (S.setDisk d ((S.disk d).lose (S.number ⟨d,ar,ix⟩)).1,((S.disk d).lose (S.number ⟨d,ar,ix⟩)).2) else (S,15):=rfl
 clear hS
 by_cases hn:S.number ⟨d,ar,ix⟩<0
 ·rw[if_pos (.inl hn)] at hwr
  rw[hwr];rw[show zeU S ⟨d,ar,ix⟩=0 by unfold zeU;rw[if_pos hn],decide_eq_false (by omega:¬ 0≤S.number ⟨d,ar,ix⟩)] at HNB;clear hwr hn hwf;go_enter func67,ntmps67;go_upto_region 1 with (fail)
  unfold plA at HA;generalize w.alloc _=W1 at HA ⊢;generalize w.heap.size=B at HA ⊢;have hbx:=HA.out.2.perm (show _=pts B (.cells #[d,ar,ix] TPl (0,0))*(zad RS p S*F) from by ac_rfl);have b0:W1.cell? ⟨B,0,none⟩=some (.int .i64 d):=zab hbx.block 0;have b1:W1.cell? ⟨B,1,none⟩=some (.int .i64 ar):=zab hbx.block 1;have b2:W1.cell? ⟨B,2,none⟩=some (.int .i64 ix):=zab hbx.block 2;clear hbx
  go_wp2_with (first
   | (go_at_call 74;refine (HNB.out _ W1 HA.out.2).mono ?_;rintro e w2 ⟨rfl,hb⟩;clear b0 b1 b2;have H2:=(zd (HA.out.1.below hb) (HA.out.2.below hb));clear hb;have b0:w2.cell? ⟨B,0,none⟩=some (.int .i64 d):=zab (H2.out.2.perm (show _=pts B (.cells #[d,ar,ix] TPl (0,0))*(zad RS p S*F) from by ac_rfl)).block 0))
  go_ret;exact⟨rfl,H2.out.1,(H2.out.2.perm (show _=pts B (.cells #[d,ar,ix] TPl (0,0))*(zad RS p S*F) from by ac_rfl)).right⟩
 have hnm:zeU S ⟨d,ar,ix⟩=S.number ⟨d,ar,ix⟩:=by unfold zeU;rw[if_neg hn]
 rw[hnm,decide_eq_true (by omega:0≤S.number ⟨d,ar,ix⟩)] at HNB;rw[if_neg (by intro h;rcases h with h|h;exact hn h;cases h)] at hwr;have hlt:=zsg.number_lt hwf (a:=⟨d,ar,ix⟩) (by omega);dsimp only at hlt;obtain⟨hd0,hd1⟩:=zsg.state_in hwf hlt.1;obtain⟨k,rfl⟩:=Int.eq_ofNat_of_zero_le hd0
 have hkb:k<S.bays.length:=by omega
 have HST0:=zh hlt.1;have HWF:=zh hwf;obtain⟨nu,hnu⟩:∃ nu,nu=S.number ⟨(k:Int),ar,ix⟩:=⟨_,rfl⟩;rw[← hnu] at HNB hwr;have HK:=zh hkb;clear hnu hnm hlt hd0 hd1 hwf hn hkb
 by_cases h1:S.state (k:Int)=1
 case neg =>
  rw[if_neg h1] at hwr;rw[hwr]
  have e1:(S.state (k:Int) != 1)=true:=by simp[h1]
  clear hwr h1 HST0 HWF;go_enter func67,ntmps67;go_upto_region 1 with (fail)
  unfold plA at HA;generalize w.alloc _=W1 at HA ⊢;generalize w.heap.size=B at HA ⊢;have hbx:=HA.out.2.perm (show _=pts B (.cells #[(k:Int),ar,ix] TPl (0,0))*(zad RS p S*F) from by ac_rfl);have b0:W1.cell? ⟨B,0,none⟩=some (.int .i64 (k:Int)):=zab hbx.block 0;have b1:W1.cell? ⟨B,1,none⟩=some (.int .i64 ar):=zab hbx.block 1;have b2:W1.cell? ⟨B,2,none⟩=some (.int .i64 ix):=zab hbx.block 2;clear hbx
  go_upto_region 4 with (first
   | (go_at_call 74;refine (HNB.out _ W1 HA.out.2).mono ?_;rintro e w2 ⟨rfl,hb⟩;clear b0 b1 b2;have H2:=(zd (HA.out.1.below hb) (HA.out.2.below hb));clear hb;have b0:w2.cell? ⟨B,0,none⟩=some (.int .i64 (k:Int)):=zab (H2.out.2.perm (show _=pts B (.cells #[(k:Int),ar,ix] TPl (0,0))*(zad RS p S*F) from by ac_rfl)).block 0))
  obtain⟨g,capb,gs,caps,q,R,⟨_,c7⟩,⟨_,cs⟩,_⟩:=zdo H2.out.2 HK.out
  have hkn:(k:Int)<(S.bays.length:Int):=by have:=HK.out;omega
  have hk0:(0:Int)≤(k:Int):=by omega
  generalize S.bays.length=n at c7 hkn;generalize S.state (k:Int)=st at cs e1
  go_quiet (fail)
  go_wp2;go_ret;exact⟨rfl,H2.out.1.drewN _,((H2.out.2.perm (show _=pts B (.cells #[(k:Int),ar,ix] TPl (0,0))*(zad RS p S*F) from by ac_rfl)).right).drewN _⟩
 case pos =>
  rw[if_pos h1] at hwr
  have HRE:=zh (fun q G W (h:Sat W (zbF RT q (S.disk k)*G))=>znM q (S.disk k) G nu W h)
  have HDN:=zh (show ((S.disk k).lose nu).1.n=(S.disk k).n from zsh.lose_n _ _);rw[hwr];have H1:=zh h1
  generalize (S.disk k).lose nu=rd at *
  clear hwr h1;go_enter func67,ntmps67;go_upto_region 1 with (fail)
  unfold plA at HA;generalize w.alloc _=W1 at HA ⊢;generalize w.heap.size=B at HA ⊢;have hbx:=HA.out.2.perm (show _=pts B (.cells #[(k:Int),ar,ix] TPl (0,0))*(zad RS p S*F) from by ac_rfl);have b0:W1.cell? ⟨B,0,none⟩=some (.int .i64 (k:Int)):=zab hbx.block 0;have b1:W1.cell? ⟨B,1,none⟩=some (.int .i64 ar):=zab hbx.block 1;have b2:W1.cell? ⟨B,2,none⟩=some (.int .i64 ix):=zab hbx.block 2;clear hbx
  go_upto_region 4 with (first
   | (go_at_call 74;refine (HNB.out _ W1 HA.out.2).mono ?_;rintro e w2 ⟨rfl,hb⟩;clear b0 b1 b2;have H2:=(zd (HA.out.1.below hb) (HA.out.2.below hb));clear hb;have b0:w2.cell? ⟨B,0,none⟩=some (.int .i64 (k:Int)):=zab (H2.out.2.perm (show _=pts B (.cells #[(k:Int),ar,ix] TPl (0,0))*(zad RS p S*F) from by ac_rfl)).block 0))
  obtain⟨g0,capb0,gs,caps,q0,R0,⟨_,c7⟩,⟨_,cs⟩,_⟩:=zdo H2.out.2 HK.out;rw[H1.out] at cs
  have hkn:(k:Int)<(S.bays.length:Int):=by have:=HK.out;omega
  have hk0:(0:Int)≤(k:Int):=by omega
  obtain⟨n,hn⟩:∃ n,S.bays.length=n:=⟨_,rfl⟩;rw[hn] at c7 hkn;have HN:=zh hn;clear hn
  go_quiet (fail)
  go_upto_region 6 with (fail);clear b0 c7 cs;generalize hw3:w2.drewN _=w3;have H3:=zh (show Same w w3∧Sat w3 (zad RS p S*(pts B (.cells #[(k:Int),ar,ix] TPl (0,0))*F)) by rw[← hw3];exact⟨H2.out.1.drewN _,H2.out.2.drewN _⟩);clear hw3;have b0:w3.cell? ⟨B,0,none⟩=some (.int .i64 (k:Int)):=zab (H3.out.2.perm (show _=pts B (.cells #[(k:Int),ar,ix] TPl (0,0))*(zad RS p S*F) from by ac_rfl)).block 0;obtain⟨vb,vs,vi,ps,qs,q,R,ho,hs⟩:=zcL H3.out.2 (k:=k) HK.out;obtain⟨g,capb,rfl,c6,cq,-⟩:=zbw ho hs;have HO:=zh ho
  rw[zcl] at hs;rw[HN.out] at c6 hs;have HQ:=zh hs;clear ho hs;have hS0:w3.drew.cell? ⟨p,6,none⟩=some (.slice (some ⟨g,0,none⟩) n capb)∧w3.drew.cell? ⟨g,k,none⟩=some (.pointer (some ⟨q,0,none⟩))∧w3.drew.cell? ⟨B,0,none⟩=some (.int .i64 (k:Int)):=⟨c6,cq,b0⟩
  refine zah (fun w'=>w'.cell? ⟨p,6,none⟩=some (.slice (some ⟨g,0,none⟩) n capb)∧w'.cell? ⟨g,k,none⟩=some (.pointer (some ⟨q,0,none⟩))∧w'.cell? ⟨B,0,none⟩=some (.int .i64 (k:Int))) (by kernel_rfl) ?_
  clear c6 cq b0;(apply zaa 0 rfl rfl (by kernel_rfl) rfl);(rintro w' ⟨h1,h2,h3⟩;go_simp;rfl);exact hS0;simp only[zq];(apply zaa 1 rfl rfl (by kernel_rfl) rfl);(rintro w' ⟨h1,h2,h3⟩;go_simp;rfl);exact hS0;simp only[zq];(apply zaa 2 rfl rfl (by kernel_rfl) rfl);(rintro w' ⟨h1,h2,h3⟩;go_simp;rfl);exact hS0;simp only[zq];(apply zaa 3 rfl rfl (by kernel_rfl) rfl);(rintro w' ⟨h1,h2,h3⟩;go_simp;rfl);exact hS0;simp only[zq];(apply zaa 4 rfl rfl (by kernel_rfl) rfl);(rintro w' ⟨h1,h2,h3⟩;go_simp;rfl);exact hS0;simp only[zq]
  (apply zaa 5 rfl rfl (by kernel_rfl) rfl);(rintro w' ⟨h1,h2,h3⟩;go_simp;rfl);exact hS0;simp only[zq];(apply zaa 6 rfl rfl (by kernel_rfl) rfl);(rintro w' ⟨h1,h2,h3⟩;go_simp;rfl);exact hS0;simp only[zq];(apply zaa 7 rfl rfl (by kernel_rfl) rfl);(rintro w' ⟨h1,h2,h3⟩;go_simp;rfl);exact hS0;simp only[zq];(apply zaa 8 rfl rfl (by kernel_rfl) rfl);(rintro w' ⟨h1,h2,h3⟩;go_simp;rfl);exact hS0;simp only[zq]
  refine zan 9 rfl rfl (by kernel_rfl) rfl (R:=fun v w'=>v = .int .i64 rd.2∧Hid (Same w3 w'∧Sat w' (zbF RT q rd.1*zos p S (.slice (some ⟨g,0,none⟩) n capb) vs vi ps qs R (pts B (.cells #[(k:Int),ar,ix] TPl (0,0))*F)))) (by kernel_rfl) ((HRE.out q _ w3.drew HQ.out.drew).mono fun e w' h=>⟨_,h.1,rfl,(Same.refl w3).drew.trans h.2.out.1,h.2.out.2⟩) ?_
  rintro _ w5 ⟨rfl,h5⟩;simp only[zq];have h6:=h5.out.2;rw[← HN.out,← zcl] at h6;have h7:=ze3 HO.out (HWF.out.setDisk HST0.out HDN.out) h6
  have hS5:w5.cell? ⟨p,6,none⟩=some (.slice (some ⟨g,0,none⟩) n capb)∧w5.cell? ⟨g,k,none⟩=some (.pointer (some ⟨q,0,none⟩))∧w5.cell? ⟨B,0,none⟩=some (.int .i64 (k:Int)):=by
   obtain⟨g',capb',e,c6,cq,-⟩:=zbw HO.out h6;cases e;rw[HN.out] at c6;exact⟨c6,cq,zab (h7.perm (show _=pts B (.cells #[(k:Int),ar,ix] TPl (0,0))*(zad RS p (S.setDisk k rd.1)*F) from by ac_rfl)).block 0⟩
  refine⟨hS5,?_⟩;(apply zaa 10 rfl rfl (by kernel_rfl) rfl);(rintro w' ⟨h1,h2,h3⟩;go_simp;rfl);exact hS5;simp only[zq];refine zar (by kernel_rfl) ?_;have HE:=(zd h5.out.1 (h7.perm (show _=pts B (.cells #[(k:Int),ar,ix] TPl (0,0))*(zad RS p (S.setDisk k rd.1)*F) from by ac_rfl)).right);clear hS0 hS5 h6 h7;go_wp2;go_ret;exact⟨rfl,H3.out.1.trans HE.out.1,HE.out.2⟩
def zoq (k:Nat):UInt8:=1 <<< UInt8.ofNat k
theorem zmC {k:Nat}(h:k<7):2*((zoq k).toNat:Int)%256=((zoq (k+1)).toNat:Int):=by
 rcases (show k=0∨k=1∨k=2∨k=3∨k=4∨k=5∨k=6 by omega) with rfl|rfl|rfl|rfl|rfl|rfl|rfl <;> decide
theorem zoT (l:List UInt8)(m:Nat):(zsh.flip l m).length=l.length:=by unfold zsh.flip;rw[List.length_set]
theorem zjT {l:List UInt8}{m:Nat}{y:UInt8}(hy:l[m / 8]?=some y):(za2 l).set (m / 8) (.int .u8 ((y ^^^ zoq (m%8)).toNat:Int))=za2 (zsh.flip l m):=by
 unfold za2 zsh.flip;rw[List.map_set,List.getD_eq_getElem?_getD,hy];rfl
structure zrL (W:World)(m:Nat)(v i:Value)(wr:World):Prop where
 st:wr=W∧∃ k:Nat,k≤m∧i = .int .i64 (k:Int)∧v = .int .u8 ((zoq k).toNat:Int)
theorem zjs (vb:Value)(l:List UInt8)(m:Nat)(X:zsi)(w:World)(hX:Sat w X)(hb:∃ R,Sat w (zbW TU8 vb l*R))(hl:l.length=64)(hm:m<512):
  Calls prog 145 #[vb,(m:Int)] w fun e w'=>∃ v,e = .returned v∧Hid (Same w w'∧Sat w' (zbW TU8 v (zsh.flip l m)*X)):=by
 obtain⟨R,hb⟩:=hb;obtain⟨ao,cap,rfl,hc⟩:=zbI hb;obtain⟨gb,rfl,⟨hgb,hcap⟩,hcell⟩:=hc (by intro h;rw[h] at hl;simp at hl);have HB:=zh hcell;have HX:=zh hX;have HL:=zh hl;rw[hl];obtain⟨y,hy⟩:∃ y,l[m / 8]?=some y:=⟨_,List.getElem?_eq_getElem (by omega)⟩;have HY:=zh hy
 have hq:wrap64 ((m:Int).tdiv 8)=((m / 8:Nat):Int):=by rw[Int.tdiv_eq_ediv_of_nonneg (by omega)];unfold wrap64;omega
 have hr:(m:Int).tmod 8=((m%8:Nat):Int):=by rw[Int.tmod_eq_emod_of_nonneg (by omega)];omega
 have hxr:bits .xor .u8 (y.toNat:Int) ((zoq (m%8)).toNat:Int)=((y ^^^ zoq (m%8)).toNat:Int):=by rw[u8_xor_nat y.toNat (zoq (m%8)).toNat y.toNat_lt (zoq (m%8)).toNat_lt];simp
 have HXR:=zh hxr
 have hm8:m / 8<64:=by omega
 have hmr:m%8≤7:=by omega
 obtain⟨q,hqq⟩:∃ q,m / 8=q:=⟨_,rfl⟩;obtain⟨r,hrr⟩:∃ r,m%8=r:=⟨_,rfl⟩;have HQ:=zh hqq;have HR:=zh hrr;rw[hqq] at hq hm8;rw[hrr] at hr HXR hmr;clear hxr;obtain⟨mi,hmi⟩:∃ mi:Int,(m:Int)=mi:=⟨_,rfl⟩;rw[hmi] at hq hr ⊢;clear hX hb hc hcell hy hqq hrr hm hmi hl;obtain⟨ti,hti,hz0,hts,hz2⟩:=info_parts zfm;go_enter func145,ntmps145;go_upto_region 3 with (at_builtin;refine zaq rfl _ _ 69 TU8 rfl ti _ underlying69 hti hz0 hts hz2 rfl (zbp.2 HX.out) (za2 l) rfl rfl (by rw[zdd,HL.out]) (by intro j u hu;obtain⟨hj,rfl⟩:=zev hu;rw[Addr.add_mid,Nat.zero_add];exact HB.out j hj) (zde _) (by unfold maxLen;omega) (by omega) ?_;intro v1 w1 h1)
 have H1:=zh (show Same w w1∧Sat w1 (zaf TU8 1 v1 64 (za2 l)*X) from by have h:=h1.out;rw[List.nil_append,Nat.zero_add] at h;exact h);obtain⟨g1,cp1,rfl,hc1⟩:=zbd H1.out.2 (by decide);have c1:w1.cell? ⟨g1,q,none⟩=some (.int .u8 (y.toNat:Int)):=hc1 q _ (by have:=HY.out;rw[HQ.out] at this;unfold za2;rw[List.getElem?_map,this];rfl)
 have f1:w1.frozen? ⟨g1,q,none⟩=false:=by
  obtain⟨g',cp',cur,e,_,_,hf,_,_⟩:=zaO H1.out.2 (by decide);simp only[Value.slice.injEq,Option.some.injEq,Addr.mk.injEq] at e;rw[e.1.1];exact hf q
 clear h1 hc1 hti hz0 hts hz2
 have hqi:(q:Int)<64:=by omega
 have hq0:(0:Int)≤(q:Int):=by omega
 have hr7:(r:Int)≤7:=by omega
 go_upto_region 5 with (fail)
 go_loopw [6,7] (fun v i wr=>zrL w1 r v i wr) (fun _ i _=>r - (intOf i).toNat)
 case atStart=>exact⟨rfl,0,Nat.zero_le _,rfl,congrArg (Value.int .u8) (show (1:Int)=((zoq 0).toNat:Int) from by decide)⟩
 case round =>
  obtain⟨rfl,k,hk,rfl,rfl⟩:=hrel.st;clear hrel
  by_cases hlt:k<r
  ·have hltd:decide (k<r)=true:=decide_eq_true hlt
   have hst:=zmC (k:=k) (by omega);have hw1:IntKind.i64.wrap ((k:Int)+1)=(k:Int)+1:=IntWalk.i64_in _ (by omega);have HK:=(zd hlt hst);clear hk hlt;go_wp2
   go_roundw
   case rel=>exact⟨⟨rfl,k+1,HK.out.1,rfl,by first|rfl|exact congrArg (Value.int .u8) HK.out.2⟩⟩
   case measure=>have:=HK.out.1;simp only[intOf];omega
  ·obtain rfl:k=r:=by omega
   have hltd:decide (k<k)=false:=decide_eq_false (by omega);clear hlt hk;go_wp2;go_ret;rw[HXR.out];refine⟨_,rfl,H1.out.1.setCell _ _,?_⟩;have h:=zby H1.out.2 (by decide) rfl (j:=q) (.int .u8 ((y ^^^ zoq k).toNat:Int));have hy:=HY.out;have e:=zjT hy;rw[HQ.out,HR.out] at e;rw[e] at h
   have hfl:64=(zsh.flip l m).length:=by rw[zoT,HL.out]
   have h2:Sat _ (zbW TU8 (.slice (some ⟨g1,0,none⟩) 64 cp1) (zsh.flip l m)*X):=zee (by rw[← hfl];exact h);exact h2
end Go.Proofs.YtmcclbiaoeilkaaGreat
end
