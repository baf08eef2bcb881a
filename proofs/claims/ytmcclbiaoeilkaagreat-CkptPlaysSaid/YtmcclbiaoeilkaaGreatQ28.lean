import Derived.Test.YtmcclbiaoeilkaaGreatQ27
set_option maxHeartbeats 2000000
set_option maxRecDepth 100000
/- Part 28 of a proof;the last part says what is proved. -/
section
namespace Go.Proofs.YtmcclbiaoeilkaaGreat
open Go.Proofs.Tryz Go.RowKit Go.Sl Go.ChangeMaps
theorem zi2 {TD TS:TypeId}{qs:List Nat}{Ds:List zsh}{k:Nat}{q:Nat}{D:zsh}(hq:qs[k]?=some q)(hD:Ds[k]?=some D):∃ R,zaF TD TS qs Ds=zak TD TS q D*R:=by
 obtain⟨R,hR⟩:=zd6 (TD:=TD) (TS:=TS) qs Ds k (List.getElem?_eq_some_iff.1 hq).1 (List.getElem?_eq_some_iff.1 hD).1;exact⟨R,by have:=hR q D;rwa [zbn hq,zbn hD] at this⟩
theorem zlM (p:Nat)(S:zsg)(F:zsi)(d im:Int)(w:World)(hS:Sat w (zac SH p S*F)):
  Calls prog 51 #[.pointer (some ⟨p,0,none⟩),d,im] w fun e w'=>e = .returned (.int .i64 (S.insert d im).2)∧Hid (Same w w'∧Sat w' (zac SH p (S.insert d im).1*F)):=by
 have hwf:=zaE hS;have hwant:=zgA p S F d false 19 w hS
 have hi:S.insert d im=if S.state d=0 then (S,1) else if im<0∨(S.images.length:Int)≤im then (S,12) else if S.state d=1 then (S,19) else (S.setBay d ⟨S.images.getD im.toNat zsg.d0,1⟩,0):=rfl
 have hw:S.want d false 19=if S.state d=0 then 1 else if S.state d=1 then 19 else 0:=by
  unfold zsg.want
  by_cases h0:S.state d=0
  ·rw[if_pos h0,if_pos h0]
  ·rw[if_neg h0,if_neg h0]
   by_cases h1:S.state d=1
   ·rw[if_pos h1,if_pos (by simp[h1])]
   ·rw[if_neg h1,if_neg (by simp[h1])]
 have HS:=zh hS
 by_cases h0:S.state d=0
 ·rw[if_pos h0] at hi hw
  rw[hi];rw[hw] at hwant;clear hi hw h0 hwf hS;go_enter func51,ntmps51;go_wp2_with (go_at_call 98;refine hwant.mono ?_;rintro e w' ⟨rfl,rfl⟩;clear hwant);go_ret;exact⟨rfl,Same.refl w,HS.out⟩
 rw[if_neg h0] at hi hw;obtain⟨vb,vi,ps,qs,⟨_,hl1,hl2⟩,hs⟩:=zbJ.1 hS;obtain⟨⟨q6,q7,q8,q9,q10⟩,hp,hfp,hra⟩:=zaU hs;obtain⟨ai,ci,rfl⟩:=zal (hs.right.right);obtain⟨x,hx⟩:∃ x,S.want d false 19=x:=⟨_,rfl⟩;rw[hx] at hwant hw
 have hx1:(x==1)=false:=by rw[hw];split <;> decide
 obtain⟨m,hm⟩:∃ m,S.images.length=m:=⟨_,rfl⟩;rw[hm] at hi q7
 by_cases hb:im<0∨(m:Int)≤im
 ·rw[if_pos hb] at hi
  rw[hi];clear hi hw h0 hwf hS hs hl1 hl2 hx hm hfp hra q6 q8 q9 q10
  by_cases hb0:im<0
  ·have hbd:decide (im<0)=true:=decide_eq_true hb0
   clear hb hb0;go_enter func51,ntmps51;go_wp2_with (go_at_call 98;refine hwant.mono ?_;rintro e w' ⟨rfl,rfl⟩;clear hwant);go_ret;exact⟨rfl,Same.refl w,HS.out⟩
  ·have hbd:decide (im<0)=false:=decide_eq_false hb0
   have hbd2:decide ((m:Int)≤im)=true:=decide_eq_true (by omega);clear hb hb0;go_enter func51,ntmps51;go_wp2_with (go_at_call 98;refine hwant.mono ?_;rintro e w' ⟨rfl,rfl⟩;clear hwant);go_ret;exact⟨rfl,Same.refl w,HS.out⟩
 rw[if_neg hb] at hi;have hbd:decide (im<0)=false:=decide_eq_false (by omega);have hbd2:decide ((m:Int)≤im)=false:=decide_eq_false (by omega)
 by_cases h1:S.state d=1
 ·rw[if_pos h1] at hi hw
  rw[hi];subst hw;clear hi h0 hwf hS hs hl1 hl2 hx hm hfp hra q6 q8 q9 q10 h1 hb;go_enter func51,ntmps51;go_wp2_with (go_at_call 98;refine hwant.mono ?_;rintro e w' ⟨rfl,rfl⟩;clear hwant);go_ret;exact⟨rfl,Same.refl w,HS.out⟩
 rw[if_neg h1] at hi hw;rw[hi];subst hw;have hin:=zsg.state_in hwf h0;obtain⟨k,rfl⟩:=Int.eq_ofNat_of_zero_le hin.1;obtain⟨ii,rfl⟩:=Int.eq_ofNat_of_zero_le (show 0≤im by omega);have hkl:=hin.2
 have hil:ii<m:=by omega
 clear hs hp hfp hra q6 q7 q8 q9 q10 hl1 hl2 hx;obtain⟨vb,vi,ps,qs,q,R,⟨_,hl1,hl2⟩,hq,hs,hR⟩:=ze4 hS (d:=k) (by omega);have hs2:=hs.right;obtain⟨g,cap,cur,rfl,hg,hc,hf,hgs,_⟩:=zaO hs2 (by omega);have hs3:=hs2.right;obtain⟨gi,capi,curi,rfl,hgi,hci,hfi,_,_⟩:=zaO hs3 (by omega);have hbay:=zsg.bay_of (S:=S) hin.1 hin.2;have hcell:=zeL ps S.bays k q _ hq (by simpa using hbay);obtain⟨qi,hqi⟩:∃ qi,qs[ii]?=some qi:=⟨_,List.getElem?_eq_getElem (by omega)⟩;obtain⟨Di,hDi⟩:∃ Di,S.images[ii]?=some Di:=⟨_,List.getElem?_eq_getElem (by omega)⟩
 obtain⟨RI,hRI⟩:=zi2 (TD:=TD) (TS:=TS) hqi hDi
 have hfacts:∀ (w':World) (X:zsi),Sat w' (pts p (.cells (zaJ S.cfg (.slice (some ⟨g,0,none⟩) S.bays.length cap) (.slice (some ⟨gi,0,none⟩) S.images.length capi) S.off S.fused S.left) TSh (0,0))*(zaf zct 2 (.slice (some ⟨g,0,none⟩) S.bays.length cap) S.bays.length (zbq ps S.bays)*(zaf zer 1 (.slice (some ⟨gi,0,none⟩) S.images.length capi) S.images.length (qs.map zaB)*X))) →
   w'.cell? ⟨p,6,none⟩=some (.slice (some ⟨g,0,none⟩) S.bays.length cap)∧w'.cell? ⟨p,7,none⟩=some (.slice (some ⟨gi,0,none⟩) m capi)∧w'.cell? ⟨gi,0+ii*1,none⟩=some (.pointer (some ⟨qi,0,none⟩))∧w'.there g (0+k*2) 2:=by
  intro w' X h;have r:=zaU h;refine⟨r.1.1,by rw[← hm];exact r.1.2.1,?_,?_⟩
  ·obtain⟨g',cap',cur',hv,_,hc',hf',_⟩:=zaO h.right.right (by omega)
   simp only[Value.slice.injEq,Option.some.injEq,Addr.mk.injEq,and_true,true_and] at hv;obtain⟨rfl,rfl⟩:=hv;rw[Nat.zero_add,Nat.mul_one];exact hc' ii _ (by rw[List.getElem?_map,hqi];rfl)
  ·intro j hj
   obtain⟨g',cap',cur',hv,_,hc',hf',_⟩:=zaO h.right (by omega);simp only[Value.slice.injEq,Option.some.injEq,Addr.mk.injEq,and_true,true_and] at hv;obtain⟨rfl,rfl⟩:=hv;refine⟨?_,hf' _⟩;rcases (show j=0∨j=1 by omega) with rfl|rfl
   ·rw[show 0+k*2+0=k*2 by omega,hc' _ _ hcell.1];rfl
   ·rw[show 0+k*2+1=k*2+1 by omega,hc' _ _ hcell.2];rfl
 rw[show TD=SH.disk from rfl,show TS=SH.sec from rfl] at hRI;rw[hRI] at hs;have f0:=hfacts _ _ hs;have HFA:=zh hfacts;have HR:=zh hR;have HRI:=zh hRI;have HWF:=zh hwf;have HL:=(zd hl1 hl2);have HDi:=zh hDi;have hcl:=zlz qi Di (pts p (.cells (zaJ S.cfg (.slice (some ⟨g,0,none⟩) S.bays.length cap) (.slice (some ⟨gi,0,none⟩) S.images.length capi) S.off S.fused S.left) TSh (0,0))*(zaf zct 2 (.slice (some ⟨g,0,none⟩) S.bays.length cap) S.bays.length (zbq ps S.bays)*(zaf zer 1 (.slice (some ⟨gi,0,none⟩) S.images.length capi) S.images.length (qs.map zaB)*(zak TD TS q (S.disk k)*(R*(RI*F)))))) w.drew (hs.drew.perm (by ac_rfl))
 obtain⟨tib,htib⟩:∃ ti,prog.info? zct=some ti∧ti.size=2:=by have:=zdI (zaB 0) (zaB 0);obtain⟨ti,h1,h2⟩:=Option.map_eq_some_iff.1 this;exact⟨ti,h1,h2⟩
 obtain⟨tip,htip⟩:∃ ti,prog.info? zer=some ti∧ti.size=1:=Option.map_eq_some_iff.1 (show (prog.info? zer).map (·.size)=some 1 by kernel_rfl);have htb:=htib.1;have htb2:=htib.2;have htp:=htip.1;have htp2:=htip.2;have q7:=f0.2.1;have HM:=zh hm;clear hs hs2 hs3 hS hwf hi h1 h0 hin hl1 hl2 hq hc hf hgs hci hfi hbay hcell hR hfacts htib htip hqi hDi hRI hg hgi hb hm HS;go_enter func51,ntmps51;go_upto_region 7 with (go_at_call 98;refine hwant.mono ?_;rintro e w' ⟨rfl,rfl⟩;clear hwant)
 have hS0:w.drew.cell? ⟨p,6,none⟩=some (.slice (some ⟨g,0,none⟩) S.bays.length cap)∧w.drew.cell? ⟨p,7,none⟩=some (.slice (some ⟨gi,0,none⟩) m capi)∧w.drew.cell? ⟨gi,0+ii*1,none⟩=some (.pointer (some ⟨qi,0,none⟩))∧w.drew.there g (0+k*2) 2:=f0
 refine zah (fun w'=>w'.cell? ⟨p,6,none⟩=some (.slice (some ⟨g,0,none⟩) S.bays.length cap)∧w'.cell? ⟨p,7,none⟩=some (.slice (some ⟨gi,0,none⟩) m capi)∧w'.cell? ⟨gi,0+ii*1,none⟩=some (.pointer (some ⟨qi,0,none⟩))∧w'.there g (0+k*2) 2) (by kernel_rfl) ?_
 (apply zaa 0 rfl rfl (by kernel_rfl) rfl);(rintro w' ⟨h1,h2,h3,h4⟩;go_simp;rfl);exact hS0;simp only[zq];(apply zaa 1 rfl rfl (by kernel_rfl) rfl);(rintro w' ⟨h1,h2,h3,h4⟩;go_simp;rfl);exact hS0;simp only[zq];(apply zaa 2 rfl rfl (by kernel_rfl) rfl);(rintro w' ⟨h1,h2,h3,h4⟩;go_simp;rfl);exact hS0;simp only[zq];(apply zaa 3 rfl rfl (by kernel_rfl) rfl);(rintro w' ⟨h1,h2,h3,h4⟩;go_simp;rfl);exact hS0;simp only[zq];(apply zaa 4 rfl rfl (by kernel_rfl) rfl);(rintro w' ⟨h1,h2,h3,h4⟩;go_simp;rfl);exact hS0;simp only[zq]
 (apply zaa 5 rfl rfl (by kernel_rfl) rfl);(rintro w' ⟨h1,h2,h3,h4⟩;go_simp;rfl);exact hS0;simp only[zq];(apply zaa 6 rfl rfl (by kernel_rfl) rfl);(rintro w' ⟨h1,h2,h3,h4⟩;go_simp;rfl);exact hS0;simp only[zq];(apply zaa 7 rfl rfl (by kernel_rfl) rfl);(rintro w' ⟨h1,h2,h3,h4⟩;go_simp;rfl);exact hS0;simp only[zq];(apply zaa 8 rfl rfl (by kernel_rfl) rfl);(rintro w' ⟨h1,h2,h3,h4⟩;go_simp;rfl);exact hS0;simp only[zq];(apply zaa 9 rfl rfl (by kernel_rfl) rfl);(rintro w' ⟨h1,h2,h3,h4⟩;go_simp;rfl);exact hS0;simp only[zq]
 refine zaa 10 (v:=.pointer (some ⟨gi,0+ii*1,none⟩)) rfl rfl (by kernel_rfl) rfl (fun _ _=>zaw rfl rfl rfl underlying77 htp htp2 hil) hS0 ?_;simp only[zq];refine zaa 11 (v:=.pointer (some ⟨qi,0,none⟩)) rfl rfl (by kernel_rfl) rfl (fun _ h=>zbl rfl rfl underlying80 rfl h.2.2.1) hS0 ?_;simp only[zq]
 refine zan 12 rfl rfl (by kernel_rfl) rfl (f:=99) (args:=#[.pointer (some ⟨qi,0,none⟩)]) (R:=fun v w'=>∃ q',v = .pointer (some ⟨q',0,none⟩)∧Hid (Same w w'∧Sat w' (pts p (.cells (zaJ S.cfg (.slice (some ⟨g,0,none⟩) S.bays.length cap) (.slice (some ⟨gi,0,none⟩) S.images.length capi) S.off S.fused S.left) TSh (0,0))*(zaf zct 2 (.slice (some ⟨g,0,none⟩) S.bays.length cap) S.bays.length (zbq ps S.bays)*(zaf zer 1 (.slice (some ⟨gi,0,none⟩) S.images.length capi) S.images.length (qs.map zaB) *
  (zak TD TS q' Di*(R*(zak TD TS qi Di*RI*F)))))))) (by kernel_rfl)
  (hcl.mono fun e w' h=>by
   obtain⟨q',rfl,h1,h2⟩:=h
   exact⟨_,rfl,q',rfl,((Same.refl w).drew).trans h1,(h2.perm (show _=zak TD TS q (S.disk k)*(pts p (.cells (zaJ S.cfg (.slice (some ⟨g,0,none⟩) S.bays.length cap) (.slice (some ⟨gi,0,none⟩) S.images.length capi) S.off S.fused S.left) TSh (0,0))*(zaf zct 2 (.slice (some ⟨g,0,none⟩) S.bays.length cap) S.bays.length (zbq ps S.bays)*(zaf zer 1 (.slice (some ⟨gi,0,none⟩) S.images.length capi) S.images.length (qs.map zaB) *
    (zak TD TS q' Di*(R*(zak TD TS qi Di*RI*F)))))) from by ac_rfl)).right⟩) ?_
 rintro _ w2 ⟨q',rfl,h2⟩;have hS2:=HFA.out _ _ h2.out.2;refine⟨hS2,?_⟩;simp only[zq];(apply zaa 13 rfl rfl (by kernel_rfl) rfl);(rintro w' ⟨h1,h2,h3,h4⟩;go_simp;rfl);exact hS2;simp only[zq];refine zaa 14 (v:=.pointer (some ⟨g,0+k*2,none⟩)) rfl rfl (by kernel_rfl) rfl (fun _ _=>zaw rfl rfl rfl underlying76 htb htb2 (by omega)) hS2 ?_;simp only[zq];refine zat 15 (w2.setCells g (0+k*2) [zaB q',.int .i64 1]) rfl rfl (by kernel_rfl) rfl (zdH (new:=#[zaB q',.int .i64 1]) rfl rfl rfl (zdI _ _) hS2.2.2.2 (by simp[zaB,Value.oneCell'])) ?_
 go_wp2;go_ret;refine⟨rfl,Same.setCells _ h2.out.1,?_⟩
 have hs3:=h2.out.2.perm (show _=zaf zct 2 (.slice (some ⟨g,0,none⟩) S.bays.length cap) S.bays.length (zbq ps S.bays)*(pts p (.cells (zaJ S.cfg (.slice (some ⟨g,0,none⟩) S.bays.length cap) (.slice (some ⟨gi,0,none⟩) S.images.length capi) S.off S.fused S.left) TSh (0,0))*(zaf zer 1 (.slice (some ⟨gi,0,none⟩) S.images.length capi) S.images.length (qs.map zaB) *
  (zak TD TS q' Di*(R*(zak TD TS qi Di*RI*F))))) from by ac_rfl)
 have hs4:=zby (zby hs3 (by omega) rfl (j:=k*2) (zaB q')) (by omega) rfl (j:=k*2+1) (.int .i64 1)
 have hgd:S.images.getD ii zsg.d0=Di:=by rw[List.getD_eq_getElem?_getD,HDi.out];rfl
 rw[Int.toNat_natCast,hgd];refine zhl (T:=SH) (.slice (some ⟨g,0,none⟩) S.bays.length cap) (.slice (some ⟨gi,0,none⟩) S.images.length capi) (d:=k) (q':=q') (b:=⟨Di,1⟩) HL.out.1 HL.out.2 HR.out (HWF.out.setBay _ ⟨.inl rfl,fun _=>HWF.out.images Di (List.mem_of_getElem? HDi.out)⟩) rfl rfl rfl ?_;rw[show 0+k*2=k*2 by omega,HRI.out];exact hs4.perm (by simp only[zsg.setBay];ac_rfl)
theorem zna:(prog.info? zer).map (fun i=>(i.zero,i.size,i.bytes))=some (some (.pointer none),1,8):=by kernel_rfl
def zkA (p:Nat)(S:zsg)(F:zsi)(d:Int)(w:World)(e:Ending)(w':World):Prop:=e = .returned (.tuple #[.int .i64 (S.remove d).2.1,.int .i64 (S.remove d).2.2])∧Same w w'∧Sat w' (zac SH p (S.remove d).1*F)
theorem zl6 (p:Nat)(S:zsg)(F:zsi)(d:Int)(w:World)(hS:Sat w (zac SH p S*F))(hil:S.images.length≤1000000):
  Calls prog 50 #[.pointer (some ⟨p,0,none⟩),d] w (zkA p S F d w):=by
 have hwf:=zaE hS;have hwant:=zgA p S F d true 15 w hS
 have hk:S.remove d=if S.want d true 15=0 then ({ S.setBay d ⟨zsg.d0,2⟩ with images:=S.images++[(S.disk d).cut []] },(S.images.length:Int),0) else (S,0,S.want d true 15):=rfl
 have HS:=zh hS;obtain⟨x,hx⟩:∃ x,S.want d true 15=x:=⟨_,rfl⟩;rw[hx] at hk hwant
 by_cases h0:x=0
 case neg =>
  rw[if_neg h0] at hk;have HK:=zh hk
  have hxb:(x != 0)=true:=by simp[h0]
  clear hk h0 hS hwf hx;go_enter func50,ntmps50;go_wp2_with (go_at_call 98;refine hwant.mono ?_;rintro e w' ⟨rfl,rfl⟩;clear hwant);go_ret2;unfold zkA;rw[HK.out];exact⟨rfl,Same.refl w,HS.out⟩
 subst h0;rw[if_pos rfl] at hk;have HK:=zh hk;have h1:=(zho (by decide)).1 hx;have hin:=zsg.state_in hwf h1.1
 have hst1:S.state d=1:=by simpa using h1.2
 obtain⟨k,rfl⟩:=Int.eq_ofNat_of_zero_le hin.1;have hkl:=hin.2;obtain⟨vb,vi,ps,qs,q,R,⟨_,hl1,hl2⟩,hq,hs,hR⟩:=ze4 hS (d:=k) (by omega);have hs2:=hs.right;obtain⟨g,cap,cur,rfl,hg,hc,hf,hgs,_⟩:=zaO hs2 (by omega);have hbay:=zsg.bay_of (S:=S) hin.1 hin.2;have hcell:=zeL ps S.bays k q _ hq (by simpa using hbay)
 -- what lies in the row of the bays
 have hfacts:∀ (w':World) (vi:Value) (X:zsi),Sat w' (pts p (.cells (zaJ S.cfg (.slice (some ⟨g,0,none⟩) S.bays.length cap) vi S.off S.fused S.left) TSh (0,0))*(zaf zct 2 (.slice (some ⟨g,0,none⟩) S.bays.length cap) S.bays.length (zbq ps S.bays)*X)) →
   w'.cell? ⟨p,6,none⟩=some (.slice (some ⟨g,0,none⟩) S.bays.length cap)∧w'.cell? ⟨p,7,none⟩=some vi∧w'.cell? ⟨g,k*2,none⟩=some (.pointer (some ⟨q,0,none⟩))∧w'.there g (0+k*2) 2:=by
  intro w' vi X h;have r:=zaU h;obtain⟨g',cap',cur',hv,_,hc',hf',_⟩:=zaO h.right (by omega);simp only[Value.slice.injEq,Option.some.injEq,Addr.mk.injEq,and_true,true_and] at hv;obtain⟨rfl,rfl⟩:=hv;refine⟨r.1.1,r.1.2.1,hc' _ _ hcell.1,?_⟩;intro j hj;refine⟨?_,hf' _⟩;rcases (show j=0∨j=1 by omega) with rfl|rfl
  ·rw[show 0+k*2+0=k*2 by omega,hc' _ _ hcell.1];rfl
  ·rw[show 0+k*2+1=k*2+1 by omega,hc' _ _ hcell.2];rfl
 have f0:=hfacts _ _ _ hs;obtain⟨q6,q7,b0,_⟩:=f0;have HFA:=zh hfacts;have HR:=zh hR;have HWF:=zh hwf;have HL:=(zd hl1 (And.intro hl2 hq));have HCE:=zh hcell
 have hcut:=zmO q (S.disk k) _ (.slice none 0 0) [] w (hs.perm (show _=zak TD TS q (S.disk k)*(pts p (.cells (zaJ S.cfg (.slice (some ⟨g,0,none⟩) S.bays.length cap) vi S.off S.fused S.left) TSh (0,0))*(zaf zct 2 (.slice (some ⟨g,0,none⟩) S.bays.length cap) S.bays.length (zbq ps S.bays)*(zaf zer 1 vi S.images.length (qs.map zaB) *
    (R*(zaF TD TS qs S.images*F))))) from by ac_rfl)) (fun w' _=>IntsAt.nil w')
 obtain⟨tib,htib⟩:∃ ti,prog.info? zct=some ti∧ti.size=2:=by have:=zdI (zaB 0) (zaB 0);obtain⟨ti,h1,h2⟩:=Option.map_eq_some_iff.1 this;exact⟨ti,h1,h2⟩
 have htb:=htib.1;have htb2:=htib.2;obtain⟨n,hn⟩:∃ n,S.bays.length=n:=⟨_,rfl⟩;obtain⟨m,hm⟩:∃ m,S.images.length=m:=⟨_,rfl⟩;have HNM:=(zd hn hm);have HST:=zh hst1;clear hs hs2 hS hwf h1 hin hl1 hl2 hq hc hf hgs hbay hcell hR hfacts htib hg hx hn hm HS hst1 hk;go_enter func50,ntmps50
 go_upto_region 5 with (first
  | (go_at_call 98;refine hwant.mono ?_;rintro e w' ⟨rfl,rfl⟩;clear hwant)
  | (go_at_call 97;refine hcut.mono ?_;rintro e w1 ⟨rfl,hsm,hs1⟩;have H1:=(zd hsm hs1);clear hsm hs1 hcut))
 clear q6 q7 b0;generalize hD:(S.disk k).cut []=D at H1;have HD:=zh hD;clear hD
 have hs1:=H1.out.2.perm (show _=pts p (.cells (zaJ S.cfg (.slice (some ⟨g,0,none⟩) S.bays.length cap) vi S.off S.fused S.left) TSh (0,0))*(zaf zct 2 (.slice (some ⟨g,0,none⟩) S.bays.length cap) S.bays.length (zbq ps S.bays)*(zaf zer 1 vi S.images.length (qs.map zaB) *
    (zak TD TS q D*(R*(zaF TD TS qs S.images*F))))) from by ac_rfl)
 obtain⟨q6,q7,b0,t0⟩:=HFA.out _ _ _ hs1;have hS0:w1.drew.cell? ⟨p,6,none⟩=some (.slice (some ⟨g,0,none⟩) S.bays.length cap)∧w1.drew.cell? ⟨p,7,none⟩=some vi∧w1.drew.cell? ⟨g,0+k*2,none⟩=some (.pointer (some ⟨q,0,none⟩)):=⟨q6,q7,by rw[Nat.zero_add];exact b0⟩
 refine zah (fun w'=>w'.cell? ⟨p,6,none⟩=some (.slice (some ⟨g,0,none⟩) S.bays.length cap)∧w'.cell? ⟨p,7,none⟩=some vi∧w'.cell? ⟨g,0+k*2,none⟩=some (.pointer (some ⟨q,0,none⟩))) (by kernel_rfl) ?_
 (apply zaa 0 rfl rfl (by kernel_rfl) rfl);(rintro w' ⟨h1,h2,h3⟩;go_simp;rfl);exact hS0;simp only[zq];(apply zaa 1 rfl rfl (by kernel_rfl) rfl);(rintro w' ⟨h1,h2,h3⟩;go_simp;rfl);exact hS0;simp only[zq];(apply zaa 2 rfl rfl (by kernel_rfl) rfl);(rintro w' ⟨h1,h2,h3⟩;go_simp;rfl);exact hS0;simp only[zq];(apply zaa 3 rfl rfl (by kernel_rfl) rfl);(rintro w' ⟨h1,h2,h3⟩;go_simp;rfl);exact hS0;simp only[zq];(apply zaa 4 rfl rfl (by kernel_rfl) rfl);(rintro w' ⟨h1,h2,h3⟩;go_simp;rfl);exact hS0;simp only[zq]
 (apply zaa 5 rfl rfl (by kernel_rfl) rfl);(rintro w' ⟨h1,h2,h3⟩;go_simp;rfl);exact hS0;simp only[zq];(apply zaa 6 rfl rfl (by kernel_rfl) rfl);(rintro w' ⟨h1,h2,h3⟩;go_simp;rfl);exact hS0;simp only[zq];(apply zaa 7 rfl rfl (by kernel_rfl) rfl);(rintro w' ⟨h1,h2,h3⟩;go_simp;rfl);exact hS0;simp only[zq];(apply zaa 8 rfl rfl (by kernel_rfl) rfl);(rintro w' ⟨h1,h2,h3⟩;go_simp;rfl);exact hS0;simp only[zq];(apply zaa 9 rfl rfl (by kernel_rfl) rfl);(rintro w' ⟨h1,h2,h3⟩;go_simp;rfl);exact hS0;simp only[zq]
 refine zaa 10 (v:=.pointer (some ⟨g,0+k*2,none⟩)) rfl rfl (by kernel_rfl) rfl (fun _ _=>zaw rfl rfl rfl underlying76 htb htb2 (by omega)) hS0 ?_;simp only[zq];(apply zaa 11 rfl rfl (by kernel_rfl) rfl);(rintro w' ⟨h1,h2,h3⟩;rw[Nat.zero_add] at h3;go_simp;rfl);exact hS0;simp only[zq];(apply zaa 12 rfl rfl (by kernel_rfl) rfl);(rintro w' ⟨h1,h2,h3⟩;rw[Nat.zero_add] at h3;go_simp;rfl);exact hS0;simp only[zq];have hA4:=hs1.drew.alloc (.cells #[.pointer (some ⟨q,0,none⟩)] zer)
 have hS4:(w1.drew.alloc (.cells #[.pointer (some ⟨q,0,none⟩)] zer)).cell? ⟨p,6,none⟩=some (.slice (some ⟨g,0,none⟩) S.bays.length cap)∧(w1.drew.alloc (.cells #[.pointer (some ⟨q,0,none⟩)] zer)).cell? ⟨p,7,none⟩=some vi∧(w1.drew.alloc (.cells #[.pointer (some ⟨q,0,none⟩)] zer)).cell? ⟨g,0+k*2,none⟩=some (.pointer (some ⟨q,0,none⟩)):=by
  obtain⟨a,b,c,_⟩:=HFA.out _ _ _ hA4.right;exact⟨a,b,by rw[Nat.zero_add];exact c⟩
 refine zaV 13 (.slice (some ⟨w1.drew.heap.size,0,none⟩) 1 1) (w1.drew.alloc (.cells #[.pointer (some ⟨q,0,none⟩)] zer)) rfl rfl (by kernel_rfl) rfl (by go_simp) (hS4) ?_;simp only[zq]
 have hA5:=hA4.perm (show _=zaf zer 1 vi S.images.length (qs.map zaB)*(pts w1.drew.heap.size (.cells #[.pointer (some ⟨q,0,none⟩)] zer (0,0))*(pts p (.cells (zaJ S.cfg (.slice (some ⟨g,0,none⟩) S.bays.length cap) vi S.off S.fused S.left) TSh (0,0))*(zaf zct 2 (.slice (some ⟨g,0,none⟩) S.bays.length cap) S.bays.length (zbq ps S.bays) *
    (zak TD TS q D*(R*(zaF TD TS qs S.images*F)))))) from by ac_rfl)
 obtain⟨ti,hti,hz0,hts,hz2⟩:=info_parts zna;obtain⟨v',w5,hr,hsm5,hs5⟩:=zaH (P:=prog) 77 77 zer ti _ underlying77 hti hz0 (by rw[hts];rfl) vi S.images.length (qs.map zaB) (by rw[hts];exact hA5) ⟨w1.drew.heap.size,0,none⟩ 1 1 [.pointer (some ⟨q,0,none⟩)] (by rw[hts];rfl)
  (by intro j u hu;rw[Addr.add_mid,zab hA5.right.block,Nat.zero_add];simpa using hu) (by simp[Value.oneCell']) (by unfold maxLen;omega) (by rw[hz2];omega)
 rw[hts] at hs5
 have hs6:=hs5.perm (show _=pts w1.drew.heap.size (.cells #[.pointer (some ⟨q,0,none⟩)] zer (0,0))*(pts p (.cells (zaJ S.cfg (.slice (some ⟨g,0,none⟩) S.bays.length cap) vi S.off S.fused S.left) TSh (0,0))*(zaf zct 2 (.slice (some ⟨g,0,none⟩) S.bays.length cap) S.bays.length (zbq ps S.bays)*(zaf zer 1 v' (S.images.length+1) (qs.map zaB++[.pointer (some ⟨q,0,none⟩)]) *
    (zak TD TS q D*(R*(zaF TD TS qs S.images*F)))))) from by ac_rfl)
 have hS6:w5.cell? ⟨p,6,none⟩=some (.slice (some ⟨g,0,none⟩) S.bays.length cap)∧w5.cell? ⟨p,7,none⟩=some vi∧w5.cell? ⟨g,0+k*2,none⟩=some (.pointer (some ⟨q,0,none⟩)):=by
  obtain⟨a,b,c,_⟩:=HFA.out _ _ _ hs6.right;exact⟨a,b,by rw[Nat.zero_add];exact c⟩
 refine zaV 14 (v') (w5) rfl rfl (by kernel_rfl) rfl (zbc rfl rfl rfl hr) (hS6) ?_;simp only[zq];(apply zaa 15 rfl rfl (by kernel_rfl) rfl);(rintro w' ⟨h1,h2,h3⟩;go_simp;rfl);exact hS6;simp only[zq];(apply zaa 16 rfl rfl (by kernel_rfl) rfl);(rintro w' ⟨h1,h2,h3⟩;go_simp;rfl);exact hS6;simp only[zq];obtain⟨ip,hip,hip2⟩:=Option.map_eq_some_iff.1 (show (prog.info? 77).map (·.size)=some 1 by kernel_rfl);obtain⟨ao',cp',rfl⟩:=zal hs5;refine zat 17 (w5.setCell ⟨p,7,none⟩ (.slice ao' (S.images.length+1) cp')) rfl rfl (by kernel_rfl) rfl (zay rfl rfl rfl hip hip2 rfl hS6.2.1 (zaj hs6.right.block 7)) ?_
 have h7:=(hs6.right.setCell (i:=7) (.slice ao' (S.images.length+1) cp')).perm (show _=pts p (.cells (zaJ S.cfg (.slice (some ⟨g,0,none⟩) S.bays.length cap) (.slice ao' (S.images.length+1) cp') S.off S.fused S.left) TSh (0,0))*(zaf zct 2 (.slice (some ⟨g,0,none⟩) S.bays.length cap) S.bays.length (zbq ps S.bays)*(zaf zer 1 (.slice ao' (S.images.length+1) cp') (S.images.length+1) (qs.map zaB++[.pointer (some ⟨q,0,none⟩)]) *
    (zak TD TS q D*(R*(zaF TD TS qs S.images*F))))) from by unfold zaJ;simp only[zq])
 have H7:=(zd (((H1.out.1.drew.alloc (.cells #[.pointer (some ⟨q,0,none⟩)] zer)).trans hsm5).setCell ⟨p,7,none⟩ (.slice ao' (S.images.length+1) cp')) h7);clear hs1 q6 q7 b0 t0 hS0 hA4 hS4 hA5 hr hsm5 hs5 hs6 hS6 H1 h7;generalize w5.setCell ⟨p,7,none⟩ (.slice ao' (S.images.length+1) cp')=w7 at H7 ⊢;go_upto_region 6 with (fail)
 obtain⟨q6,q7,b0,t0⟩:=HFA.out _ _ _ H7.out.2;have hS0:w7.drew.cell? ⟨p,6,none⟩=some (.slice (some ⟨g,0,none⟩) S.bays.length cap)∧w7.drew.there g (0+k*2) 2:=⟨q6,t0⟩
 refine zah (fun w'=>w'.cell? ⟨p,6,none⟩=some (.slice (some ⟨g,0,none⟩) S.bays.length cap)∧w'.there g (0+k*2) 2) (by kernel_rfl) ?_
 (apply zaa 0 rfl rfl (by kernel_rfl) rfl);(rintro w' ⟨h1,h2⟩;go_simp;rfl);exact hS0;simp only[zq];(apply zaa 1 rfl rfl (by kernel_rfl) rfl);(rintro w' ⟨h1,h2⟩;go_simp;rfl);exact hS0;simp only[zq];(apply zaa 2 rfl rfl (by kernel_rfl) rfl);(rintro w' ⟨h1,h2⟩;go_simp;rfl);exact hS0;simp only[zq];(apply zaa 3 rfl rfl (by kernel_rfl) rfl);(rintro w' ⟨h1,h2⟩;go_simp;rfl);exact hS0;simp only[zq];(apply zaa 4 rfl rfl (by kernel_rfl) rfl);(rintro w' ⟨h1,h2⟩;go_simp;rfl);exact hS0;simp only[zq]
 refine zan 5 rfl rfl (by kernel_rfl) rfl (f:=30) (args:=#[.int .i64 0]) (R:=fun v w'=>∃ q',v = .pointer (some ⟨q',0,none⟩)∧Hid (Same w w'∧Sat w' (pts p (.cells (zaJ S.cfg (.slice (some ⟨g,0,none⟩) S.bays.length cap) (.slice ao' (S.images.length+1) cp') S.off S.fused S.left) TSh (0,0))*(zaf zct 2 (.slice (some ⟨g,0,none⟩) S.bays.length cap) S.bays.length (zbq ps S.bays)*(zaf zer 1 (.slice ao' (S.images.length+1) cp') (S.images.length+1) (qs.map zaB++[.pointer (some ⟨q,0,none⟩)]) *
    (zak TD TS q' zsg.d0*(zak TD TS q D*(R*(zaF TD TS qs S.images*F))))))))) (by kernel_rfl)
  ((zj4 0 _ w7.drew H7.out.2.drew).mono fun e w' h=>by
   obtain⟨q',rfl,h1,h2⟩:=h
   exact⟨_,rfl,q',rfl,H7.out.1.drew.trans h1,h2.perm (by show zak TD TS q' zsg.d0*_=_;ac_rfl)⟩) ?_
 rintro _ w8 ⟨q',rfl,h8⟩;obtain⟨r6,r7,rb,rt⟩:=HFA.out _ _ _ h8.out.2;have hS8:w8.cell? ⟨p,6,none⟩=some (.slice (some ⟨g,0,none⟩) S.bays.length cap)∧w8.there g (0+k*2) 2:=⟨r6,rt⟩;refine⟨hS8,?_⟩;simp only[zq];(apply zaa 6 rfl rfl (by kernel_rfl) rfl);(rintro w' ⟨h1,h2⟩;go_simp;rfl);exact hS8;simp only[zq];refine zaa 7 (v:=.pointer (some ⟨g,0+k*2,none⟩)) rfl rfl (by kernel_rfl) rfl (fun _ _=>zaw rfl rfl rfl underlying76 htb htb2 (by omega)) hS8 ?_;simp only[zq];refine zat 8 (w8.setCells g (0+k*2) [zaB q',.int .i64 2]) rfl rfl (by kernel_rfl) rfl (zdH (new:=#[zaB q',.int .i64 2]) rfl rfl rfl (zdI _ _) rt (by simp[zaB,Value.oneCell'])) ?_
 have hs3:=h8.out.2.perm (show _=zaf zct 2 (.slice (some ⟨g,0,none⟩) S.bays.length cap) S.bays.length (zbq ps S.bays)*(pts p (.cells (zaJ S.cfg (.slice (some ⟨g,0,none⟩) S.bays.length cap) (.slice ao' (S.images.length+1) cp') S.off S.fused S.left) TSh (0,0))*(zaf zer 1 (.slice ao' (S.images.length+1) cp') (S.images.length+1) (qs.map zaB++[.pointer (some ⟨q,0,none⟩)]) *
    (zak TD TS q' zsg.d0*(zak TD TS q D*(R*(zaF TD TS qs S.images*F)))))) from by ac_rfl)
 have hs4:=zby (zby hs3 (by omega) rfl (j:=k*2) (zaB q')) (by omega) rfl (j:=k*2+1) (.int .i64 2);have H9:=(zd (Same.setCells [zaB q',.int .i64 2] (o:=0+k*2) (b:=g) h8.out.1) (show Sat (w8.setCells g (0+k*2) [zaB q',.int .i64 2]) _ from by rw[show 0+k*2=k*2 by omega];exact hs4));have c7:(w8.setCells g (0+k*2) [zaB q',.int .i64 2]).cell? ⟨p,7,none⟩=some (.slice ao' (S.images.length+1) cp'):=zab H9.out.2.right.block 7;clear q6 q7 b0 t0 hS0 r6 r7 rb rt hS8 hs3 hs4 H7 h8;generalize w8.setCells g (0+k*2) [zaB q',.int .i64 2]=w9 at H9 c7 ⊢
 rw[HNM.out.2] at c7 hil;go_wp2;go_ret2;unfold zkA;rw[HK.out];refine⟨?_,H9.out.1,?_⟩
 ·rw[HNM.out.2];first|rfl|(congr 3;simp)|skip
 ·refine zbJ.2 ⟨.slice (some ⟨g,0,none⟩) S.bays.length cap,.slice ao' (S.images.length+1) cp',ps.set k q',qs++[q],⟨?_,?_,?_⟩,?_⟩
  ·have h5:=HWF.out.setBay (k:Int) (b:=⟨zsg.d0,2⟩) ⟨.inr (.inl rfl),fun h=>by simp at h⟩
   refine⟨h5.cfg,h5.bays,h5.st,fun E hE=>?_,h5.left⟩;rcases List.mem_append.1 hE with h|h
   ·exact HWF.out.images E h
   ·simp at h;subst h
    have:=zsg.disk_n HWF.out (d:=(k:Int)) HST.out;exact this
  ·show (ps.set k q').length=(S.bays.set k _).length
   rw[List.length_set,List.length_set];exact HL.out.1
  ·show (qs++[q]).length=(S.images++[(S.disk k).cut []]).length
   rw[List.length_append,List.length_append,HL.out.2.1];rfl
  ·show Sat w9 (pts p _*(zaf zct 2 _ (S.bays.set k ⟨zsg.d0,2⟩).length (zbq (ps.set k q') (S.bays.set k ⟨zsg.d0,2⟩))*(zaf zer 1 _ (S.images++[(S.disk k).cut []]).length ((qs++[q]).map zaB)*(zaF TD TS (ps.set k q') ((S.bays.set k ⟨zsg.d0,2⟩).map zsk.disk)*(zaF TD TS (qs++[q]) (S.images++[(S.disk k).cut []])*F)))))
   rw[HD.out,show TD=SH.disk from rfl,show TS=SH.sec from rfl,HR.out,zfk _ _ _ _ HL.out.2.1,zfy _ _ _ _ _ HL.out.1,List.length_set,List.length_append,List.map_append];exact H9.out.2.perm (show _=pts p (.cells (zaJ S.cfg (.slice (some ⟨g,0,none⟩) S.bays.length cap) (.slice ao' (S.images.length+1) cp') S.off S.fused S.left) TSh (0,0))*(zaf zct 2 (.slice (some ⟨g,0,none⟩) S.bays.length cap) S.bays.length (((zbq ps S.bays).set (k*2) (zaB q')).set (k*2+1) (.int .i64 2))*(zaf zer 1 (.slice ao' (S.images.length+1) cp') (S.images.length+1) (qs.map zaB++[.pointer (some ⟨q,0,none⟩)])*(zak TD TS q' zsg.d0*R*(zaF TD TS qs S.images*zak TD TS q D*F)))) from by ac_rfl)
structure ResM where
 text:List UInt8
 n:Int
 e:Int
def doN (S:zsg)(o:OpN):zsg×ResM:=
 if o.kind=1 then ((S.write o.at_ o.text).1,⟨[],0,(S.write o.at_ o.text).2⟩)
 else if o.kind=2 then (S,⟨(S.read o.at_).1,0,(S.read o.at_).2⟩)
 else if o.kind=3 then ((S.flush o.at_.disk).1,⟨[],0,(S.flush o.at_.disk).2⟩)
 else if o.kind=4 then (S.flushAll.1,⟨[],0,S.flushAll.2⟩)
 else if o.kind=5 then (S.fuse o.n,⟨[],0,0⟩)
 else if o.kind=6 then (S.mount o.picks,⟨[],0,0⟩)
 else if o.kind=7 then ((S.kill o.at_.disk).1,⟨[],0,(S.kill o.at_.disk).2⟩)
 else if o.kind=8 then ((S.remove o.at_.disk).1,⟨[],(S.remove o.at_.disk).2.1,(S.remove o.at_.disk).2.2⟩)
 else if o.kind=9 then ((S.insert o.at_.disk o.n).1,⟨[],0,(S.insert o.at_.disk o.n).2⟩)
 else if o.kind=10 then ((S.replace o.at_.disk).1,⟨[],0,(S.replace o.at_.disk).2⟩)
 else if o.kind=11 then ((S.rot o.at_ o.n).1,⟨[],0,(S.rot o.at_ o.n).2⟩)
 else if o.kind=12 then ((S.lose o.at_).1,⟨[],0,(S.lose o.at_).2⟩)
 else if o.kind=13 then ((S.misdirect o.at_ o.dst).1,⟨[],0,(S.misdirect o.at_ o.dst).2⟩)
 else (S,⟨[],0,0⟩)
abbrev zb2:TypeId:=52
abbrev zeo (r:ResM):Array Value:=#[.string (zae r.text),.int .i64 r.n,.int .i64 r.e]
theorem zaP {w:World}{B:Nat}{x y z:Value}{X:zsi}(h:Sat w (pts B (.cells #[x,y,z] zb2 (0,0))*X)):
  (w.cell? ⟨B,0,none⟩=some x∧w.cell? ⟨B,1,none⟩=some y∧w.cell? ⟨B,2,none⟩=some z)∧(w.frozen? ⟨B,0,none⟩=false∧w.frozen? ⟨B,1,none⟩=false∧w.frozen? ⟨B,2,none⟩=false)∧B<w.heap.size:=
 ⟨⟨zab h.block 0,zab h.block 1,zab h.block 2⟩,⟨zaj h.block 0,zaj h.block 1,zaj h.block 2⟩,h.lt⟩
theorem zgw {w:World}{B:Nat}{o:OpN}{v:Value}{X:zsi}(h:Sat w (pts B (.cells (opN o v) TOp (0,0))*X)):
  (w.cell? ⟨B,0,none⟩=some (.int .i64 o.kind)∧w.cell? ⟨B,1,none⟩=some (.int .i64 o.at_.disk)∧w.cell? ⟨B,2,none⟩=some (.int .i64 o.at_.area)∧w.cell? ⟨B,3,none⟩=some (.int .i64 o.at_.index))∧
  (w.cell? ⟨B,4,none⟩=some (.int .i64 o.dst.disk)∧w.cell? ⟨B,5,none⟩=some (.int .i64 o.dst.area)∧w.cell? ⟨B,6,none⟩=some (.int .i64 o.dst.index)∧w.cell? ⟨B,7,none⟩=some (.int .i64 o.n))∧
  w.cell? ⟨B,10,none⟩=some v∧w.rangeAt B 0 (opN o v).toList:=by
 have hb:=zab h.block
 refine⟨⟨hb 0,hb 1,hb 2,hb 3⟩,⟨hb 4,hb 5,hb 6,hb 7⟩,hb 10,fun j u hu=>?_⟩
 rw[hb,Nat.zero_add,← hu];simp
theorem zj0 (o:OpN)(v:Value):(prog.info? TOp).map (·.size)=some (opN o v).size:=by
 show _=some 11
 kernel_rfl
theorem zbL {W:World}{B4 B5:Nat}{x y z:Value}{r:ResM}{Y:zsi}(h:Sat W (pts B5 (.cells (zeo r) zb2 (0,0))*(pts B4 (.cells #[x,y,z] zb2 (0,0))*Y))):
  Sat (((W.setCell ⟨B4,0,none⟩ (.string (zae r.text))).setCell ⟨B4,1,none⟩ (.int .i64 r.n)).setCell ⟨B4,2,none⟩ (.int .i64 r.e)) (pts B5 (.cells (zeo r) zb2 (0,0))*(pts B4 (.cells (zeo r) zb2 (0,0))*Y)):=by
 have h1:=((((h.perm (show _=pts B4 (.cells #[x,y,z] zb2 (0,0))*(pts B5 (.cells (zeo r) zb2 (0,0))*Y) from by ac_rfl)).setCell (i:=0) (.string (zae r.text))).setCell (i:=1) (.int .i64 r.n)).setCell (i:=2) (.int .i64 r.e));exact h1.perm (show _=pts B5 (.cells (zeo r) zb2 (0,0))*(pts B4 (.cells (zeo r) zb2 (0,0))*Y) from by simp only[zq];ac_rfl)
theorem zbV (i:Nat)(u:Value){W:World}{B5:Nat}{x y z:Value}{c:Array Value}{Y:zsi}(h:Sat W (pts B5 (.cells #[x,y,z] zb2 (0,0))*Y))(hc:#[x,y,z].setIfInBounds i u=c):Sat (W.setCell ⟨B5,i,none⟩ u) (pts B5 (.cells c zb2 (0,0))*Y):=by
 subst hc;exact h.setCell u
theorem zcJ (r:ResM):(prog.info? zb2).map (·.size)=some (zeo r).size:=by
 show _=some 3
 kernel_rfl
end Go.Proofs.YtmcclbiaoeilkaaGreat
end
