import Derived.Shelf.SlMaps.Clone
import Derived.Test.YtmcclbiaoeilkaaGreatQ26
set_option maxHeartbeats 1000000
set_option maxRecDepth 100000
/- Part 27 of a proof;the last part says what is proved. -/
section
namespace Go.Proofs.YtmcclbiaoeilkaaGreat
open Go.Proofs.Tryz Go.RowKit Go.Sl Go.ChangeMaps
theorem zii (p:Nat)(D:zsh)(F:zsi)(i tt:Int)(w:World)(hS:Sat w (zak TD TS p D*F)):
  Calls prog 105 #[.pointer (some ⟨p,0,none⟩),i,tt] w fun e w'=>e = .returned (.int .i64 (D.misdirect i tt).2)∧Same w w'∧Sat w' (zak TD TS p (D.misdirect i tt).1*F):=by
 obtain⟨v,cb,ab,es,ck,l,es2,ck2,l2,⟨hwf,hM,hK,hM2,hK2⟩,hs⟩:=zaI.1 hS;obtain⟨b,cap,rfl⟩:=zcu hs.right;obtain⟨q0,q1,q2⟩:=zaZ hs
 by_cases h:D.has i=true∧D.has tt=true
 ·have h2:=zsh.has_iff.1 h.1
  have hd:(decide (0≤i)&&decide (i<(D.n:Int)))=true:=h.1;have hd':(decide (0≤tt)&&decide (tt<(D.n:Int)))=true:=h.2;have hab:Sat w (pts ab (.map es2 ck2)*(pts p (.cells #[.slice b D.n cap,.map (some cb),.map (some ab)] TD (0,0))*(zcN TS D.n D.dur (.slice b D.n cap)*(pts cb (.map es ck)*F)))):=hs.perm (by ac_rfl);obtain⟨es3,c3,hrun,hM3⟩:=zbt (P:=prog) underlying90 underlying3 hab.block hM2 i (.int .i64 tt);have hl:D.misdirect i tt=({ D with armed:=za7 D.armed i.toNat (some tt) },0):=if_pos h;have hwf':=hwf.misdirect i tt
  rw[hl] at hwf' ⊢
  have hfin:Sat (setBlock w ab (.map es3 c3)) (zak TD TS p { D with armed:=za7 D.armed i.toNat (some tt) }*F):=
   zaI.2 ⟨.slice b D.n cap,cb,ab,es,ck,l,es3,c3,_,⟨hwf',hM,hK,hM3,hK2.upd h2.1 _⟩,(hab.setBlock (o':=.map es3 c3)).perm (by ac_rfl)⟩
  have HF:=zh hfin;clear hfin hab hs hS hM hK hM2 hK2 hM3 hwf hwf' hl h;go_enter func105,ntmps105;go_wp2_with (go_at_call 118;refine (zcc _ _ _ _ _ _ q0).mono ?_;rintro e w' ⟨rfl,rfl⟩);go_ret;exact⟨rfl,(Same.refl w).setBlock _,HF.out⟩
 ·have HS:=zh hS
  have hl:D.misdirect i tt=(D,1):=if_neg h;rw[hl]
  by_cases hh:D.has i=true
  ·have hd:(decide (0≤i)&&decide (i<(D.n:Int)))=true:=hh
   have hd':(decide (0≤tt)&&decide (tt<(D.n:Int)))=false:=by
    have:¬ D.has tt=true:=fun hc=>h ⟨hh,hc⟩
    simpa [zsh.has] using this
   clear hS hs hM hK hM2 hK2 hwf hl h hh;go_enter func105,ntmps105;go_wp2_with (go_at_call 118;refine (zcc _ _ _ _ _ _ q0).mono ?_;rintro e w' ⟨rfl,rfl⟩);go_ret;exact⟨rfl,Same.refl w,HS.out⟩
  ·have hd:(decide (0≤i)&&decide (i<(D.n:Int)))=false:=by simpa [zsh.has] using hh
   clear hS hs hM hK hM2 hK2 hwf hl h hh;go_enter func105,ntmps105;go_wp2_with (go_at_call 118;refine (zcc _ _ _ _ _ _ q0).mono ?_;rintro e w' ⟨rfl,rfl⟩);go_ret;exact⟨rfl,Same.refl w,HS.out⟩
theorem zp7 (args:Array Value)(w:World):(callFunc 102 args).run prog w = .ok (.enter 102 args) w:=by kernel_rfl
theorem zq6 (args:Array Value)(w:World):(callFunc 104 args).run prog w = .ok (.enter 104 args) w:=by kernel_rfl
theorem znl (q:Nat)(n:Int)(D:zsh)(G:zsi)(w:World)(hS:Sat w (zak TD TS q D*G)):
  Calls prog 102 (#[.agg #[zaB q,.int .i64 1],.int .i64 n]++#[]) w fun e w'=>e = .returned (.int .i64 (D.lose n).2)∧Hid (Same w w'∧Sat w' (zak TD TS q (D.lose n).1*G)):=by
 have HS:=zh hS;clear hS;show Calls prog 102 #[.agg #[zaB q,.int .i64 1],n] w _;unfold zaB;go_enter func102,ntmps102;go_wp2_with (go_at_call 103;refine (zo7 q D _ n _ (HS.out.allocKeep _)).mono ?_;rintro e w' ⟨rfl,h1,h2⟩;have H:=(zd h1 h2);clear h1 h2);go_ret;exact⟨rfl,((Same.refl w).alloc _).trans H.out.1,H.out.2⟩
theorem zo9 (q bB:Nat)(n bit:Int)(D:zsh)(F G:zsi)(w:World)(hS:Sat w (zak TD TS q D*((pts bB (.cells #[bit] zbP (0,0))*F)*G))):
  Calls prog 104 (#[.agg #[zaB q,.int .i64 1],.int .i64 n]++#[zaB bB]) w fun e w'=>e = .returned (.int .i64 (D.misdirect n bit).2)∧Hid (Same w w'∧Sat w' (zak TD TS q (D.misdirect n bit).1*((pts bB (.cells #[bit] zbP (0,0))*F)*G))):=by
 have HS:=zh hS;have c0:w.cell? ⟨bB,0,none⟩=some (.int .i64 bit):=zab (hS.perm (show _=pts bB (.cells #[bit] zbP (0,0))*(zak TD TS q D*(F*G)) from by ac_rfl)).block 0;have l0:=World.block_lt_of_cell? _ _ c0;simp only at l0;clear hS;show Calls prog 104 #[.agg #[zaB q,.int .i64 1],n,zaB bB] w _;unfold zaB;go_enter func104,ntmps104;go_wp2_with (go_at_call 105;refine (zii q D _ n bit _ (HS.out.allocKeep _)).mono ?_;rintro e w' ⟨rfl,h1,h2⟩;have H:=(zd h1 h2);clear h1 h2);go_ret;exact⟨rfl,((Same.refl w).alloc _).trans H.out.1,H.out.2⟩
theorem znZ (p:Nat)(S:zsg)(F:zsi)(a:zsj)(w:World)(hS:Sat w (zac SH p S*F)):
  Calls prog 54 #[.pointer (some ⟨p,0,none⟩),.agg (plA a)] w fun e w'=>e = .returned (.int .i64 (S.lose a).2)∧Hid (Same w w'∧Sat w' (zac SH p (S.lose a).1*F)):=by
 have hA:=hS.alloc (.cells (plA a) TPl);have hc:=zjR p S (pts w.heap.size (.cells (plA a) TPl (0,0))*F) a true (fun D n=>D.lose n) 102 #[] zp7 (fun D n=>zsh.lose_n _ _)
  (fun D w' q G h=>znl q _ D (_*G) w' h) _ (hA.perm (by ac_rfl))
 have hr:S.lose a=S.arm a true fun D n=>D.lose n:=rfl
 rw[hr];clear hS hA hr;go_enter func54,ntmps54;go_wp2_with (go_at_call 71;refine hc.mono ?_;rintro e w2 ⟨rfl,h2⟩;clear hc);go_ret;exact⟨rfl,((Same.refl w).alloc _).trans h2.out.1,(h2.out.2.perm (show _=pts w.heap.size (.cells (plA a) TPl (0,0))*(zac SH p _*F) from by ac_rfl)).right⟩
theorem zpF (p:Nat)(S:zsg)(F:zsi)(a b:zsj)(w:World)(hS:Sat w (zac SH p S*F)):
  Calls prog 55 #[.pointer (some ⟨p,0,none⟩),.agg (plA a),.agg (plA b)] w fun e w'=>e = .returned (.int .i64 (S.misdirect a b).2)∧Hid (Same w w'∧Sat w' (zac SH p (S.misdirect a b).1*F)):=by
 have hnum:=zdf p S F b ((w.alloc (.cells (plA a) TPl)).alloc (.cells (plA b) TPl)) ((hS.allocKeep _).allocKeep _)
 have hr:S.misdirect a b=S.arm a (decide (0≤S.number b)&&decide (a.disk=b.disk)) fun D n=>D.misdirect n (S.number b):=rfl
 rw[hr];obtain⟨x,hx⟩:∃ x,S.number b=x:=⟨_,rfl⟩;rw[hx] at hnum hr ⊢;have HS:=zh hS
 obtain⟨Z,hz⟩:∃ Z,(S.arm a (decide (0≤x)&&decide (a.disk=b.disk)) fun D n=>D.misdirect n x)=Z:=⟨_,rfl⟩
 rw[hz];have HZ:=zh hz;clear hS hr hx hz;go_enter func55,ntmps55;go_upto_region 2 with (go_at_call 90;refine hnum.mono ?_;rintro e w1 ⟨rfl,hb1⟩)
 have hA:=((((HS.out.alloc (.cells (plA a) TPl)).alloc (.cells (plA b) TPl)).below hb1.out).alloc (.cells #[x] zbP));have hSm:=((((Same.refl w).alloc (.cells (plA a) TPl)).alloc (.cells (plA b) TPl)).below hb1.out).alloc (.cells #[x] zbP);rw[World.size_alloc] at hA;clear hb1 hnum;generalize w1.alloc (.cells #[x] zbP)=W at hA hSm ⊢;generalize w1.heap.size=B2 at hA ⊢;generalize w.heap.size+1=B1 at hA ⊢;generalize w.heap.size=B0 at hA ⊢;have q2:W.cell? ⟨B2,0,none⟩=some (.int .i64 x):=zab hA.block 0;have q1:W.cell? ⟨B1,0,none⟩=some (.int .i64 b.disk):=zab hA.right.block 0
 have q0:W.cell? ⟨B0,0,none⟩=some (.int .i64 a.disk):=zab hA.right.right.block 0;have q01:W.cell? ⟨B0,1,none⟩=some (.int .i64 a.area):=zab hA.right.right.block 1;have q02:W.cell? ⟨B0,2,none⟩=some (.int .i64 a.index):=zab hA.right.right.block 2
 have hc:=fun valid=>zjR p S (pts B2 (.cells #[x] zbP (0,0))*(pts B1 (.cells (plA b) TPl (0,0))*(pts B0 (.cells (plA a) TPl (0,0))*F))) a valid (fun D n=>D.misdirect n x) 104 #[zaB B2] zq6 (fun D n=>zsh.misdirect_n _ _ _)
  (fun D w' q G h=>zo9 q _ _ x D _ G w' h) W (hA.perm (by ac_rfl))
 unfold zaB at hc;have HA:=zh hSm
 have fin:∀ (w2:World) (S':zsg),Hid (Same W w2∧Sat w2 (zac SH p S'*(pts B2 (.cells #[x] zbP (0,0))*(pts B1 (.cells (plA b) TPl (0,0))*(pts B0 (.cells (plA a) TPl (0,0))*F)))))→Hid (Same w w2∧Sat w2 (zac SH p S'*F)):=
  fun w2 S' h=>⟨HA.out.trans h.out.1,(h.out.2.perm (show _=pts B2 (.cells #[x] zbP (0,0))*(pts B1 (.cells (plA b) TPl (0,0))*(pts B0 (.cells (plA a) TPl (0,0))*(zac SH p S'*F))) from by ac_rfl)).right.right.right⟩
 have FIN:=zh fin;clear fin hA hSm
 by_cases h0:0≤x
 ·have hb:decide (0≤x)=true:=decide_eq_true h0
  by_cases h1:a.disk=b.disk
  ·have he:(a.disk==b.disk)=true:=by simp[h1]
   have hz:=HZ.out;rw[hb,decide_eq_true h1] at hz;replace hc:=hc true;rw[show (S.arm a true fun D n=>D.misdirect n x)=Z from hz] at hc;clear h0 h1 hz;go_wp2_with (go_at_call 71;refine hc.mono ?_;rintro e w2 ⟨rfl,h2⟩;clear hc);go_ret;exact⟨rfl,FIN.out _ _ h2⟩
  ·have he:(a.disk==b.disk)=false:=by simp[h1]
   have hz:=HZ.out;rw[hb,decide_eq_false h1] at hz;replace hc:=hc false;rw[show (S.arm a false fun D n=>D.misdirect n x)=Z from hz] at hc;clear h0 h1 hz;go_wp2_with (go_at_call 71;refine hc.mono ?_;rintro e w2 ⟨rfl,h2⟩;clear hc);go_ret;exact⟨rfl,FIN.out _ _ h2⟩
 ·have hb:decide (0≤x)=false:=decide_eq_false h0
  have hz:=HZ.out;rw[hb,Bool.false_and] at hz;replace hc:=hc false;rw[show (S.arm a false fun D n=>D.misdirect n x)=Z from hz] at hc;clear h0 hz;go_wp2_with (go_at_call 71;refine hc.mono ?_;rintro e w2 ⟨rfl,h2⟩;clear hc);go_ret;exact⟨rfl,FIN.out _ _ h2⟩
theorem zho {S:zsg}{d:Int}{inn:Bool}{er:Int}(her:er≠0):S.want d inn er=0↔S.state d≠0∧decide (S.state d=1)=inn:=by
 unfold zsg.want
 by_cases h0:S.state d=0
 ·simp[h0]
 ·rw[if_neg h0]
  by_cases h1:decide (S.state d=1)=inn
  ·rw[if_neg (by simp[h1])];simp[h0,h1]
  ·rw[if_pos h1];simp[h0,h1,her]
theorem zo1 (p:Nat)(S:zsg)(F:zsi)(d:Int)(w:World)(hS:Sat w (zac SH p S*F)):
  Calls prog 49 #[.pointer (some ⟨p,0,none⟩),d] w fun e w'=>e = .returned (.int .i64 (S.kill d).2)∧Hid (Same w w'∧Sat w' (zac SH p (S.kill d).1*F)):=by
 have hwf:=zaE hS;have hwant:=zgA p S F d true 15 w hS
 have hk:S.kill d=if S.want d true 15=0 then (S.setBay d ⟨S.disk d,3⟩,0) else (S,S.want d true 15):=rfl
 have HS:=zh hS;obtain⟨x,hx⟩:∃ x,S.want d true 15=x:=⟨_,rfl⟩;rw[hx] at hk hwant
 by_cases h0:x=0
 ·subst h0
  rw[if_pos rfl] at hk;rw[hk];have h1:=(zho (by decide)).1 hx;have hin:=zsg.state_in hwf h1.1;obtain⟨k,rfl⟩:=Int.eq_ofNat_of_zero_le hin.1;have hkl:=hin.2;obtain⟨vb,vi,ps,qs,q,R,⟨_,hl1,hl2⟩,hq,hs,hR⟩:=ze4 hS (d:=k) (by omega);obtain⟨⟨q6,q7,q8,q9,q10⟩,hp,hfp,hra⟩:=zaU hs
  have hs2:=hs.perm (show _=zaf zct 2 vb S.bays.length (zbq ps S.bays)*(pts p (.cells (zaJ S.cfg vb vi S.off S.fused S.left) TSh (0,0))*(zaf zer 1 vi S.images.length (qs.map zaB) *
    (zak TD TS q (S.disk k)*(R*(zaF TD TS qs S.images*F))))) from by ac_rfl)
  obtain⟨g,cap,cur,rfl,hg,hc,hf,hgs,_⟩:=zaO hs2 (by omega);have hb:=zsg.bay_of (S:=S) hin.1 hin.2;have hcell:=zeL ps S.bays k q _ hq (by simpa using hb);have b1:=hc _ _ hcell.2;have b0:=hc _ _ hcell.1;have hf1:=hf (k*2+1);have hfin:=zby hs2 (by omega) rfl (j:=k*2+1) (.int .i64 3)
  have hfin2:Sat (w.setCell ⟨g,k*2+1,none⟩ (.int .i64 3)) (zac SH p (S.setBay k ⟨S.disk k,3⟩)*F):=by
   refine zhl (T:=SH) (.slice (some ⟨g,0,none⟩) S.bays.length cap) vi (d:=k) (q':=q) (b:=⟨S.disk k,3⟩) hl1 hl2 hR (hwf.setBay _ ⟨.inr (.inr rfl),fun h=>by simp at h⟩) rfl rfl rfl ?_;rw[zbn hcell.1];exact hfin.perm (by simp only[zsg.setBay];ac_rfl)
  have HF:=zh hfin2;obtain⟨n,hnn⟩:∃ n,S.bays.length=n:=⟨_,rfl⟩;rw[hnn] at q6 hkl;clear hs hs2 hS hwf hk hx h1 hin hfp hra hl1 hl2 hq hc hf hgs hb hcell hfin hfin2 hnn hR;go_enter func49,ntmps49;go_wp2_with (go_at_call 98;refine hwant.mono ?_;rintro e w' ⟨rfl,rfl⟩;clear hwant);go_ret;exact⟨rfl,(Same.refl w).setCell _ _,HF.out⟩
 ·rw[if_neg h0] at hk
  rw[hk]
  have hxb:(x==0)=false:=by simp[h0]
  clear hk h0 hS hwf hx;go_enter func49,ntmps49;go_wp2_with (go_at_call 98;refine hwant.mono ?_;rintro e w' ⟨rfl,rfl⟩;clear hwant);go_ret;exact⟨rfl,Same.refl w,HS.out⟩
theorem zkg (p:Nat)(S:zsg)(F:zsi)(d:Int)(w:World)(hS:Sat w (zac SH p S*F)):
  Calls prog 52 #[.pointer (some ⟨p,0,none⟩),d] w fun e w'=>e = .returned (.int .i64 (S.replace d).2)∧Hid (Same w w'∧Sat w' (zac SH p (S.replace d).1*F)):=by
 have hwf:=zaE hS;have hwant:=zgA p S F d false 19 w hS
 have hk:S.replace d=if S.want d false 19=0 then (S.setBay d ⟨zsh.new S.cfg.sectors,1⟩,0) else (S,S.want d false 19):=rfl
 have HS:=zh hS;obtain⟨x,hx⟩:∃ x,S.want d false 19=x:=⟨_,rfl⟩;rw[hx] at hk hwant
 by_cases h0:x=0
 ·subst h0
  rw[if_pos rfl] at hk;rw[hk];have h1:=(zho (by decide)).1 hx;have hin:=zsg.state_in hwf h1.1;obtain⟨k,rfl⟩:=Int.eq_ofNat_of_zero_le hin.1;have hkl:=hin.2;obtain⟨vb,vi,ps,qs,q,R,⟨_,hl1,hl2⟩,hq,hs,hR⟩:=ze4 hS (d:=k) (by omega);obtain⟨⟨q6,q7,q8,q9,q10⟩,hp,hfp,hra⟩:=zaU hs
  have hs2:=hs.perm (show _=zaf zct 2 vb S.bays.length (zbq ps S.bays)*(pts p (.cells (zaJ S.cfg vb vi S.off S.fused S.left) TSh (0,0))*(zaf zer 1 vi S.images.length (qs.map zaB) *
    (zak TD TS q (S.disk k)*(R*(zaF TD TS qs S.images*F))))) from by ac_rfl)
  obtain⟨g,cap,cur,rfl,hg,hc,hf,hgs,_⟩:=zaO hs2 (by omega);have hb:=zsg.bay_of (S:=S) hin.1 hin.2;have hcell:=zeL ps S.bays k q _ hq (by simpa using hb)
  have htw:∀ (w':World) (Y X:zsi),Sat w' (Y*(zaf zct 2 (.slice (some ⟨g,0,none⟩) S.bays.length cap) S.bays.length (zbq ps S.bays)*X))→w'.there g (0+k*2) 2:=by
   intro w' Y X h j hj;replace h:=h.right;obtain⟨g',cap',cur',hv,_,hc',hf',_⟩:=zaO h (by omega);simp only[Value.slice.injEq,Option.some.injEq,Addr.mk.injEq,and_true,true_and] at hv;obtain⟨rfl,rfl⟩:=hv;refine⟨?_,hf' _⟩;rcases (show j=0∨j=1 by omega) with rfl|rfl
   ·rw[show 0+k*2+0=k*2 by omega,hc' _ _ hcell.1];rfl
   ·rw[show 0+k*2+1=k*2+1 by omega,hc' _ _ hcell.2];rfl
  have hcfg:∀ (w':World) (X:zsi),Sat w' (pts p (.cells (zaJ S.cfg (.slice (some ⟨g,0,none⟩) S.bays.length cap) vi S.off S.fused S.left) TSh (0,0))*X)→w'.cell? ⟨p,6,none⟩=some (.slice (some ⟨g,0,none⟩) S.bays.length cap)∧w'.rangeAt p 0 (zfa S.cfg):=
   fun w' X h=>let r:=zaU h;⟨r.1.1,r.2.2.2⟩
  have HTW:=zh htw;have HCFG:=zh hcfg;have HR:=zh hR;have HWF:=zh hwf;have HSS:=zh hs;have HL:=(zd hl1 hl2)
  obtain⟨tib,htib⟩:∃ ti,prog.info? zct=some ti∧ti.size=2:=by have:=zdI (zaB 0) (zaB 0);obtain⟨ti,h1,h2⟩:=Option.map_eq_some_iff.1 this;exact⟨ti,h1,h2⟩
  have htb:=htib.1;have htb2:=htib.2;have ht0:=htw _ _ _ hs;have c0:=hcfg _ _ hs;clear hs hs2 hS hwf hk hx h1 hin hfp hra hl1 hl2 hq hc hf hgs hb hcell hR htw hcfg htib;go_enter func52,ntmps52;go_upto_region 3 with (go_at_call 98;refine hwant.mono ?_;rintro e w' ⟨rfl,rfl⟩;clear hwant)
  have hS0:w.drew.cell? ⟨p,6,none⟩=some (.slice (some ⟨g,0,none⟩) S.bays.length cap)∧w.drew.rangeAt p 0 (zfa S.cfg)∧w.drew.there g (0+k*2) 2:=⟨c0.1,c0.2,ht0⟩
  refine zah (fun w'=>w'.cell? ⟨p,6,none⟩=some (.slice (some ⟨g,0,none⟩) S.bays.length cap)∧w'.rangeAt p 0 (zfa S.cfg)∧w'.there g (0+k*2) 2) (by kernel_rfl) ?_
  (apply zaa 0 rfl rfl (by kernel_rfl) rfl);(rintro w' ⟨h1,h2,h3⟩;go_simp;rfl);exact hS0;simp only[zq];(apply zaa 1 rfl rfl (by kernel_rfl) rfl);(rintro w' ⟨h1,h2,h3⟩;go_simp;rfl);exact hS0;simp only[zq];(apply zaa 2 rfl rfl (by kernel_rfl) rfl);(rintro w' ⟨h1,h2,h3⟩;go_simp;rfl);exact hS0;simp only[zq];(apply zaa 3 rfl rfl (by kernel_rfl) rfl);(rintro w' ⟨h1,h2,h3⟩;go_simp;rfl);exact hS0;simp only[zq];(apply zaa 4 rfl rfl (by kernel_rfl) rfl);(rintro w' ⟨h1,h2,h3⟩;go_simp;rfl);exact hS0;simp only[zq]
  (apply zaa 5 rfl rfl (by kernel_rfl) rfl);(rintro w' ⟨h1,h2,h3⟩;go_simp;rfl);exact hS0;simp only[zq];(apply zaa 6 rfl rfl (by kernel_rfl) rfl);(rintro w' ⟨h1,h2,h3⟩;go_simp;rfl);exact hS0;simp only[zq];(apply zaa 7 rfl rfl (by kernel_rfl) rfl);(rintro w' ⟨h1,h2,h3⟩;go_simp;rfl);exact hS0;simp only[zq];refine zaa 8 (v:=.agg (za8 S.cfg)) rfl rfl (by kernel_rfl) rfl (fun w' h=>zbC rfl rfl (zeT h.2.1)) hS0 ?_;simp only[zq]
  refine zan 9 rfl rfl (by kernel_rfl) rfl (f:=29) (args:=#[.agg (za8 S.cfg)]) (R:=fun v w'=>v = .int .i64 S.cfg.sectors∧Hid (Below w.heap.size w w')) (by kernel_rfl) ((zhg S.cfg w.drew (by have:=HWF.out.cfg.log;omega) (by have:=HWF.out.cfg.image;omega) (by have:=HWF.out.cfg.rows;omega)).mono fun e w' h=>⟨_,h.1,rfl,⟨h.2.os,h.2.tape,h.2.output,h.2.size,h.2.block⟩⟩) ?_
  rintro _ w1 ⟨rfl,hb1⟩;have H1:=(zd ((Same.refl w).below hb1.out) (HSS.out.below hb1.out));have hS1:w1.cell? ⟨p,6,none⟩=some (.slice (some ⟨g,0,none⟩) S.bays.length cap)∧w1.rangeAt p 0 (zfa S.cfg)∧w1.there g (0+k*2) 2:=⟨(HCFG.out _ _ H1.out.2).1,(HCFG.out _ _ H1.out.2).2,HTW.out _ _ _ H1.out.2⟩;refine⟨hS1,?_⟩;simp only[zq]
  refine zan 10 rfl rfl (by kernel_rfl) rfl (f:=30) (args:=#[.int .i64 S.cfg.sectors]) (R:=fun v w'=>∃ q',v = .pointer (some ⟨q',0,none⟩)∧Hid (Same w w'∧Sat w' (pts p (.cells (zaJ S.cfg (.slice (some ⟨g,0,none⟩) S.bays.length cap) vi S.off S.fused S.left) TSh (0,0))*(zaf zct 2 (.slice (some ⟨g,0,none⟩) S.bays.length cap) S.bays.length (zbq ps S.bays)*(zaf zer 1 vi S.images.length (qs.map zaB) *
    (zak TD TS q' (zsh.new S.cfg.sectors)*(R*(zaF TD TS qs S.images*F)))))))) (by kernel_rfl)
   ((zj4 S.cfg.sectors _ w1 H1.out.2).mono fun e w' h=>by
    obtain⟨q',rfl,h1,h2⟩:=h
    exact⟨_,rfl,q',rfl,H1.out.1.trans h1,(h2.perm (show _=zak TD TS q (S.disk k)*(pts p (.cells (zaJ S.cfg (.slice (some ⟨g,0,none⟩) S.bays.length cap) vi S.off S.fused S.left) TSh (0,0))*(zaf zct 2 (.slice (some ⟨g,0,none⟩) S.bays.length cap) S.bays.length (zbq ps S.bays)*(zaf zer 1 vi S.images.length (qs.map zaB) *
    (zak TD TS q' (zsh.new S.cfg.sectors)*(R*(zaF TD TS qs S.images*F)))))) from by ac_rfl)).right⟩) ?_
  rintro _ w2 ⟨q',rfl,h2⟩;have hS2:w2.cell? ⟨p,6,none⟩=some (.slice (some ⟨g,0,none⟩) S.bays.length cap)∧w2.rangeAt p 0 (zfa S.cfg)∧w2.there g (0+k*2) 2:=⟨(HCFG.out _ _ h2.out.2).1,(HCFG.out _ _ h2.out.2).2,HTW.out _ _ _ h2.out.2⟩;refine⟨hS2,?_⟩;simp only[zq];(apply zaa 11 rfl rfl (by kernel_rfl) rfl);(rintro w' ⟨h1,h2,h3⟩;go_simp;rfl);exact hS2;simp only[zq];refine zaa 12 (v:=.pointer (some ⟨g,0+k*2,none⟩)) rfl rfl (by kernel_rfl) rfl (fun _ _=>zaw rfl rfl rfl underlying76 htb htb2 (by omega)) hS2 ?_;simp only[zq]
  refine zat 13 (w2.setCells g (0+k*2) [zaB q',.int .i64 1]) rfl rfl (by kernel_rfl) rfl (zdH (new:=#[zaB q',.int .i64 1]) rfl rfl rfl (zdI _ _) hS2.2.2 (by simp[zaB,Value.oneCell'])) ?_;go_wp2;go_ret;refine⟨rfl,Same.setCells _ h2.out.1,?_⟩
  have hs3:=h2.out.2.perm (show _=zaf zct 2 (.slice (some ⟨g,0,none⟩) S.bays.length cap) S.bays.length (zbq ps S.bays)*(pts p (.cells (zaJ S.cfg (.slice (some ⟨g,0,none⟩) S.bays.length cap) vi S.off S.fused S.left) TSh (0,0))*(zaf zer 1 vi S.images.length (qs.map zaB) *
    (zak TD TS q' (zsh.new S.cfg.sectors)*(R*(zaF TD TS qs S.images*F))))) from by ac_rfl)
  have hs4:=zby (zby hs3 (by omega) rfl (j:=k*2) (zaB q')) (by omega) rfl (j:=k*2+1) (.int .i64 1);refine zhl (T:=SH) (.slice (some ⟨g,0,none⟩) S.bays.length cap) vi (d:=k) (q':=q') (b:=⟨zsh.new S.cfg.sectors,1⟩) HL.out.1 HL.out.2 HR.out (HWF.out.setBay _ ⟨.inl rfl,fun _=>?_⟩) rfl rfl rfl ?_
  ·have:=HWF.out.cfg.small;have:=HWF.out.cfg.log;have:=HWF.out.cfg.image;have:=HWF.out.cfg.rows
   show (((min (max S.cfg.sectors 0) 65536).toNat:Nat):Int)=S.cfg.sectors
   unfold zsl.sectors at *
   omega
  ·rw[show 0+k*2=k*2 by omega]
   exact hs4.perm (by simp only[zsg.setBay];ac_rfl)
 ·rw[if_neg h0] at hk
  rw[hk]
  have hxb:(x==0)=false:=by simp[h0]
  clear hk h0 hS hwf hx;go_enter func52,ntmps52;go_wp2_with (go_at_call 98;refine hwant.mono ?_;rintro e w' ⟨rfl,rfl⟩;clear hwant);go_ret;exact⟨rfl,Same.refl w,HS.out⟩
theorem zlQ (r ck:Nat)(es:Array MapEntry)(w:World)(hb:w.heap[r]?=some (.map es ck)):
  Calls prog 142 #[.map (some r)] w fun e w'=>e = .returned (.map (some w.heap.size))∧w'=w.alloc (.map es ck):=by
 have hq:=fun w=>run_eql_map_nil_sl (P:=prog) w 128 _ _ (some r) underlying128
 go_enter func142,ntmps142;go_wp2;rw[run_callFunc_extern func157 (by kernel_rfl) (by kernel_rfl) (by kernel_rfl) (e:=Extern.MapsClone.clone) (by kernel_rfl),run_maps_clone_sl w 128 hb];simp only[Result.andThen];rw[Oper.upon_value];go_wp2;rw[run_typeAssert_map_sl _ 128 20 _ _ _ underlying128];simp only[Result.andThen];rw[Oper.upon_value];go_wp2;go_ret;exact⟨rfl,rfl⟩
theorem zlP (r ck:Nat)(es:Array MapEntry)(w:World)(hb:w.heap[r]?=some (.map es ck)):
  Calls prog 143 #[.map (some r)] w fun e w'=>e = .returned (.map (some w.heap.size))∧w'=w.alloc (.map es ck):=by
 have hq:=fun w=>run_eql_map_nil_sl (P:=prog) w 90 _ _ (some r) underlying90
 go_enter func143,ntmps143;go_wp2;rw[run_callFunc_extern func157 (by kernel_rfl) (by kernel_rfl) (by kernel_rfl) (e:=Extern.MapsClone.clone) (by kernel_rfl),run_maps_clone_sl w 90 hb];simp only[Result.andThen];rw[Oper.upon_value];go_wp2;rw[run_typeAssert_map_sl _ 90 20 _ _ _ underlying90];simp only[Result.andThen];rw[Oper.upon_value];go_wp2;go_ret;exact⟨rfl,rfl⟩
theorem zgm (n:Nat)(dur:Nat→List UInt8)(dc:Array Value)(xs:List Value)(w w':World)(v:Value)(hD:zlp n dur dc)(hxs:xs=dc.toList.take (n*64))(hl:∀ i,i<n→(dur i).length=64)
  (hown:w'.ownsRow w.heap.size TS 64 v n xs) (hk:∀ k,k<w.heap.size→w'.heap[k]?=w.heap[k]?) (F:zsi) (hF:Sat w F):Sat w' (zcN TS n dur v*F):=by
 obtain⟨hlen,hc⟩:=hown
 by_cases hn:n=0
 ·subst hn
  refine zeN.2 ⟨?_,hF.keep hk⟩;rcases hc with ⟨rfl,_⟩|⟨g,cap,cur,rfl,_⟩
  ·exact⟨_,_,rfl⟩
  ·exact⟨_,_,rfl⟩
 ·rcases hc with ⟨_,h0⟩|⟨g,cap,cur,rfl,hg,hgb,h1,h2,h3,h4⟩
  ·exact absurd h0 hn
  ·refine (zbZ (by omega)).2 ⟨g,cap,cur,⟨rfl,h1,h3,?_⟩,hF.growAt hk hg hgb⟩
   intro i hi j u hu
   have hj:j<64:=by have:=(List.getElem?_eq_some_iff.1 hu).1;rw[zao,hl i hi] at this;exact this
   have h5:=hD i hi j u hu
   have h6:(cur.toList.take (n*64))[i*64+j]?=some u:=by
    rw[h4,hxs,List.getElem?_take,if_pos (by omega),Array.getElem?_toList];exact h5
   rw[List.getElem?_take,if_pos (by omega),Array.getElem?_toList] at h6;exact h6
theorem zmg (n cap b:Nat)(dur:Nat→List UInt8)(dc:Array Value)(w:World)(hb:w.heap[b]?=some (.cells dc TS (0,0)))(hcap:n≤cap)(hdc:dc.size=cap*64)(hD:zlp n dur dc)(hl:∀ i,i<n→(dur i).length=64)(hn:0<n)(hmax:n≤65536)
  (h1:∀ v ∈ dc.toList.take (n*64),v.oneCell'=true):
  Calls prog 141 #[.slice (some ⟨b,0,none⟩) n cap] w fun e w'=>∃ v,e = .returned v∧Below w.heap.size w w'∧∀ F,Sat w F→Sat w' (zcN TS n dur v*F):=by
 obtain⟨ti,hti,hz0,hts,hz2⟩:=info_parts zf3
 have hlen:(dc.toList.take (n*64)).length=n*64:=by rw[List.length_take,Array.length_toList,hdc];omega
 have hblt:b<w.heap.size:=(Array.getElem?_eq_some_iff.1 hb).1
 have hcells:∀ (ob:Obj) j u,(dc.toList.take (n*64))[j]?=some u→(w.alloc ob).cell? ((⟨b,0,none⟩:Addr).add j)=some u:=by
  intro ob j u hu;rw[Addr.add_mid,World.cell?_alloc_lt _ _ _ hblt,zab hb,Nat.zero_add];rw[List.getElem?_take] at hu;split at hu
  ·rw[Array.getElem?_toList] at hu;exact hu
  ·cases hu
 have hown0:(w.alloc (.cells #[] TS)).ownsRow w.heap.size TS 64 (.slice (some ⟨w.heap.size,0,none⟩) 0 0) 0 []:=
  ⟨rfl,.inr ⟨w.heap.size,0,#[],rfl,Nat.le_refl _,heap_alloc_new w _,Nat.le_refl _,Nat.zero_le _,rfl,rfl⟩⟩
 have hnn:0+n≤maxLen:=by unfold maxLen;omega
 have hnb:(0+n)*64≤140737488355328:=by omega
 have hq:∀ w,(binOp .eql 127 (.slice (some ⟨b,0,none⟩) n cap) (.slice none 0 0)).run prog w = .ok (.bool false) w:=fun w=>Lib.run_eql_slice_nil w _ _ _ n cap 0 0 underlying127
 have HD:=zh hD;have HL:=zh hl;clear hD hl hdc;go_enter func141,ntmps141;go_wp2_with (at_builtin;refine wpList_append_own _ rfl _ _ 127 rfl w.heap.size TS ti (ziK zck) 64 64 underlying127 hti hz0 hts hz2 (by kernel_rfl) (by decide) _ _ _ rfl hown0 ⟨b,0,none⟩ n cap _ rfl hlen (hcells _) h1 hnn hnb (by simp) ?_);intro v w1 hown1 hg _;go_wp2;go_ret
 have hk:∀ k,k<w.heap.size→w1.heap[k]?=w.heap[k]?:=fun k hk=>(hg.block k (by simp;omega) (by simp[Value.ownBlock];omega)).trans (Below.heap_alloc w _ k hk)
 refine⟨v,rfl,⟨hg.os,hg.tape,hg.output,by have:=hg.size;simp at this;omega,hk⟩,fun F hF=>?_⟩
 exact zgm n dur dc _ w w1 v HD.out rfl HL.out hown1 hk F hF
theorem zkl (bo:Option Addr)(cap:Nat)(dur:Nat→List UInt8)(w:World):
  Calls prog 141 #[.slice bo 0 cap] w fun e w'=>∃ v,e = .returned v∧Below w.heap.size w w'∧∀ F,Sat w F→Sat w' (zcN TS 0 dur v*F):=by
 cases bo with
 | none =>
  have hq:∀ w,(binOp .eql 127 (.slice none 0 cap) (.slice none 0 0)).run prog w = .ok (.bool true) w:=fun w=>Lib.run_eql_slice_nil w _ _ _ 0 cap 0 0 underlying127
  go_enter func141,ntmps141;go_wp2;go_ret
  exact⟨_,rfl,Below.refl _ _,fun F hF=>zeN.2 ⟨⟨_,_,rfl⟩,hF⟩⟩
 | some ad =>
  obtain⟨ti,hti,hz0,hts,hz2⟩:=info_parts zf3
  have hown0:(w.alloc (.cells #[] TS)).ownsRow w.heap.size TS 64 (.slice (some ⟨w.heap.size,0,none⟩) 0 0) 0 []:=
   ⟨rfl,.inr ⟨w.heap.size,0,#[],rfl,Nat.le_refl _,heap_alloc_new w _,Nat.le_refl _,Nat.zero_le _,rfl,rfl⟩⟩
  have hnn:0+0≤maxLen:=by unfold maxLen;omega
  have hnb:(0+0)*64≤140737488355328:=by omega
  have hq:∀ w,(binOp .eql 127 (.slice (some ad) 0 cap) (.slice none 0 0)).run prog w = .ok (.bool false) w:=fun w=>Lib.run_eql_slice_nil w _ _ _ 0 cap 0 0 underlying127
  go_enter func141,ntmps141;go_wp2_with (at_builtin;refine wpList_append_own _ rfl _ _ 127 rfl w.heap.size TS ti (ziK zck) 64 64 underlying127 hti hz0 hts hz2 (by kernel_rfl) (by decide) _ _ _ rfl hown0 ad 0 cap [] rfl rfl (by simp) (by simp) hnn hnb (by simp) ?_);intro v w1 hown1 hg _;go_wp2;go_ret
  have hk:∀ k,k<w.heap.size→w1.heap[k]?=w.heap[k]?:=fun k hk=>(hg.block k (by simp;omega) (by simp[Value.ownBlock];omega)).trans (Below.heap_alloc w _ k hk)
  refine⟨v,rfl,⟨hg.os,hg.tape,hg.output,by have:=hg.size;simp at this;omega,hk⟩,fun F hF=>?_⟩
  exact zgm 0 dur #[] _ w w1 v (by intro i hi;omega) rfl (by intro i hi;omega) hown1 hk F hF
set_option linter.unusedSimpArgs false in
theorem zlz (p:Nat)(D:zsh)(F:zsi)(w:World)(hS:Sat w (zak TD TS p D*F)):
  Calls prog 99 #[.pointer (some ⟨p,0,none⟩)] w fun e w'=>∃ q,e = .returned (.pointer (some ⟨q,0,none⟩))∧Same w w'∧Sat w' (zak TD TS q D*(zak TD TS p D*F)):=by
 obtain⟨v,cb,ab,es,ck,l,es2,ck2,l2,⟨hwf,hM,hK,hM2,hK2⟩,hs⟩:=zaI.1 hS;obtain⟨bo,cap,rfl⟩:=zcu hs.right;obtain⟨q0,q1,q2⟩:=zaZ hs;have hsb:=hs.right.right;have hcb:w.heap[cb]?=some (.map es ck):=hsb.block;have hab:w.heap[ab]?=some (.map es2 ck2):=hsb.right.block;have hplt:=hs.lt;have hcblt:=(Array.getElem?_eq_some_iff.1 hcb).1;have hablt:=(Array.getElem?_eq_some_iff.1 hab).1
 have c50:Calls prog 141 #[.slice bo D.n cap] w.drew fun e w'=>∃ v,e = .returned v∧Below w.drew.heap.size w.drew w'∧∀ F,Sat w.drew F→Sat w' (zcN TS D.n D.dur v*F):=by
  by_cases hn:D.n=0
  ·rw[hn];exact zkl bo cap D.dur w.drew
  ·have hsd:=hs.perm (show _=zcN TS D.n D.dur (.slice bo D.n cap)*(pts p (.cells #[.slice bo D.n cap,.map (some cb),.map (some ab)] TD (0,0))*(pts cb (.map es ck)*(pts ab (.map es2 ck2)*F))) from by ac_rfl)
   obtain⟨b,cap,dc,⟨hv,hcap,hdc,hD⟩,hsb⟩:=(zbZ (by omega)).1 hsd;rw[hv];have hb:=hsb.block
   have h1:∀ u ∈ dc.toList.take (D.n*64),u.oneCell'=true:=by
    intro u hu;obtain⟨j,hj,rfl⟩:=List.getElem_of_mem hu;rw[List.length_take] at hj;have h3:=hD (j / 64) (by omega) (j%64) _ (zkn (hwf.dur (j / 64) (by omega)) (Nat.mod_lt _ (by omega)));rw[show j / 64*64+j%64=j by omega] at h3;rw[List.getElem_take]
    have h4:dc[j]?=some dc.toList[j]:=by rw[← Array.getElem?_toList,List.getElem?_eq_getElem]
    rw[h4] at h3;rw[Option.some.inj h3];rfl
   exact zmg D.n cap b D.dur dc w.drew hb hcap hdc hD hwf.dur (by omega) hwf.small h1
 have HS:=zh hS;have HI:=zh (show D.WF∧MapL es ck l∧KvSec l D.cache∧MapL es2 ck2 l2∧KvInt l2 D.armed from⟨hwf,hM,hK,hM2,hK2⟩);clear hM hK hM2 hK2 hwf hsb hs hS;go_enter func99,ntmps99;go_upto_region 1 with (fail)
 have hS0:w.drew.cell? ⟨p,0,none⟩=some (.slice bo D.n cap)∧w.drew.cell? ⟨p,1,none⟩=some (.map (some cb))∧w.drew.cell? ⟨p,2,none⟩=some (.map (some ab)):=⟨q0,q1,q2⟩
 refine zah (fun w'=>w'.cell? ⟨p,0,none⟩=some (.slice bo D.n cap)∧w'.cell? ⟨p,1,none⟩=some (.map (some cb))∧w'.cell? ⟨p,2,none⟩=some (.map (some ab))) (by kernel_rfl) ?_
 (apply zaa 0 rfl rfl (by kernel_rfl) rfl);(rintro w' ⟨h1,h2,h3⟩;go_simp;rfl);exact hS0;simp only[zq];(apply zaa 1 rfl rfl (by kernel_rfl) rfl);(rintro w' ⟨h1,h2,h3⟩;go_simp;rfl);exact hS0;simp only[zq];(apply zaa 2 rfl rfl (by kernel_rfl) rfl);(rintro w' ⟨h1,h2,h3⟩;go_simp;rfl);exact hS0;simp only[zq];(apply zaa 3 rfl rfl (by kernel_rfl) rfl);(rintro w' ⟨h1,h2,h3⟩;go_simp;rfl);exact hS0;simp only[zq];(apply zaa 5 rfl rfl (by kernel_rfl) rfl);(rintro w' ⟨h1,h2,h3⟩;go_simp;rfl);exact hS0;simp only[zq]
 (apply zaa 6 rfl rfl (by kernel_rfl) rfl);(rintro w' ⟨h1,h2,h3⟩;go_simp;rfl);exact hS0;simp only[zq];(apply zaa 7 rfl rfl (by kernel_rfl) rfl);(rintro w' ⟨h1,h2,h3⟩;go_simp;rfl);exact hS0;simp only[zq];(apply zaa 8 rfl rfl (by kernel_rfl) rfl);(rintro w' ⟨h1,h2,h3⟩;go_simp;rfl);exact hS0;simp only[zq];(apply zaa 10 rfl rfl (by kernel_rfl) rfl);(rintro w' ⟨h1,h2,h3⟩;go_simp;rfl);exact hS0;simp only[zq];(apply zaa 11 rfl rfl (by kernel_rfl) rfl);(rintro w' ⟨h1,h2,h3⟩;go_simp;rfl);exact hS0;simp only[zq]
 (apply zaa 12 rfl rfl (by kernel_rfl) rfl);(rintro w' ⟨h1,h2,h3⟩;go_simp;rfl);exact hS0;simp only[zq];(apply zaa 13 rfl rfl (by kernel_rfl) rfl);(rintro w' ⟨h1,h2,h3⟩;go_simp;rfl);exact hS0;simp only[zq];refine zan 4 rfl rfl (by kernel_rfl) rfl (f:=141) (args:=#[.slice bo D.n cap]) (by kernel_rfl) c50 ?_;rintro dv W1 ⟨hb1,hd1⟩;clear c50
 have hS1:W1.cell? ⟨p,0,none⟩=some (.slice bo D.n cap)∧W1.cell? ⟨p,1,none⟩=some (.map (some cb))∧W1.cell? ⟨p,2,none⟩=some (.map (some ab)):=
  ⟨(hb1.cell (p:=⟨p,0,none⟩) hplt).trans q0,(hb1.cell (p:=⟨p,1,none⟩) hplt).trans q1,(hb1.cell (p:=⟨p,2,none⟩) hplt).trans q2⟩
 refine⟨hS1,?_⟩;simp only[zq];have hcb1:W1.heap[cb]?=some (.map es ck):=(hb1.block cb hcblt).trans hcb;have hab1:W1.heap[ab]?=some (.map es2 ck2):=(hb1.block ab hablt).trans hab;have hsz1:=hb1.size;refine zan 9 rfl rfl (by kernel_rfl) rfl (f:=142) (args:=#[.map (some cb)]) (R:=fun v w'=>v = .map (some W1.heap.size)∧w'=W1.alloc (.map es ck)) (by kernel_rfl) ((zlQ cb ck es W1 hcb1).mono fun e w' h=>⟨_,h.1,rfl,h.2⟩) ?_;rintro _ _ ⟨rfl,rfl⟩;have hp1:p<W1.heap.size:=Nat.lt_of_lt_of_le hplt hsz1
 have hS2:(W1.alloc (.map es ck)).cell? ⟨p,0,none⟩=some (.slice bo D.n cap)∧(W1.alloc (.map es ck)).cell? ⟨p,1,none⟩=some (.map (some cb))∧(W1.alloc (.map es ck)).cell? ⟨p,2,none⟩=some (.map (some ab)):=
  ⟨(World.cell?_alloc_lt _ _ _ hp1).trans hS1.1,(World.cell?_alloc_lt _ _ _ hp1).trans hS1.2.1,(World.cell?_alloc_lt _ _ _ hp1).trans hS1.2.2⟩
 refine⟨hS2,?_⟩;simp only[zq];have hab2:(W1.alloc (.map es ck)).heap[ab]?=some (.map es2 ck2):=(Below.heap_alloc W1 _ ab (Nat.lt_of_lt_of_le hablt hsz1)).trans hab1
 refine zan 14 rfl rfl (by kernel_rfl) rfl (f:=143) (args:=#[.map (some ab)]) (R:=fun v w'=>v = .map (some (W1.heap.size+1))∧w'=(W1.alloc (.map es ck)).alloc (.map es2 ck2)) (by kernel_rfl) ((zlP ab ck2 es2 _ hab2).mono fun e w' h=>⟨_,h.1,by simp,h.2⟩) ?_
 rintro _ _ ⟨rfl,rfl⟩
 have hp2:p<(W1.alloc (.map es ck)).heap.size:=by simp;omega
 have hS3:((W1.alloc (.map es ck)).alloc (.map es2 ck2)).cell? ⟨p,0,none⟩=some (.slice bo D.n cap)∧((W1.alloc (.map es ck)).alloc (.map es2 ck2)).cell? ⟨p,1,none⟩=some (.map (some cb))∧((W1.alloc (.map es ck)).alloc (.map es2 ck2)).cell? ⟨p,2,none⟩=some (.map (some ab)):=
  ⟨(World.cell?_alloc_lt _ _ _ hp2).trans hS2.1,(World.cell?_alloc_lt _ _ _ hp2).trans hS2.2.1,(World.cell?_alloc_lt _ _ _ hp2).trans hS2.2.2⟩
 refine⟨hS3,?_⟩;simp only[zq]
 obtain⟨ao,cc,hdv⟩:∃ ao cc,dv = .slice ao D.n cc:=by
  have:=hd1 _ HS.out;exact zcu this
 subst hdv;(apply zaa 15 rfl rfl (by kernel_rfl) rfl);(rintro w' ⟨h1,h2,h3⟩;go_simp;rfl);exact hS3;simp only[zq];have hs4:=(((hd1 _ HS.out).alloc (.map es ck)).alloc (.map es2 ck2)).alloc (.cells #[.slice ao D.n cc,.map (some W1.heap.size),.map (some (W1.heap.size+1))] TD)
 have hp3:p<((W1.alloc (.map es ck)).alloc (.map es2 ck2)).heap.size:=by simp;omega
 have hS4:(((W1.alloc (.map es ck)).alloc (.map es2 ck2)).alloc (.cells #[.slice ao D.n cc,.map (some W1.heap.size),.map (some (W1.heap.size+1))] TD)).cell? ⟨p,0,none⟩=some (.slice bo D.n cap)∧(((W1.alloc (.map es ck)).alloc (.map es2 ck2)).alloc (.cells #[.slice ao D.n cc,.map (some W1.heap.size),.map (some (W1.heap.size+1))] TD)).cell? ⟨p,1,none⟩=some (.map (some cb))∧(((W1.alloc (.map es ck)).alloc (.map es2 ck2)).alloc (.cells #[.slice ao D.n cc,.map (some W1.heap.size),.map (some (W1.heap.size+1))] TD)).cell? ⟨p,2,none⟩=some (.map (some ab)):=
  ⟨(World.cell?_alloc_lt _ _ _ hp3).trans hS3.1,(World.cell?_alloc_lt _ _ _ hp3).trans hS3.2.1,(World.cell?_alloc_lt _ _ _ hp3).trans hS3.2.2⟩
 refine zaV 16 (.pointer (some ⟨W1.heap.size+2,0,none⟩)) (((W1.alloc (.map es ck)).alloc (.map es2 ck2)).alloc (.cells #[.slice ao D.n cc,.map (some W1.heap.size),.map (some (W1.heap.size+1))] TD)) rfl rfl (by kernel_rfl) rfl (by go_simp) (hS4) ?_;simp only[zq];(apply zaa 17 rfl rfl (by kernel_rfl) rfl);(rintro w' ⟨h1,h2,h3⟩;go_simp;rfl);exact hS4;simp only[zq];refine zar (by kernel_rfl) ?_;have HF:=zh hs4;have HB:=zh hb1;clear hs4 hS0 hS1 hS2 hS3 hS4 hd1 hb1 q0 q1 q2;go_wp2;go_ret;refine⟨W1.heap.size+2,rfl,(((((Same.refl w).drew).below HB.out).alloc _).alloc _).alloc _,?_⟩
 have hf:=HF.out;simp only[World.size_alloc] at hf;obtain⟨hwf,hM,hK,hM2,hK2⟩:=HI.out;exact zaI.2 ⟨.slice ao D.n cc,W1.heap.size,W1.heap.size+1,es,ck,l,es2,ck2,l2,⟨hwf,hM,hK,hM2,hK2⟩,hf.perm (by ac_rfl)⟩
end Go.Proofs.YtmcclbiaoeilkaaGreat
end
