import Derived.Test.YtmcclbiaoeilkaaGreatQ47
set_option maxHeartbeats 4000000
set_option maxRecDepth 20000
/- Part 48. -/
section
namespace Go.Proofs.YtmcclbiaoeilkaaGreat
open Go.Proofs.Tryz Go.RowKit Go.Sl Go.ChangeMaps
theorem zpB {c:zsl}(h:c.WF):zjw c=c.sectors:=by
 have h1:=h.rows;have h2:=h.log;have h3:=h.image;unfold zjw zsl.sectors wrap64;omega
theorem zno {S:zsg}(h:S.WF):((zsh.new S.cfg.sectors).n:Int)=S.cfg.sectors:=by
 have h1:=h.cfg.rows;have h2:=h.cfg.log;have h3:=h.cfg.image;have h4:=h.cfg.small;unfold zsh.new;show ((min (max S.cfg.sectors 0) 65536).toNat:Int)=S.cfg.sectors
 unfold zsl.sectors at *
 omega
theorem zk6 {p:Nat}{S:zsg}{F:zsi}{w:World}{k g gs n capb caps:Nat}{vi:Value}{ps qs:List Nat}{q:Nat}{R:zsi}{D:zsh}(ho:zfe S k ps qs q R)(q':Nat)(hn:S.bays.length=n)
  (h:Sat w (zha p S (.slice (some ⟨g,0,none⟩) n capb) (.slice (some ⟨gs,0,none⟩) n caps) vi ps qs q D R F)):
  (w.setCell ⟨g,k,none⟩ (zaB q')).cell? ⟨p,7,none⟩=some (.slice (some ⟨gs,0,none⟩) n caps)∧(w.setCell ⟨g,k,none⟩ (zaB q')).cell? ⟨gs,k,none⟩=some (.int .i64 (S.state k))∧(w.setCell ⟨g,k,none⟩ (zaB q')).frozen? ⟨gs,k,none⟩=false:=by
 have hk:=(List.getElem?_eq_some_iff.1 ho.bay).1;unfold zha at h
 have h1:=zby (h.perm (show _=zaf TRp 1 (.slice (some ⟨g,0,none⟩) n capb) S.bays.length (ps.map zaB)*(pts p (.cells (rsC S.cfg (.slice (some ⟨g,0,none⟩) n capb) (.slice (some ⟨gs,0,none⟩) n caps) vi (!S.off) S.rleft) ze9 (0,0))*(zaf 3 1 (.slice (some ⟨gs,0,none⟩) n caps) S.bays.length (S.bays.map stV)*(zaf TRp 1 vi S.images.length (qs.map zaB) *
  (zbF RT q D*(R*(zbA RT qs S.images*F)))))) from by ac_rfl)) (by omega) (g:=g) (cap:=capb) (by rw[hn]) (j:=k) (zaB q')
 refine⟨zab h1.right.block 7,?_⟩
 obtain⟨gs',cap,cur,e,_,hc,hf,_⟩:=zaO (h1.perm (show _=zaf 3 1 (.slice (some ⟨gs,0,none⟩) n caps) S.bays.length (S.bays.map stV)*(zaf TRp 1 (.slice (some ⟨g,0,none⟩) n capb) S.bays.length ((ps.map zaB).set k (zaB q'))*(pts p (.cells (rsC S.cfg (.slice (some ⟨g,0,none⟩) n capb) (.slice (some ⟨gs,0,none⟩) n caps) vi (!S.off) S.rleft) ze9 (0,0))*(zaf TRp 1 vi S.images.length (qs.map zaB) *
  (zbF RT q D*(R*(zbA RT qs S.images*F)))))) from by ac_rfl)) (by omega)
 simp only[Value.slice.injEq,Option.some.injEq,Addr.mk.injEq,and_true] at e;obtain⟨rfl,_,rfl⟩:=e;exact⟨hc k _ (by rw[List.getElem?_map,ho.bay];rfl),hf k⟩
theorem zjp (p:Nat)(S:zsg)(F:zsi)(d:Int)(w:World)(hS:Sat w (zad RS p S*F)):
  Calls prog 65 #[.pointer (some ⟨p,0,none⟩),d] w fun e w'=>e = .returned (.int .i64 (S.replace d).2)∧Hid (Same w w'∧∃ X,Sat w' (zad RS p (S.replace d).1*(X*F))):=by
 have hwf:=zbm hS;have HST:=zh (zcj p S F d w hS);have HS:=zh hS
 by_cases h0:S.state d=0
 ·have hk:S.replace d=(S,1):=by unfold zsg.replace zsg.want;rw[if_pos h0];rfl
  rw[hk];rw[h0] at HST;clear hk h0 hwf hS;go_enter func65,ntmps65;go_wp2_with (go_at_call 41;refine HST.out.mono ?_;rintro e w1 ⟨rfl,rfl⟩);go_ret;exact⟨rfl,Same.refl w,emp,by rw[zaL];exact HS.out⟩
 ·obtain⟨hd0,hd1⟩:=zsg.state_in hwf h0
  obtain⟨k,rfl⟩:=Int.eq_ofNat_of_zero_le hd0;obtain⟨vb,vs,vi,ps,qs,q,R,ho,hs⟩:=zcL hS (k:=k) (by omega);obtain⟨gs,caps,rfl,c7,cs,fs⟩:=zdV ho hs
  have hkd:S.replace (k:Int)=if S.state k=1 then (S,19) else (S.setBay k ⟨zsh.new S.cfg.sectors,1⟩,0):=by
   unfold zsg.replace zsg.want;rw[if_neg h0]
   by_cases h1:S.state k=1
   ·rw[if_pos h1,decide_eq_true h1];simp
   ·rw[if_neg h1,decide_eq_false h1];simp
  obtain⟨n,hn⟩:∃ n,S.bays.length=n:=⟨_,rfl⟩;rw[hn] at c7 hd1;have HN:=zh hn
  by_cases h1:S.state (k:Int)=1
  ·rw[if_pos h1] at hkd
   rw[hkd];rw[h1] at cs HST;clear hs ho hwf hS hn hkd h0 h1;go_enter func65,ntmps65;go_wp2_with (go_at_call 41;refine HST.out.mono ?_;rintro e w1 ⟨rfl,rfl⟩);go_ret;exact⟨rfl,Same.refl w,emp,by rw[zaL];exact HS.out⟩
  ·rw[if_neg h1] at hkd
   rw[hkd]
   have e0:(S.state (k:Int)==0)=false:=by simp[h0]
   have e1:(S.state (k:Int)==1)=false:=by simp[h1]
   have HWF:=zh hwf;have HO:=(zd ho hs);generalize S.state (k:Int)=st at cs HST e0 e1;clear hs ho hwf hS hn hkd h0 h1;go_enter func65,ntmps65;go_upto_region 5 with (go_at_call 41;refine HST.out.mono ?_;rintro e w1 ⟨rfl,rfl⟩)
   obtain⟨g,capb,rfl,c6,cq,-⟩:=zbw HO.out.1 HO.out.2;rw[HN.out] at c6
   have hk0:(0:Int)≤(k:Int):=by omega
   have hra:w.rangeAt p 0 (zfa S.cfg):=(zbN (show Sat w (pts p _*_) from HO.out.2)).2.2;have HSEC:=zh (fun W=>zhe S.cfg W);rw[zpB HWF.out.cfg] at HSEC;have HQ:=(zd ((Same.refl w).drew) (HO.out.2.drew));obtain⟨sc,hsc⟩:∃ sc,S.cfg.sectors=sc:=⟨_,rfl⟩;rw[hsc] at HSEC;have HSC:=zh hsc;clear hsc cs c7 cq HST;have hS0:w.drew.cell? ⟨p,6,none⟩=some (.slice (some ⟨g,0,none⟩) n capb)∧w.drew.rangeAt p 0 (zfa S.cfg):=⟨c6,hra⟩
   refine zah (fun w'=>w'.cell? ⟨p,6,none⟩=some (.slice (some ⟨g,0,none⟩) n capb)∧w'.rangeAt p 0 (zfa S.cfg)) (by kernel_rfl) ?_
   clear c6 hra;generalize w.drew=W0 at hS0 HQ ⊢;(apply zaa 0 rfl rfl (by kernel_rfl) rfl);(rintro w' ⟨h1,h2⟩;go_simp;rfl);exact hS0;simp only[zq];(apply zaa 1 rfl rfl (by kernel_rfl) rfl);(rintro w' ⟨h1,h2⟩;go_simp;rfl);exact hS0;simp only[zq];(apply zaa 2 rfl rfl (by kernel_rfl) rfl);(rintro w' ⟨h1,h2⟩;go_simp;rfl);exact hS0;simp only[zq];(apply zaa 3 rfl rfl (by kernel_rfl) rfl);(rintro w' ⟨h1,h2⟩;go_simp;rfl);exact hS0;simp only[zq];(apply zaa 4 rfl rfl (by kernel_rfl) rfl);(rintro w' ⟨h1,h2⟩;go_simp;rfl);exact hS0;simp only[zq]
   (apply zaa 5 rfl rfl (by kernel_rfl) rfl);(rintro w' ⟨h1,h2⟩;go_simp;rfl);exact hS0;simp only[zq];(apply zaa 6 rfl rfl (by kernel_rfl) rfl);(rintro w' ⟨h1,h2⟩;go_simp;rfl);exact hS0;simp only[zq];(apply zaa 7 rfl rfl (by kernel_rfl) rfl);(rintro w' ⟨h1,h2⟩;go_simp;rfl);exact hS0;simp only[zq];refine zaa 8 (v:=.agg (za8 S.cfg)) rfl rfl (by kernel_rfl) rfl (fun w' h=>zbC rfl rfl (zeT h.2)) hS0 ?_;simp only[zq];refine zan 9 rfl rfl (by kernel_rfl) rfl (f:=32) (args:=#[.agg (za8 S.cfg)]) (R:=fun v w'=>v = .int .i64 sc∧Hid (Below W0.heap.size W0 w')) (by kernel_rfl) ((HSEC.out W0).mono fun e w' h=>⟨_,h.1,rfl,h.2⟩) ?_
   rintro _ w1 ⟨rfl,hb1⟩;replace HQ:=(zd (HQ.out.1.below hb1.out) (HQ.out.2.below hb1.out));have hra1:=(zbN (show Sat w1 (pts p _*_) from HQ.out.2)).2.2;have hc1:=(zbw HO.out.1 HQ.out.2).choose_spec.choose_spec.2.1;rw[HN.out] at hc1;refine⟨⟨hc1,hra1⟩,?_⟩;clear hS0;have hS1:w1.cell? ⟨p,6,none⟩=some (.slice (some ⟨g,0,none⟩) n capb)∧w1.rangeAt p 0 (zfa S.cfg):=⟨hc1,hra1⟩;clear hc1 hra1;simp only[zq]
   refine zan 10 rfl rfl (by kernel_rfl) rfl (f:=33) (args:=#[.int .i64 sc]) (R:=fun v w'=>∃ q',v = .pointer (some ⟨q',0,none⟩)∧Hid (Same w w'∧Sat w' (zha p S (.slice (some ⟨g,0,none⟩) S.bays.length capb) (.slice (some ⟨gs,0,none⟩) S.bays.length caps) vi ps qs q (S.disk k) R (zbF RT q' (zsh.new S.cfg.sectors)*F)))) (by kernel_rfl)
    ((zf7 sc _ w1 HQ.out.2).mono fun e w' h=>by
     obtain⟨q',rfl,hX⟩:=h;obtain⟨h1,h2⟩:=hX.out;rw[← HSC.out] at h2
     exact⟨_,rfl,q',rfl,HQ.out.1.trans h1,h2.perm (by unfold zha;ac_rfl)⟩) ?_
   rintro _ w3 ⟨q',rfl,h3⟩;have hra3:=(zbN (show Sat w3 (pts p _*_) from h3.out.2)).2.2;obtain⟨g',capb',eg,hc3,hq3,hf3⟩:=zbw HO.out.1 h3.out.2;simp only[Value.slice.injEq,Option.some.injEq,Addr.mk.injEq,and_true,true_and] at eg;obtain⟨rfl,rfl⟩:=eg;rw[HN.out] at hc3;refine⟨⟨hc3,hra3⟩,?_⟩;simp only[zq];obtain⟨ip,hip,hip2⟩:=Option.map_eq_some_iff.1 (show (prog.info? TRp).map (·.size)=some 1 by kernel_rfl);have hS3:w3.cell? ⟨p,6,none⟩=some (.slice (some ⟨g,0,none⟩) n capb)∧w3.rangeAt p 0 (zfa S.cfg):=⟨hc3,hra3⟩
   (apply zaa 11 rfl rfl (by kernel_rfl) rfl);(rintro w' ⟨h1,h2⟩;go_simp;rfl);exact hS3;simp only[zq];refine zat 12 (w3.setCell ⟨g,k,none⟩ (.pointer (some ⟨q',0,none⟩))) rfl rfl (by kernel_rfl) rfl (zay rfl rfl rfl hip hip2 rfl hq3 hf3) ?_;have h3':=h3.out.2;rw[HN.out] at h3';have H4:=(zd h3.out.1 h3');obtain⟨d7,ds,df⟩:=zk6 HO.out.1 q' HN.out h3';unfold zaB at d7 ds df;have hsm4:=zh (h3.out.1.setCell ⟨g,k,none⟩ (.pointer (some ⟨q',0,none⟩)));have hfin:=zh (zk7 HO.out.1 q' (zsh.new S.cfg.sectors) 1 HN.out (HWF.out.setBay _ ⟨.inl rfl,fun _=>zno HWF.out⟩) h3')
   unfold zaB at hfin;clear h3 h3' hra3 hc3 hq3 hf3 hip hip2 hS1 hb1 HQ H4 HSEC HSC;generalize w3.setCell ⟨g,k,none⟩ (.pointer (some ⟨q',0,none⟩))=W4 at d7 ds df hsm4 hfin ⊢;go_wp2;go_ret;exact⟨rfl,hsm4.out.setCell _ _,_,hfin.out⟩
theorem zkd {D:zsh}{L M:List SecV}(h:RefOf D L)(e:M.map Prod.fst=L.map Prod.fst):RefOf D M:=by
 have hl:M.length=L.length:=by have:=congrArg List.length e;simpa using this
 have key:∀ (i:Nat) (x:SecV),M[i]?=some x→∃ y:SecV,L[i]?=some y∧x.1=y.1:=by
  intro i x hx
  have h1:(M.map Prod.fst)[i]?=some x.1:=by rw[List.getElem?_map,hx];rfl
  rw[e,List.getElem?_map] at h1;obtain⟨y,hy,h2⟩:=Option.map_eq_some_iff.1 h1;exact⟨y,hy,h2.symm⟩
 refine⟨by rw[hl];exact h.len,fun i x hx=>?_,fun i x hx=>?_,fun i x s hx hs=>?_,fun i x hx=>?_,fun i x hx=>?_⟩
 all_goals obtain⟨y,hy,h2⟩:=key i x hx
 all_goals rw[h2]
 ·exact h.dur i y hy
 ·exact h.pend i y hy
 ·exact h.cac i y s hy hs
 ·exact h.fault i y hy
 ·exact h.clen i y hy
theorem zow (w:World):(Builtin.append_ #[69,69] 69 #[.slice none 0 0,.slice none 0 0]).run prog w = .ok (.slice none 0 0) w:=by kernel_rfl
theorem zmy {w:World}{v:Value}{l:List UInt8}{F:zsi}(h:Sat w (zbW TU8 v l*F))(hl:l.length≤1000):
  ∃ ao cap w',(Builtin.append_ #[69,69] 69 #[.slice none 0 0,v]).run prog w = .ok (.slice ao l.length cap) w'∧Same w w'∧Sat w' (zbW TU8 (.slice ao l.length cap) l*(zbW TU8 v l*F)):=by
 rcases ze2.1 h with ⟨rfl,rfl,hs⟩|⟨g,cap,cur,fr,⟨rfl,hle,hc⟩,hs⟩
 ·exact⟨none,0,w,zow w,Same.refl w,zk5 h⟩
 ·obtain⟨ti,hti,hz0,hts,hz2⟩:=info_parts zfm
  obtain⟨v5,w5,hr5,hsm5,hs5⟩:=zaH (P:=prog) 69 69 TU8 ti _ underlying69 hti hz0 (by rw[hts];rfl) (.slice none 0 0) 0 [] (by rw[hts];exact zbp.2 h) ⟨g,0,none⟩ l.length cap (za2 l) (by rw[hts,zdd];omega)
   (by
    intro j u hu;rw[Addr.add_mid,Nat.zero_add,zab hs.block]
    exact hc j u hu) (zde _) (by unfold maxLen;omega) (by rw[hz2];omega)
  rw[hts,List.nil_append,Nat.zero_add] at hs5;obtain⟨ao,cap',rfl⟩:=zal hs5;exact⟨ao,cap',w5,hr5,hsm5,zee hs5⟩
structure zr1 (w:World)(p q:Nat)(ao:Option Addr)(n cap:Nat)(L:List SecV)(F:zsi)(i:Value)(wr:World):Prop where
 st:∃ (k:Nat) (M:List SecV) (v:Value),k≤n∧i = .int .i64 (k:Int)∧M.length=k∧M.map Prod.fst=(L.take k).map Prod.fst∧
  Hid (Same w wr∧Sat wr (zhA p ao n cap L (pts q (.cells #[v] TRk (0,0))*(zaf TRs 4 v k (M.flatMap zd2)*(zbM TU8 M*F)))))
theorem zjl (p:Nat)(D:zsh)(F:zsi)(w:World)(hS:Sat w (zbF RT p D*F)):
  Calls prog 112 #[.pointer (some ⟨p,0,none⟩)] w fun e w'=>∃ q:Nat,e = .returned (.pointer (some ⟨q,0,none⟩))∧Hid (Same w w'∧Sat w' (zbF RT q D*(zbF RT p D*F))):=by
 obtain⟨lv,L,⟨hwf,hr⟩,hs⟩:=zbz.1 hS;obtain⟨ao,cap,rfl⟩:=zal hs.right;obtain⟨n,hn⟩:∃ n,L.length=n:=⟨_,rfl⟩
 have hn6:n≤65536:=by have h1:=hwf.small;have h2:=hr.len;omega
 have hs':Sat w (zhA p ao n cap L F):=by unfold zhA;rw[hn] at hs ⊢;exact hs
 have h0:=hs'.alloc (.cells #[.slice none 0 0] TRk);have hsm0:=(Same.refl w).alloc (.cells #[.slice none 0 0] TRk)
 have H0:=zh (show zr1 w p w.heap.size ao n cap L F (.int .i64 0) (w.alloc (.cells #[.slice none 0 0] TRk)) from⟨0,[],.slice none 0 0,Nat.zero_le _,rfl,rfl,rfl,hsm0,by
  have h1:Sat _ (zaf TRs 4 (.slice none 0 0) 0 []*_):=zbp.2 h0;refine h1.perm ?_;unfold zhA;rw[show zbM TU8 []=emp from rfl,zaL];show _=pts p _*(_*(_*(_*(zaf TRs 4 _ 0 []*_))))
  ac_rfl⟩)
 have HW:=(zd hwf hr);have HN:=zh hn;clear hS hs hs' h0 hsm0 hwf hr hn;go_enter func112,ntmps112;go_upto_region 3 with (fail)
 generalize w.alloc (.cells #[.slice none 0 0] TRk)=W at H0 ⊢;generalize w.heap.size=q at H0 ⊢
 go_loopw [4] (fun i wr=>zr1 w p q ao n cap L F i wr) (fun i _=>n - (intOf i).toNat)
 case atStart=>exact H0.out
 case round =>
  clear H0;obtain⟨k,M,v,hk,rfl,hM,hMe,H1⟩:=hrel.st;clear hrel;have c0:wr.cell? ⟨p,0,none⟩=some (.slice ao n cap):=zab (Sat.block H1.out.2) 0
  by_cases hlt:k<n
  case neg =>
   obtain rfl:k=n:=by omega
   have hltd:decide (k<k)=false:=decide_eq_false (by omega);have HME:=(zd hM hMe);clear hlt hk hM hMe;go_wp2;go_ret;have hMe:=HME.out.2;rw[← HN.out,List.take_length] at hMe;refine⟨q,rfl,H1.out.1,zbz.2 ⟨v,M,⟨HW.out.1,zkd HW.out.2 hMe⟩,?_⟩⟩;rw[HME.out.1];have h9:=H1.out.2.perm (show _=zhA p ao k cap L (pts q (.cells #[v] TRk (0,0))*(zaf TRs 4 v k (M.flatMap zd2)*(zbM TU8 M*F))) from rfl);unfold zhA at h9;have h10:=h9.perm (show _=pts p (.cells #[.slice ao k cap] TRk (0,0))*(zaf TRs 4 (.slice ao k cap) L.length (L.flatMap zd2)*(zbM TU8 L*(pts q (.cells #[v] TRk (0,0))*(zaf TRs 4 v k (M.flatMap zd2)*(zbM TU8 M*F))))) from rfl)
   have h11:=(zbz (T:=RT)).2 ⟨.slice ao k cap,L,HW.out,h10⟩;exact h11.perm (by show _=pts q _*(_*(_*(zbF RT p D*F)));ac_rfl)
  case pos =>
   have hltd:decide ((k:Int)<(n:Int))=true:=decide_eq_true (by omega)
   have hkn:(k:Int)<(n:Int):=by omega
   have hk0:(0:Int)≤(k:Int):=by omega
   have hk6:(k:Int)≤65536:=by omega
   obtain⟨x,hx⟩:∃ x,L[k]?=some x:=⟨_,List.getElem?_eq_getElem (by have:=HN.out;omega)⟩;obtain⟨g,rfl,-⟩:=zco (Sat.right H1.out.2) hx;have ho:Sat wr (zcV p g n cap L (pts q (.cells #[v] TRk (0,0))*(zaf TRs 4 v k (M.flatMap zd2)*(zbM TU8 M*F)))):=H1.out.2;obtain⟨-,e0,e1,e2,e3,-⟩:=zaW ho hx
   have hdl:x.1.dur.length≤1000:=by
    rw[HW.out.2.dur k x hx,HW.out.1.dur k (by have:=HW.out.2.len;have:=HN.out;omega)];omega
   have hcl:x.1.cac.length≤1000:=Nat.le_trans (HW.out.2.clen k x hx) (by omega);obtain⟨⟨du,ca,pe,fa⟩,vd,vc⟩:=x;have HX:=zh hx;have HO:=(zd H1.out.1 ho);have HK:=(zd hk (And.intro hlt (And.intro hM hMe)));obtain⟨R1,R2,hrd,hrc⟩:=zdT ho hx;dsimp only at hrd hrc;obtain⟨aod,capd,rfl,-⟩:=zbI hrd;obtain⟨aoc,capc,rfl,-⟩:=zbI hrc;clear H1 hrd hrc R1 R2;dsimp only at e0 e1 e2 e3 hdl hcl;have HLL:=(zd hdl hcl);obtain⟨nd,hnd⟩:∃ nd,du.length=nd:=⟨_,rfl⟩;obtain⟨nc,hnc⟩:∃ nc,ca.length=nc:=⟨_,rfl⟩;rw[hnd] at e0;rw[hnc] at e1
   have HND:=(zd hnd hnc);clear hnd hnc;clear ho hx hk hlt hM hMe hdl hcl;go_upto_region 8 with (fail)
   have hA:=HO.out.2.alloc (.cells #[.slice aod nd capd,.slice aoc nc capc,.bool pe,fa] TRs);have hsmA:=HO.out.1.alloc (.cells #[.slice aod nd capd,.slice aoc nc capc,.bool pe,fa] TRs);clear c0 e0 e1 e2 e3 hltd hkn hk0;generalize wr.alloc (.cells #[.slice aod nd capd,.slice aoc nc capc,.bool pe,fa] TRs)=W2 at hA hsmA ⊢;generalize wr.heap.size=B at hA ⊢;obtain⟨R,hR⟩:=zej TU8 L k (List.getElem?_eq_some_iff.1 HX.out).1;have hRx:=hR (⟨du,ca,pe,fa⟩,.slice aod du.length capd,.slice aoc ca.length capc);rw[zbn HX.out,HND.out.1,HND.out.2] at hRx
   obtain⟨O,hO⟩:∃ O,Hid (pts p (.cells #[.slice (some ⟨g,0,none⟩) n cap] TRk (0,0))*(zaf TRs 4 (.slice (some ⟨g,0,none⟩) n cap) L.length (L.flatMap zd2)*(R*(zbM TU8 M*F)))=O):=⟨_,zh rfl⟩;have HRX:=zh (show zbM TU8 L=zbW TU8 (.slice aod nd capd) du*zbW TU8 (.slice aoc nc capc) ca*R from hRx)
   have H2:=(zd hsmA.drew ((hA.perm (show _=zbW TU8 (.slice aod nd capd) du*(zbW TU8 (.slice aoc nc capc) ca*(pts B (.cells #[.slice aod nd capd,.slice aoc nc capc,.bool pe,fa] TRs (0,0))*(pts q (.cells #[v] TRk (0,0))*(zaf TRs 4 v k (M.flatMap zd2)*O)))) from by
    unfold zcV;rw[HRX.out,← hO.out]
    ac_rfl)).drew))
   clear hA hsmA hR hRx
   have hS0:W2.drew.cell? ⟨q,0,none⟩=some (v)∧W2.drew.cell? ⟨B,0,none⟩=some (.slice aod nd capd)∧W2.drew.cell? ⟨B,1,none⟩=some (.slice aoc nc capc)∧W2.drew.cell? ⟨B,2,none⟩=some (.bool pe)∧W2.drew.cell? ⟨B,3,none⟩=some (.int .i64 fa):=by
    have h:=H2.out.2.right.right;exact⟨zab h.right.block 0,zab h.block 0,zab h.block 1,zab h.block 2,zab h.block 3⟩
   refine zah (fun w'=>w'.cell? ⟨q,0,none⟩=some (v)∧w'.cell? ⟨B,0,none⟩=some (.slice aod nd capd)∧w'.cell? ⟨B,1,none⟩=some (.slice aoc nc capc)∧w'.cell? ⟨B,2,none⟩=some (.bool pe)∧w'.cell? ⟨B,3,none⟩=some (.int .i64 fa)) (by kernel_rfl) ?_;generalize W2.drew=W3 at H2 hS0 ⊢;(apply zaa 0 rfl rfl (by kernel_rfl) rfl);(rintro w' ⟨h1,h2,h3,h4,h5⟩;go_simp;rfl);exact hS0;simp only[zq];(apply zaa 1 rfl rfl (by kernel_rfl) rfl);(rintro w' ⟨h1,h2,h3,h4,h5⟩;go_simp;rfl);exact hS0;simp only[zq];(apply zaa 2 rfl rfl (by kernel_rfl) rfl);(rintro w' ⟨h1,h2,h3,h4,h5⟩;go_simp;rfl);exact hS0;simp only[zq]
   (apply zaa 3 rfl rfl (by kernel_rfl) rfl);(rintro w' ⟨h1,h2,h3,h4,h5⟩;go_simp;rfl);exact hS0;simp only[zq];(apply zaa 4 rfl rfl (by kernel_rfl) rfl);(rintro w' ⟨h1,h2,h3,h4,h5⟩;go_simp;rfl);exact hS0;simp only[zq];(apply zaa 5 rfl rfl (by kernel_rfl) rfl);(rintro w' ⟨h1,h2,h3,h4,h5⟩;go_simp;rfl);exact hS0;simp only[zq];(apply zaa 6 rfl rfl (by kernel_rfl) rfl);(rintro w' ⟨h1,h2,h3,h4,h5⟩;go_simp;rfl);exact hS0;simp only[zq];(apply zaa 7 rfl rfl (by kernel_rfl) rfl);(rintro w' ⟨h1,h2,h3,h4,h5⟩;go_simp;rfl);exact hS0;simp only[zq]
   (apply zaa 9 rfl rfl (by kernel_rfl) rfl);(rintro w' ⟨h1,h2,h3,h4,h5⟩;go_simp;rfl);exact hS0;simp only[zq];(apply zaa 10 rfl rfl (by kernel_rfl) rfl);(rintro w' ⟨h1,h2,h3,h4,h5⟩;go_simp;rfl);exact hS0;simp only[zq];(apply zaa 11 rfl rfl (by kernel_rfl) rfl);(rintro w' ⟨h1,h2,h3,h4,h5⟩;go_simp;rfl);exact hS0;simp only[zq];(apply zaa 13 rfl rfl (by kernel_rfl) rfl);(rintro w' ⟨h1,h2,h3,h4,h5⟩;go_simp;rfl);exact hS0;simp only[zq];(apply zaa 14 rfl rfl (by kernel_rfl) rfl);(rintro w' ⟨h1,h2,h3,h4,h5⟩;go_simp;rfl);exact hS0;simp only[zq]
   (apply zaa 15 rfl rfl (by kernel_rfl) rfl);(rintro w' ⟨h1,h2,h3,h4,h5⟩;go_simp;rfl);exact hS0;simp only[zq];(apply zaa 16 rfl rfl (by kernel_rfl) rfl);(rintro w' ⟨h1,h2,h3,h4,h5⟩;go_simp;rfl);exact hS0;simp only[zq];obtain⟨a1,c1,w5,hr5,hm5,hs5⟩:=zmy H2.out.2 HLL.out.1;obtain⟨a2,c2,w6,hr6,hm6,hs6⟩:=zmy (hs5.perm (show _=zbW TU8 (.slice aoc nc capc) ca*(zbW TU8 (.slice a1 du.length c1) du*(zbW TU8 (.slice aod nd capd) du*(pts B (.cells #[.slice aod nd capd,.slice aoc nc capc,.bool pe,fa] TRs (0,0))*(pts q (.cells #[v] TRk (0,0))*(zaf TRs 4 v k (M.flatMap zd2)*O))))) from by ac_rfl)) HLL.out.2
   have hS5:w5.cell? ⟨q,0,none⟩=some (v)∧w5.cell? ⟨B,0,none⟩=some (.slice aod nd capd)∧w5.cell? ⟨B,1,none⟩=some (.slice aoc nc capc)∧w5.cell? ⟨B,2,none⟩=some (.bool pe)∧w5.cell? ⟨B,3,none⟩=some (.int .i64 fa):=by
    have h:=hs5.right.right.right;exact⟨zab h.right.block 0,zab h.block 0,zab h.block 1,zab h.block 2,zab h.block 3⟩
   have hS4:w6.cell? ⟨q,0,none⟩=some (v)∧w6.cell? ⟨B,0,none⟩=some (.slice aod nd capd)∧w6.cell? ⟨B,1,none⟩=some (.slice aoc nc capc)∧w6.cell? ⟨B,2,none⟩=some (.bool pe)∧w6.cell? ⟨B,3,none⟩=some (.int .i64 fa):=by
    have h:=hs6.right.right.right.right;exact⟨zab h.right.block 0,zab h.block 0,zab h.block 1,zab h.block 2,zab h.block 3⟩
   rw[HND.out.1] at hr5 hs6;rw[HND.out.2] at hr6 hs6;refine zaV 8 (.slice a1 nd c1) (w5) rfl rfl (by kernel_rfl) rfl (zbc rfl rfl rfl hr5) (hS5) ?_;simp only[zq];refine zaV 12 (.slice a2 nc c2) (w6) rfl rfl (by kernel_rfl) rfl (zbc rfl rfl rfl hr6) (hS4) ?_;simp only[zq];have H4:=zh (show Same w w6∧Sat w6 (zbW TU8 (.slice a1 nd c1) du*(zbW TU8 (.slice a2 nc c2) ca*(pts B (.cells #[.slice aod nd capd,.slice aoc nc capc,.bool pe,fa] TRs (0,0))*(pts q (.cells #[v] TRk (0,0))*(zaf TRs 4 v k (M.flatMap zd2)*(zbW TU8 (.slice aod nd capd) du*(zbW TU8 (.slice aoc nc capc) ca*O))))))) from⟨H2.out.1.trans (hm5.trans hm6),hs6.perm (by ac_rfl)⟩)
   clear hr5 hr6 hm5 hm6 hs5 hs6 hS5;generalize w6=w4 at H4 hS4 ⊢;clear hS0 H2;(apply zaa 17 rfl rfl (by kernel_rfl) rfl);(rintro w' ⟨h1,h2,h3,h4,h5⟩;go_simp;rfl);exact hS4;simp only[zq];have hA5:=(H4.out.2.alloc (.cells #[.slice a1 nd c1,.slice a2 nc c2,.bool pe,fa] TRs)).perm (show _=zaf TRs 4 v k (M.flatMap zd2)*(pts w4.heap.size (.cells #[.slice a1 nd c1,.slice a2 nc c2,.bool pe,fa] TRs (0,0))*(pts q (.cells #[v] TRk (0,0))*(pts B (.cells #[.slice aod nd capd,.slice aoc nc capc,.bool pe,fa] TRs (0,0))*(zbW TU8 (.slice a1 nd c1) du*(zbW TU8 (.slice a2 nc c2) ca*(zbW TU8 (.slice aod nd capd) du*(zbW TU8 (.slice aoc nc capc) ca*O))))))) from by ac_rfl)
   have hS5:((w4.alloc (.cells #[.slice a1 nd c1,.slice a2 nc c2,.bool pe,fa] TRs))).cell? ⟨q,0,none⟩=some (v)∧((w4.alloc (.cells #[.slice a1 nd c1,.slice a2 nc c2,.bool pe,fa] TRs))).cell? ⟨B,0,none⟩=some (.slice aod nd capd)∧((w4.alloc (.cells #[.slice a1 nd c1,.slice a2 nc c2,.bool pe,fa] TRs))).cell? ⟨B,1,none⟩=some (.slice aoc nc capc)∧((w4.alloc (.cells #[.slice a1 nd c1,.slice a2 nc c2,.bool pe,fa] TRs))).cell? ⟨B,2,none⟩=some (.bool pe)∧((w4.alloc (.cells #[.slice a1 nd c1,.slice a2 nc c2,.bool pe,fa] TRs))).cell? ⟨B,3,none⟩=some (.int .i64 fa):=by
    have h:=hA5.right.right;exact⟨zab h.block 0,zab h.right.block 0,zab h.right.block 1,zab h.right.block 2,zab h.right.block 3⟩
   refine zaV 18 (.slice (some ⟨w4.heap.size,0,none⟩) 1 1) (w4.alloc (.cells #[.slice a1 nd c1,.slice a2 nc c2,.bool pe,fa] TRs)) rfl rfl (by kernel_rfl) rfl (by go_simp) (hS5) ?_;simp only[zq];have H5:=(zd (H4.out.1.alloc (.cells #[.slice a1 nd c1,.slice a2 nc c2,.bool pe,fa] TRs)) hA5);clear hA5 hS4 H4;generalize w4.alloc (.cells #[.slice a1 nd c1,.slice a2 nc c2,.bool pe,fa] TRs)=w5 at H5 hS5 ⊢;generalize w4.heap.size=m at H5 ⊢;obtain⟨ti,hti,hz0,hts,hz2⟩:=info_parts znc
   obtain⟨v',w6,hr,hsm6,hs6⟩:=zaH (P:=prog) 131 131 TRs ti _ underlying131 hti hz0 (by rw[hts];rfl) v k (M.flatMap zd2) (by rw[hts];exact H5.out.2) ⟨m,0,none⟩ 1 1 [.slice a1 nd c1,.slice a2 nc c2,.bool pe,.int .i64 fa] (by rw[hts];rfl)
    (by intro j u hu;rw[Addr.add_mid,zab H5.out.2.right.block,Nat.zero_add];simpa using hu) (by simp[Value.oneCell']) (by unfold maxLen;omega) (by rw[hz2];omega)
   rw[hts] at hs6
   have hS6:w6.cell? ⟨q,0,none⟩=some (v)∧w6.cell? ⟨B,0,none⟩=some (.slice aod nd capd)∧w6.cell? ⟨B,1,none⟩=some (.slice aoc nc capc)∧w6.cell? ⟨B,2,none⟩=some (.bool pe)∧w6.cell? ⟨B,3,none⟩=some (.int .i64 fa):=by
    have h:=hs6.right.right;exact⟨zab h.block 0,zab h.right.block 0,zab h.right.block 1,zab h.right.block 2,zab h.right.block 3⟩
   refine zaV 19 (v') (w6) rfl rfl (by kernel_rfl) rfl (zbc rfl rfl rfl hr) (hS6) ?_;simp only[zq];(apply zaa 20 rfl rfl (by kernel_rfl) rfl);(rintro w' ⟨h1,h2,h3,h4,h5⟩;go_simp;rfl);exact hS6;simp only[zq];(apply zaa 21 rfl rfl (by kernel_rfl) rfl);(rintro w' ⟨h1,h2,h3,h4,h5⟩;go_simp;rfl);exact hS6;simp only[zq];obtain⟨ao',cp',rfl⟩:=zal hs6;obtain⟨ip,hip,hip2⟩:=Option.map_eq_some_iff.1 (show (prog.info? 131).map (·.size)=some 1 by kernel_rfl)
   have hs7:=hs6.perm (show _=pts q (.cells #[v] TRk (0,0))*(zaf TRs 4 (.slice ao' (k+1) cp') (k+1) (M.flatMap zd2++[.slice a1 nd c1,.slice a2 nc c2,.bool pe,.int .i64 fa])*(pts m (.cells #[.slice a1 nd c1,.slice a2 nc c2,.bool pe,fa] TRs (0,0))*(pts B (.cells #[.slice aod nd capd,.slice aoc nc capc,.bool pe,fa] TRs (0,0))*(zbW TU8 (.slice a1 nd c1) du*(zbW TU8 (.slice a2 nc c2) ca*(zbW TU8 (.slice aod nd capd) du*(zbW TU8 (.slice aoc nc capc) ca*O))))))) from by ac_rfl);refine zat 22 (w6.setCell ⟨q,0,none⟩ (.slice ao' (k+1) cp')) rfl rfl (by kernel_rfl) rfl (zay rfl rfl rfl hip hip2 rfl hS6.1 (zaj hs7.block 0)) ?_
   have H7:=zh (show Same w (w6.setCell ⟨q,0,none⟩ (.slice ao' (k+1) cp'))∧Sat (w6.setCell ⟨q,0,none⟩ (.slice ao' (k+1) cp')) (zhA p (some ⟨g,0,none⟩) n cap L (pts q (.cells #[.slice ao' (k+1) cp'] TRk (0,0))*(zaf TRs 4 (.slice ao' (k+1) cp') (k+1) ((M++[((⟨du,ca,pe,fa⟩,.slice a1 nd c1,.slice a2 nc c2):SecV)]).flatMap zd2)*(zbM TU8 (M++[((⟨du,ca,pe,fa⟩,.slice a1 nd c1,.slice a2 nc c2):SecV)])*F)))) from by
    refine⟨(H5.out.1.trans hsm6).setCell _ _,?_⟩;have h9:=hs7.setCell (i:=0) (.slice ao' (k+1) cp');simp only[List.setIfInBounds_toArray,List.set_cons_zero] at h9;have h10:=h9.perm (show _=(pts m (.cells #[.slice a1 nd c1,.slice a2 nc c2,.bool pe,fa] TRs (0,0))*pts B (.cells #[.slice aod nd capd,.slice aoc nc capc,.bool pe,fa] TRs (0,0)))*(pts q (.cells #[.slice ao' (k+1) cp'] TRk (0,0))*(zaf TRs 4 (.slice ao' (k+1) cp') (k+1) (M.flatMap zd2++[.slice a1 nd c1,.slice a2 nc c2,.bool pe,.int .i64 fa])*(zbW TU8 (.slice a1 nd c1) du*(zbW TU8 (.slice a2 nc c2) ca*(zbW TU8 (.slice aod nd capd) du*(zbW TU8 (.slice aoc nc capc) ca*O)))))) from by ac_rfl)
    rw[List.flatMap_append,zdD];refine h10.right.perm ?_;unfold zhA;rw[HRX.out,← hO.out];show _=_*(_*(_*(pts q _*(zaf TRs 4 _ (k+1) (M.flatMap zd2++[.slice a1 nd c1,.slice a2 nc c2,.bool pe,.int .i64 fa])*(zbM TU8 M*(zbW TU8 (.slice a1 nd c1) du*zbW TU8 (.slice a2 nc c2) ca*emp)*F)))));rw[zgy]
    ac_rfl)
   clear hS5 hS6 hs6 hs7 hr hsm6 hti hz0 hts hz2 hip hip2 H5;generalize w6.setCell ⟨q,0,none⟩ (.slice ao' (k+1) cp')=W7 at H7 ⊢;go_wp2
   go_roundw
   case rel =>
    refine⟨⟨k+1,_,_,HK.out.2.1,rfl,by rw[List.length_append,HK.out.2.2.1];rfl,?_,H7.out⟩⟩;rw[List.map_append,HK.out.2.2.2,List.take_add_one,HX.out,List.map_append]
    rfl
   case measure=>have:=HK.out.2.1;simp only[intOf];omega
end Go.Proofs.YtmcclbiaoeilkaaGreat
end
