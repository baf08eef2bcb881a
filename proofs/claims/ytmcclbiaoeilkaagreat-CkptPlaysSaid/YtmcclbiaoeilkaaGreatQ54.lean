import Derived.Test.YtmcclbiaoeilkaaGreatChecked
import Derived.Test.YtmcclbiaoeilkaaGreatQ53
set_option maxHeartbeats 8000000
set_option maxRecDepth 100000
/- CkptPlays: the row. Printed by row17.py. -/
section
namespace Go.Proofs.YtmcclbiaoeilkaaGreat
open Go.Proofs.Tryz Go.RowKit Go.Sl Go.ChangeMaps
theorem zmc (p:Nat)(S:zsg)(F:zsi)(ge gc sq:Int)(im:List UInt8)(hsq:sq<9223372036854775808)(w:World)(hS:Sat w (zad RS p S*F)):
  Calls prog 11 #[.pointer (some ⟨p,0,none⟩),.agg #[ge,gc,sq,.string (zae im)]] w (zkz p F (zdc S ⟨⟨ge,gc⟩,sq,im⟩) w):=by
 by_cases hb:zdq ⟨⟨ge,gc⟩,sq,im⟩
 ·have e:zdc S ⟨⟨ge,gc⟩,sq,im⟩=(S,0,1):=by unfold zdc;rw[if_pos hb]
  rw[e];exact zmd p S F ge gc sq im hb w hS
 ·have hn:=fun h=>hb ((zdW ge gc sq im).2 h)
  obtain⟨q,rfl⟩:∃ q:Nat,sq=(q:Int):=⟨sq.toNat,by
   have:¬ sq<0:=fun h=>hn (.inl h)
   omega⟩
  exact znU p S F ge gc q im (by omega) hb w hS
theorem zpP (S:zsg)(a:zsj)(s:List UInt8):(S.write a s).1.images=S.images:=by
 unfold zsg.write;split
 ·rfl
 ·exact zft _ _ _
theorem zlk (d area:Int)(c:CkM)(S:zsg):∀ k,(wrA d area c S k).1.images=S.images
 | 0=>rfl
 | k+1=>by
  show (if _ then _ else _:zsg×Int).1.images=_;split
  ·exact zlk d area c S k
  ·rw[zpP];exact zlk d area c S k
theorem zjI (S:zsg)(d area:Int)(c:CkM):(zbH S d area c).1.images=S.images:=by
 rw[ze8];split
 ·exact zlk d area c S _
 ·rw[zdx];exact zlk d area c S _
theorem zfv (c:CkM):∀ (m:Nat) (S:zsg) (l:List (Nat×Int)) (k:Nat),(za6 c S l k m).1.cfg=S.cfg∧(za6 c S l k m).1.images=S.images
 | 0,S,l,k=>⟨rfl,rfl⟩
 | m+1,S,l,k=>by
  show (if _ then _ else if _ then _ else _:zsg×List (Nat×Int)×Int).1.cfg=_∧(if _ then _ else if _ then _ else _:zsg×List (Nat×Int)×Int).1.images=_;split
  ·exact zfv c m S l (k+1)
  ·split
   ·exact⟨zd1 _ _ _ _,zjI _ _ _ _⟩
   ·obtain⟨h1,h2⟩:=zfv c m (zbH S k (zc7 S k) c).1 (l++[(k,zc7 S k)]) (k+1)
    exact⟨h1.trans (zd1 _ _ _ _),h2.trans (zjI _ _ _ _)⟩
theorem zme (S:zsg)(c:CkM):(zdc S c).1.cfg=S.cfg∧(zdc S c).1.images=S.images:=by
 unfold zdc;split;exact⟨rfl,rfl⟩;split;exact⟨rfl,rfl⟩;split;exact⟨rfl,rfl⟩;have h:=zfv c S.cfg.disks.toNat S [] 0;split;exact h
 split <;> exact h
theorem zkQ (a b c:Int)(s:List UInt8)(w:World):(binOp .neq TCk (.agg #[a,b,c,.string (zae s)]) (.agg #[a,b,c,.string (zae s)])).run prog w = .ok (.bool false) w:=by
 have h0:((zae s).toList==(zae s).toList)=true:=beq_self_eq_true _;have h1:(a==a)=true:=beq_self_eq_true _;have h2:(b==b)=true:=beq_self_eq_true _;have h3:(c==c)=true:=beq_self_eq_true _;go_simp
def plY (pv:Value)(L:List zsj)(B:Nat)(c:zsl)(w:World)(X:zsi):zsi:=zaf TPl 3 pv L.length (zjL L)*(pts B (.cells (za8 c) zcC (0,0))*(X*old w))
theorem zj9 {pv:Value}{L:List zsj}{B:Nat}{c:zsl}{w w':World}{A X:zsi}(h:Sat w' (A*plY pv L B c w X)):Sat w' ((A*(zaf TPl 3 pv L.length (zjL L)*(pts B (.cells (za8 c) zcC (0,0))*X)))*old w):=
 h.perm (by unfold plY;ac_rfl)
structure PlQ (w:World)(p q B:Nat)(c:zsl)(pv:Value)(L:List zsj)(n:Nat)(i:Value)(wr:World):Prop where
 st:∃ (k:Nat) (S:zsg) (X:zsi),k≤n∧i = .int .i64 (k:Int)∧S.cfg=c∧S.images.length≤k∧Same w wr∧Sat wr (zac SH p S*(zad RS q S*plY pv L B c w X))
structure PlR (w:World)(p q B:Nat)(c:zsl)(pv:Value)(L:List zsj)(S:zsg)(X:zsi)(i:Value)(wr:World):Prop where
 st:∃ k:Nat,k≤L.length∧i = .int .i64 (k:Int)∧Same w wr∧Sat wr (zac SH p S*(zad RS q S*plY pv L B c w X))
structure PlD (w:World)(p q B:Nat)(c:zsl)(pv:Value)(L:List zsj)(S:zsg)(n:Int)(i:Value)(wr:World):Prop where
 st:∃ (k:Nat) (X:zsi),(k:Int)≤n+2∧i = .int .i64 ((k:Int) - 1)∧Same w wr∧Sat wr (zac SH p S*(zad RS q S*plY pv L B c w X))
structure PlE (w:World)(p q B:Nat)(c:zsl)(pv:Value)(L:List zsj)(S:zsg)(i:Value)(wr:World):Prop where
 st:∃ (k:Nat) (X:zsi),k≤6∧i = .int .i64 (k:Int)∧Same w wr∧Sat wr (zac SH p S*(zad RS q S*plY pv L B c w X))
theorem zjU (c:zsl)(v:Value)(l:List zgr)(w:World)(hscr:ScrQ w v l):
  Calls prog 3 #[.agg (za8 c),v] w fun e w'=>e = .returned (.bool true)∧Below w.heap.size w w':=by
 obtain⟨ao,cap,rfl,_⟩:=id hscr;have HSC:=zh (show ∀ (w':World) (P:zsi),Sat w' (P*old w)→ScrQ w' (.slice ao l.length cap) l from fun w' P h=>hscr.old h);have H1:=(zd ((Same.refl w).alloc (.cells (za8 c) zcC)) ((Sat.old w).alloc (.cells (za8 c) zcC)));clear hscr;go_enter func3,ntmps3;go_upto_region 2 with (go_at_call 5;refine (zjv _ _ H1.out.2).mono ?_;rintro e w1 ⟨rfl,h2⟩;replace H1:=(zt H1 h2);clear h2)
 generalize w.heap.size=B at H1 ⊢;have FIN:=zh (show ∀ (w':World) (P:zsi),Same w w'→Sat w' (P*old w)→Below w.heap.size w w' from fun w' P h1 h2=>h1.below_of h2);obtain⟨⟨b0,b1,b2⟩,⟨b3,b4,b5⟩,bl,br⟩:=zbo H1.out.2;have HSH:=zh (zko c (.slice ao l.length cap) l _ w1 H1.out.2 (fun w' h=>HSC.out w' _ h))
 cases hsm:zeI c l with
 | false =>
  rw[hsm] at HSH;clear hsm;go_wp2_with (go_at_call 6;refine HSH.out.mono ?_;rintro e w2 ⟨rfl,h2⟩;replace H1:=(zt H1 h2);clear h2);go_ret;exact⟨rfl,FIN.out _ _ H1.out.1 H1.out.2⟩
 | true =>
 rw[hsm] at HSH;unfold zeI at hsm;simp only[Bool.and_eq_true,decide_eq_true_eq] at hsm;obtain⟨⟨hsb,hl⟩,-⟩:=hsm;go_upto_region 4 with (go_at_call 6;refine HSH.out.mono ?_;rintro e w2 ⟨rfl,h2⟩;replace H1:=(zt H1 h2);clear h2 HSH b0 b1 b2 b3 b4 b5 bl br)
 obtain⟨⟨b0,b1,b2⟩,⟨b3,b4,b5⟩,bl,br⟩:=zbo H1.out.2
 cases hok:c.ok with
 | false =>
  have HOK:=zh hok;clear hok hsb hl;go_upto_region 5 with (go_at_call 7;refine (zpG c _ w2 H1.out.2 HOK.out).mono ?_;rintro e w3 ⟨rfl,h3⟩;replace H1:=(zt H1 h3);clear h3 b0 b1 b2 b3 b4 b5 bl br)
  obtain⟨⟨b0,b1,b2⟩,⟨b3,b4,b5⟩,bl,br⟩:=zbo H1.out.2;go_wp2_with (go_at_call 8;refine (zl9 c _ w3 H1.out.2 HOK.out).mono ?_;rintro e w4 ⟨rfl,h4⟩;replace H1:=(zt H1 h4);clear h4 b0 b1 b2 b3 b4 b5 bl br);go_ret;exact⟨rfl,FIN.out _ _ H1.out.1 H1.out.2⟩
 | true =>
 have HSM:=zh (zpE hsb hok);have HOK:=zh hok;have HL:=zh hl;clear hok hl hsb;go_upto_region 5 with (go_at_call 7;refine (zn1 c _ w2 H1.out.2 HOK.out HSM.out.1).mono ?_;rintro e w3 ⟨p,rfl,h3⟩;replace H1:=(zd (H1.out.1.trans h3.out.1) (h3.out.2.perm (show _=pts B (.cells (za8 c) zcC (0,0))*(zac SH p (zsg.new c)*old w) from by ac_rfl)));clear h3 b0 b1 b2 b3 b4 b5 bl br)
 obtain⟨⟨b0,b1,b2⟩,⟨b3,b4,b5⟩,bl,br⟩:=zbo H1.out.2;go_upto_region 6 with (go_at_call 8;refine (znN c _ w3 H1.out.2 HOK.out HSM.out.1).mono ?_;rintro e w4 ⟨q,rfl,h4⟩;replace H1:=(zd (H1.out.1.trans h4.out.1) (h4.out.2.perm (show _=pts B (.cells (za8 c) zcC (0,0))*(zac SH p (zsg.new c)*(zad RS q (zsg.new c)*old w)) from by ac_rfl)));clear h4 b0 b1 b2 b3 b4 b5 bl br)
 obtain⟨⟨b0,b1,b2⟩,⟨b3,b4,b5⟩,bl,br⟩:=zbo H1.out.2;have HCW:=zh (show c.WF from (zaE H1.out.2.right).cfg);have HI:=zh (show (zsg.new c).cfg=c∧(zsg.new c).images.length≤0 from⟨rfl,Nat.le_refl _⟩);obtain⟨S0,hS0⟩:∃ S,Hid (zsg.new c=S):=⟨_,zh rfl⟩;rw[hS0.out] at H1 HI;clear hS0
 have hpc:=zl0 c _ w4 H1.out.2 ⟨by have:=HCW.out.disks;omega,HSM.out.2.1⟩ (fun j hj=>⟨by have h:c.WF:=HCW.out;have:=h.log;have:=h.image;have:=h.rows;unfold szN;split <;> (try split) <;> (try split) <;> omega,HSM.out.2.2 j hj⟩)
 have HPC:=zh hpc;clear hpc;go_upto_region 9 with (go_at_call 9;refine HPC.out.mono ?_;rintro e w5 ⟨pv,rfl,h5⟩;have H2:=(zd (H1.out.1.trans h5.out.1) (And.intro h5.out.2.1 h5.out.2.2));clear h5 b0 b1 b2 b3 b4 b5 bl br H1)
 have HLN:=zh (show (zl1 c c.disks.toNat).length≤600 from by have h1:=H2.out.2.2;have h2:=HSM.out.2.1;omega);generalize zl1 c c.disks.toNat=L at H2 HLN ⊢;obtain⟨lao,lcap,rfl⟩:=zal H2.out.2.1;have H3:=zh (show PlQ w p q B c (.slice lao L.length lcap) L l.length (.int .i64 0) w5 from⟨0,S0,emp,Nat.zero_le _,rfl,HI.out.1,HI.out.2,H2.out.1,H2.out.2.1.perm (by unfold plY;rw[zaL];ac_rfl)⟩);clear H2 HPC HI;go_upto_region 10 with (fail)
 go_loopw [11,12,13,14,15,16,17,18,19] (fun i _ _ _ _ _ _ _ _ wr=>PlQ w p q B c (.slice lao L.length lcap) L l.length i wr) (fun i _ _ _ _ _ _ _ _ _=>l.length - (intOf i).toNat)
 case atStart=>exact H3.out
 case round =>
  clear H3;obtain⟨k,S,X,hk,rfl,hcf,him,hsm,hs⟩:=hrel.st;clear hrel;have H1:=(zd hsm hs);clear hsm hs
  have hk50:(k:Int)≤50:=by have:=HL.out;omega
  by_cases hlt:k<l.length
  case neg =>
   obtain rfl:k=l.length:=by omega
   have hltd:decide ((l.length:Int)<(l.length:Int))=false:=decide_eq_false (by omega);have hltd2:decide (l.length<l.length)=false:=decide_eq_false (by omega);have HCF:=zh hcf;clear hk hlt hcf him;go_upto_region 24 with (fail)
   have H3:=zh (show PlR w p q B c (.slice lao L.length lcap) L S X (.int .i64 0) wr from⟨0,Nat.zero_le _,rfl,H1.out⟩);clear H1 hltd hltd2 hk50
   go_loopw [20,21,22,23,24] (fun i _ _ _ _ wr=>PlR w p q B c (.slice lao L.length lcap) L S X i wr) (fun i _ _ _ _ _=>L.length - (intOf i).toNat)
   case atStart=>exact H3.out
   case round =>
    clear H3;obtain⟨k,hk,rfl,hsm,hs⟩:=hrel.st;clear hrel;have H1:=(zd hsm hs);clear hsm hs
    have hk6:(k:Int)≤600:=by have:=HLN.out;omega
    by_cases hlt:k<L.length
    case pos =>
     have hltd:decide ((k:Int)<(L.length:Int))=true:=decide_eq_true (by omega)
     have hki:(k:Int)<(L.length:Int):=by omega
     have hk0:(0:Int)≤(k:Int):=by omega
     obtain⟨a,ha⟩:∃ a,L[k]?=some a:=⟨_,List.getElem?_eq_getElem hlt⟩
     have HROW:=zh (fun (w':World) (Z:zsi) (h:Sat w' (zaf TPl 3 (.slice lao L.length lcap) L.length (zjL L)*Z))=>znE (T:=TPl) rfl h ha)
     obtain⟨g,rfl,d0,d1,d2⟩:=HROW.out wr _ (H1.out.2.perm (show _=zaf TPl 3 (.slice lao L.length lcap) L.length (zjL L)*(zac SH p S*(zad RS q S*(pts B (.cells (za8 c) zcC (0,0))*(X*old w)))) from by unfold plY;ac_rfl));obtain⟨⟨ps,pb⟩,hpk⟩:∃ pk,S.peek a=pk:=⟨_,rfl⟩;have hp1:=zpi p S _ a wr H1.out.2;unfold zmv at hp1;rw[hpk] at hp1;have HP1:=zh hp1
     have HP2:=zh (show ∀ (W:World) (Z:zsi),Sat W (zad RS q S*Z)→Calls prog 17 #[.pointer (some ⟨q,0,none⟩),.agg (plA a)] W fun e w'=>e = .returned (.tuple #[.string (zae ps),.bool pb])∧Hid (Below W.heap.size W w') from fun W Z h=>by
      have h2:=znO q S Z a W h;rw[hpk] at h2
      exact h2)
     have hq1:((zae ps).data==(zae ps).data)=true:=by simp
     have hq2:(pb != pb)=false:=by simp
     clear hp1 hpk ha hlt hk;go_upto_region 27 with (go_at_call 16;refine HP1.out.mono ?_;rintro e w5 ⟨rfl,h5⟩;replace H1:=(zd (H1.out.1.trans h5.1) h5.2);clear h5 d0 d1 d2)
     obtain⟨g',hgg,d0,d1,d2⟩:=HROW.out w5 _ (H1.out.2.perm (show _=zaf TPl 3 (.slice (some ⟨g,0,none⟩) L.length lcap) L.length (zjL L)*(zac SH p S*(zad RS q S*(pts B (.cells (za8 c) zcC (0,0))*(X*old w)))) from by unfold plY;ac_rfl))
     obtain rfl:g'=g:=by simpa using hgg.symm
     go_upto_region 28 with (go_at_call 17;refine (HP2.out w5 _ (H1.out.2.perm (show _=zad RS q S*(zac SH p S*plY (.slice (some ⟨g',0,none⟩) L.length lcap) L B c w X) from by ac_rfl))).mono ?_;rintro e w6 ⟨rfl,h6⟩;replace H1:=(zd (H1.out.1.below h6.out) (H1.out.2.below h6.out));clear h6 d0 d1 d2);go_wp2;exact⟨⟨k+1,by omega,rfl,H1.out.1,H1.out.2⟩,by simp only[intOf];omega⟩
    case neg =>
     obtain rfl:k=L.length:=by omega
     have hltd:decide ((L.length:Int)<(L.length:Int))=false:=decide_eq_false (by omega);have hltd2:decide (L.length<L.length)=false:=decide_eq_false (by omega);obtain⟨n,hn⟩:∃ n,c.disks=n:=⟨_,rfl⟩;have HN:=zh (show n≤6∧1≤n from⟨by rw[← hn];exact HSM.out.2.1,by have:=HCW.out.disks;omega⟩);have HN2:=zh hn;have H3:=zh (show PlD w p q B c (.slice lao L.length lcap) L S n (.int .i64 (-1)) wr from⟨0,X,by have:=HN.out;omega,rfl,H1.out⟩);clear H1 hk6 hlt hk hn;go_upto_region 31 with (fail)
     clear hltd hltd2
     go_loopw [25,26,27,28,29,30] (fun i _ _ _ _ _ wr=>PlD w p q B c (.slice lao L.length lcap) L S n i wr) (fun i _ _ _ _ _ _=>(n+1 - intOf i).toNat)
     case atStart=>exact H3.out
     case round =>
      clear H3;obtain⟨k,X,hk,rfl,hsm,hs⟩:=hrel.st;clear hrel;have H1:=(zd hsm hs);clear hsm hs;obtain⟨⟨b0,b1,b2⟩,⟨b3,b4,b5⟩,bl,br⟩:=zbo (H1.out.2.perm (show _=pts B (.cells (za8 c) zcC (0,0))*(zaf TPl 3 (.slice lao L.length lcap) L.length (zjL L)*(zac SH p S*(zad RS q S*(X*old w)))) from by unfold plY;ac_rfl));rw[HN2.out] at b0
      by_cases hlt:(k:Int) - 1≤n
      case neg =>
       have hltd:decide ((k:Int) - 1≤n)=false:=decide_eq_false hlt;clear hlt hk;go_upto_region 44 with (fail)
       replace H1:=(zd H1.out.1.drew H1.out.2.drew);refine zah (fun w'=>w'.rangeAt B 0 (zfa c)) (by kernel_rfl) ?_;generalize wr.drew=W1 at H1 ⊢;clear b0 b1 b2 b3 b4 b5 bl br hltd
       have HCC:=zh (show ∀ (W:World),Sat W (zac SH p S*(zad RS q S*plY (.slice lao L.length lcap) L B c w X))→W.rangeAt B 0 (zfa c) from fun W h=>(zbo (h.perm (show _=pts B (.cells (za8 c) zcC (0,0))*(zaf TPl 3 (.slice lao L.length lcap) L.length (zjL L)*(zac SH p S*(zad RS q S*(X*old w)))) from by unfold plY;ac_rfl))).2.2.2)
       have hS1:=HCC.out W1 H1.out.2
       have HCA:=zh (show ∀ (W:World),Calls prog 22 #[.agg (za8 c)] W fun e w'=>e = .returned (.int .i64 (zda c))∧Below W.heap.size W w' from fun W=>zdM c HCW.out.image.1 HCW.out.image.2 W)
       have HCB:=zh (show ∀ (W:World),Calls prog 23 #[.agg (za8 c)] W fun e w'=>e = .returned (.int .i64 (zda c))∧Below W.heap.size W w' from fun W=>zfA c HCW.out.image.1 HCW.out.image.2 W)
       generalize zda c=mx at HCA HCB
       have hme:(mx==mx)=true:=by simp
       refine zaa 0 (v:=.agg (za8 c)) rfl rfl (by kernel_rfl) rfl (fun w' h=>zbC rfl rfl (zeT h)) hS1 ?_;simp only[zq];refine zaa 2 (v:=.agg (za8 c)) rfl rfl (by kernel_rfl) rfl (fun w' h=>zbC rfl rfl (zeT h)) hS1 ?_;simp only[zq];refine zan 1 rfl rfl (by kernel_rfl) rfl (f:=22) (args:=#[.agg (za8 c)]) (R:=fun v w'=>v = .int .i64 mx∧Hid (Below W1.heap.size W1 w')) (by kernel_rfl) ((HCA.out W1).mono fun e w' h=>⟨_,h.1,rfl,h.2⟩) ?_;rintro _ W2 ⟨rfl,hb⟩;replace H1:=(zd (H1.out.1.below hb.out) (H1.out.2.below hb.out))
       have hS2:=HCC.out W2 H1.out.2;refine⟨hS2,?_⟩;simp only[zq];refine zan 3 rfl rfl (by kernel_rfl) rfl (f:=23) (args:=#[.agg (za8 c)]) (R:=fun v w'=>v = .int .i64 mx∧Hid (Below W2.heap.size W2 w')) (by kernel_rfl) ((HCB.out W2).mono fun e w' h=>⟨_,h.1,rfl,h.2⟩) ?_;rintro _ W3 ⟨rfl,hb3⟩;replace H1:=(zd (H1.out.1.below hb3.out) (H1.out.2.below hb3.out));have hS3:=HCC.out W3 H1.out.2;refine⟨hS3,?_⟩;simp only[zq];(apply zaa 4 rfl rfl (by kernel_rfl) rfl);(intro w' _;go_simp;rfl);exact hS3;simp only[zq];(apply zaa 5 rfl rfl (by kernel_rfl) rfl);(intro w' _;go_simp;rfl);exact hS3;simp only[zq]
       refine zar (by decide +kernel) ?_;clear hS1 hS2 hS3 hb hb3;go_wp2;go_ret;exact⟨rfl,FIN.out _ _ H1.out.1 (zj9 (H1.out.2.perm (show _=(zac SH p S*zad RS q S)*plY (.slice lao L.length lcap) L B c w X from by ac_rfl)))⟩
      case pos =>
       have hltd:decide ((k:Int) - 1≤n)=true:=decide_eq_true hlt;have HK:=zh hlt;have hn6:n≤6:=HN.out.1
       have hk8:(k:Int)≤8:=by omega
       have hw1:wrap64 (k:Int)=(k:Int):=by unfold wrap64;omega
       obtain⟨d,hd⟩:∃ d:Int,(k:Int) - 1=d:=⟨_,rfl⟩;rw[hd] at hltd ⊢;have HD:=zh hd;clear hlt hk hd;obtain⟨⟨na,⟨⟨le,lc⟩,lq,li⟩,er⟩,hnw⟩:∃ r,zbs S d=r:=⟨_,rfl⟩;have hp1:=zf5 p S _ d wr H1.out.2;unfold zov at hp1;rw[hnw] at hp1;have HP1:=zh hp1
       have HP2:=zh (show ∀ (W:World) (Z:zsi),Sat W (zad RS q S*Z)→Calls prog 19 #[.pointer (some ⟨q,0,none⟩),d] W fun e w'=>e = .returned (.agg #[na,le,lc,lq,.string (zae li),er])∧Hid (Same W w'∧Sat w' (zad RS q S*Z)) from fun W Z h=>by
        have h2:=zeB q S Z d W h;unfold zot at h2;rw[hnw] at h2
        exact h2)
       clear hp1 hnw;go_upto_region 34 with (go_at_call 18;refine HP1.out.mono ?_;rintro e w5 ⟨rfl,h5⟩;replace H1:=(zd (H1.out.1.trans h5.1) h5.2);clear h5 HP1 b0 b1 b2 b3 b4 b5 bl br)
       replace H1:=(zd (H1.out.1.alloc (.cells #[le,lc,lq,.string (zae li)] TCk)) ((H1.out.2.alloc (.cells #[le,lc,lq,.string (zae li)] TCk)).perm (show _=zad RS q S*(pts w5.heap.size (.cells #[le,lc,lq,.string (zae li)] TCk (0,0))*(zac SH p S*plY (.slice lao L.length lcap) L B c w X)) from by ac_rfl)));change Code.wp _ _ _ _ (w5.alloc (.cells #[le,lc,lq,.string (zae li)] TCk));generalize w5.alloc (.cells #[le,lc,lq,.string (zae li)] TCk)=w6 at H1 ⊢;generalize w5.heap.size=nB at H1 ⊢;go_upto_region 35 with (go_at_call 19;refine (HP2.out w6 _ H1.out.2).mono ?_;rintro e w7 ⟨rfl,h2⟩;replace H1:=(zt H1 h2);clear h2 HP2)
       replace H1:=(zd (H1.out.1.alloc (.cells #[na,le,lc,lq,.string (zae li),er] TFd)) ((H1.out.2.alloc (.cells #[na,le,lc,lq,.string (zae li),er] TFd)).perm (show _=pts w7.heap.size (.cells #[na,le,lc,lq,.string (zae li),er] TFd (0,0))*(pts nB (.cells #[le,lc,lq,.string (zae li)] TCk (0,0))*(zac SH p S*(zad RS q S*plY (.slice lao L.length lcap) L B c w X))) from by ac_rfl)));change Code.wp _ _ _ _ (w7.alloc (.cells #[na,le,lc,lq,.string (zae li),er] TFd));generalize w7.alloc (.cells #[na,le,lc,lq,.string (zae li),er] TFd)=w8 at H1 ⊢
       generalize w7.heap.size=nB2 at H1 ⊢;obtain⟨⟨r0,r1,r2,r3,r4,r5⟩,-⟩:=zci H1.out.2;obtain⟨⟨s0,s1,s2,s3⟩,-⟩:=zas H1.out.2.right;have hn:=zkQ le lc lq li
       have hne:(er != er)=false:=by simp
       have hne2:(na != na)=false:=by simp
       go_upto_region 38 with (fail);clear hn hne hne2 r0 r1 r2 r3 r4 r5 s0 s1 s2 s3;have H3:=zh (show PlE w p q B c (.slice lao L.length lcap) L S (.int .i64 0) w8 from⟨0,pts nB2 (.cells #[na,le,lc,lq,.string (zae li),er] TFd (0,0))*(pts nB (.cells #[le,lc,lq,.string (zae li)] TCk (0,0))*X),by omega,rfl,H1.out.1,H1.out.2.perm (by unfold plY;ac_rfl)⟩);clear H1
       go_loopw [30,31,32,33,34] (fun i _ _ _ _ wr=>PlE w p q B c (.slice lao L.length lcap) L S i wr) (fun i _ _ _ _ _=>6 - (intOf i).toNat)
       case atStart=>exact H3.out
       case round =>
        clear H3;obtain⟨j,X2,hj,rfl,hsm,hs⟩:=hrel.st;clear hrel;have H1:=(zd hsm hs);clear hsm hs
        have hj6:(j:Int)≤6:=by omega
        by_cases hlt:j<6
        case neg =>
         obtain rfl:j=6:=by omega
         have hw2:IntKind.i64.wrap (d+1)=d+1:=IntWalk.i64_in _ (by have:=HD.out;omega);clear hlt hj hj6;go_wp2
         go_roundw
         case rel=>exact⟨⟨k+1,X2,by have:=HK.out;omega,congrArg (Value.int .i64) (by have:=HD.out;omega),H1.out.1,H1.out.2⟩⟩
         case measure=>have h1:=HK.out;have h2:=HD.out;rw[h2] at h1;simp only[intOf];omega
        case pos =>
         have hltd:decide ((j:Int)<6)=true:=decide_eq_true (by omega);have HJ:=zh hlt;clear hlt hj;obtain⟨⟨⟨⟨xe,xc⟩,xq,xi⟩,xr⟩,hrd⟩:∃ r,zaS S d (j:Int)=r:=⟨_,rfl⟩;have hp1:=zeM p S _ d (j:Int) wr H1.out.2;unfold zgC at hp1;rw[hrd] at hp1;have HP1:=zh hp1
         have HP2:=zh (show ∀ (W:World) (Z:zsi),Sat W (zad RS q S*Z)→Calls prog 21 #[.pointer (some ⟨q,0,none⟩),d,(j:Int)] W fun e w'=>e = .returned (.tuple #[.agg #[xe,xc,xq,.string (zae xi)],xr])∧Hid (Same W w'∧Sat w' (zad RS q S*Z)) from fun W Z h=>by
          have h2:=ze1 q S Z d (j:Int) W h;unfold zem at h2;rw[hrd] at h2
          exact h2)
         clear hp1 hrd;go_upto_region 41 with (go_at_call 20;refine HP1.out.mono ?_;rintro e w11 ⟨rfl,h5⟩;replace H1:=(zd (H1.out.1.trans h5.1) h5.2);clear h5 HP1)
         replace H1:=(zd (H1.out.1.alloc (.cells #[xe,xc,xq,.string (zae xi)] TCk)) ((H1.out.2.alloc (.cells #[xe,xc,xq,.string (zae xi)] TCk)).perm (show _=zad RS q S*(pts w11.heap.size (.cells #[xe,xc,xq,.string (zae xi)] TCk (0,0))*(zac SH p S*plY (.slice lao L.length lcap) L B c w X2)) from by ac_rfl)));change Code.wp _ _ _ _ (w11.alloc (.cells #[xe,xc,xq,.string (zae xi)] TCk));generalize w11.alloc (.cells #[xe,xc,xq,.string (zae xi)] TCk)=w12 at H1 ⊢;generalize w11.heap.size=mB at H1 ⊢;go_upto_region 42 with (go_at_call 21;refine (HP2.out w12 _ H1.out.2).mono ?_;rintro e w13 ⟨rfl,h2⟩;replace H1:=(zt H1 h2);clear h2 HP2)
         replace H1:=(zd (H1.out.1.alloc (.cells #[xe,xc,xq,.string (zae xi)] TCk)) ((H1.out.2.alloc (.cells #[xe,xc,xq,.string (zae xi)] TCk)).perm (show _=pts w13.heap.size (.cells #[xe,xc,xq,.string (zae xi)] TCk (0,0))*(pts mB (.cells #[xe,xc,xq,.string (zae xi)] TCk (0,0))*(zac SH p S*(zad RS q S*plY (.slice lao L.length lcap) L B c w X2))) from by ac_rfl)));change Code.wp _ _ _ _ (w13.alloc (.cells #[xe,xc,xq,.string (zae xi)] TCk));generalize w13.alloc (.cells #[xe,xc,xq,.string (zae xi)] TCk)=w14 at H1 ⊢
         generalize w13.heap.size=mB2 at H1 ⊢;obtain⟨⟨r0,r1,r2,r3⟩,-⟩:=zas H1.out.2;obtain⟨⟨s0,s1,s2,s3⟩,-⟩:=zas H1.out.2.right;have hn:=zkQ xe xc xq xi
         have hne:(xr != xr)=false:=by simp
         go_wp2
         go_roundw
         case rel=>exact⟨⟨j+1,X2,HJ.out,congrArg (Value.int .i64) (by omega),H1.out.1,H1.out.2.right.right⟩⟩
         case measure=>have:=HJ.out;simp only[intOf];omega
  case pos =>
   have hltd:decide ((k:Int)<(l.length:Int))=true:=decide_eq_true (by omega)
   have hkn:(k:Int)<(l.length:Int):=by omega
   have hk0:(0:Int)≤(k:Int):=by omega
   obtain⟨s,hs⟩:∃ s,l[k]?=some s:=⟨_,List.getElem?_eq_getElem hlt⟩;obtain⟨ao',cap',hv,hcell⟩:=HSC.out wr _ (zj9 (H1.out.2.perm (show _=(zac SH p S*zad RS q S)*plY (.slice lao L.length lcap) L B c w X from by ac_rfl)));simp only[Value.slice.injEq,true_and] at hv;obtain⟨rfl,rfl⟩:=hv;obtain⟨b,off,rfl,hc⟩:=hcell (by rintro rfl;simp at hlt);have hwo:=(hc k s hs).1
   have SCR:=zh (show ∀ (w':World) (A X:zsi),Sat w' (A*plY (.slice lao L.length lcap) L B c w X)→w'.rangeAt b (off+k*16) (stC s)∧IntsC w' s.pv s.op.picks from fun w' A X h=>by
    obtain⟨ao2,cap2,hv2,hcell2⟩:=HSC.out w' _ (zj9 h);simp only[Value.slice.injEq,true_and] at hv2;obtain⟨rfl,rfl⟩:=hv2;obtain⟨b2,off2,hb2,hc2⟩:=hcell2 (by rintro rfl;simp at hlt);simp only[Option.some.injEq,Addr.mk.injEq,and_true] at hb2;obtain⟨rfl,rfl⟩:=hb2
    exact (hc2 k s hs).2)
   have HO:=(zd hs (And.intro hwo hlt));have HIM:=zh him;have HCF:=zh hcf;clear hcell hc hwo hs hlt hk him hcf;obtain⟨hra,q11,q12,q13,q14,q15⟩:=ze5 (SCR.out wr _ X (H1.out.2.perm (show _=(zac SH p S*zad RS q S)*plY (.slice lao L.length lcap) L B c w X from by ac_rfl))).1
   cases hsv:s.save with
   | true =>
    obtain⟨⟨S2,n2,e2⟩,hsa⟩:∃ r,zdc S s.c=r:=⟨_,rfl⟩
    have HS2:=zh (show S2.cfg=c∧S2.images.length≤k+1 from by
     obtain⟨h1,h2⟩:=zme S s.c;rw[hsa] at h1 h2
     exact⟨h1.trans HCF.out,by rw[h2];have:=HIM.out;omega⟩)
    obtain⟨⟨⟨ge,gc⟩,sq,im⟩,hsc⟩:∃ x,s.c=x:=⟨_,rfl⟩;have HSQ:=zh (show sq<9223372036854775808 from by have:=HO.out.2.1.seq;rw[hsc] at this;exact this);rw[hsc] at q12 q13 q14 q15 hsa;rw[hsv] at q11;have hA1:=zk8 p S _ ge gc sq im HSQ.out wr H1.out.2;unfold zff at hA1;rw[hsa] at hA1;have HA1:=zh hA1
    have HA2:=zh (show ∀ (W:World) (X:zsi),Sat W (zad RS q S*X)→Calls prog 11 #[.pointer (some ⟨q,0,none⟩),.agg #[ge,gc,sq,.string (zae im)]] W fun e w'=>e = .returned (.tuple #[n2,e2])∧Hid (Same W w'∧Sat w' (zad RS q S2*X)) from fun W X h=>by
     have h2:=zmc q S X ge gc sq im HSQ.out W h;unfold zkz at h2;rw[hsa] at h2
     exact h2)
    have HSCC:=zh hsc;have HSVV:=zh hsv;clear hA1 hsa hsc hsv hra
    have hn1:(n2 != n2)=false:=by simp
    have hn2:(e2 != e2)=false:=by simp
    go_upto_region 14 with (go_at_call 10;refine HA1.out.mono ?_;rintro e w7 ⟨rfl,h2⟩;replace H1:=(zd (H1.out.1.trans h2.out.1) (h2.out.2.perm (show _=zad RS q S*(zac SH p S2*plY (.slice lao L.length lcap) L B c w X) from by ac_rfl)));clear h2 HA1 q11 q12 q13 q14 q15);obtain⟨-,q11,q12,q13,q14,q15⟩:=ze5 (SCR.out w7 _ X (H1.out.2.perm (show _=(zad RS q S*zac SH p S2)*plY (.slice lao L.length lcap) L B c w X from by ac_rfl))).1;rw[HSCC.out] at q12 q13 q14 q15
    go_upto_region 19 with (go_at_call 11;refine (HA2.out w7 _ H1.out.2).mono ?_;rintro e w8 ⟨rfl,h2⟩;replace H1:=(zd (H1.out.1.trans h2.out.1) (h2.out.2.perm (show _=zac SH p S2*(zad RS q S2*plY (.slice lao L.length lcap) L B c w X) from by ac_rfl)));clear h2 HA2 q11 q12 q13 q14 q15);clear hn1 hn2;obtain⟨⟨⟨⟨le,lc⟩,lq,li⟩,er⟩,hld⟩:∃ r,zf4 S2=r:=⟨_,rfl⟩;have hL1:=zgv p S2 _ w8 H1.out.2;unfold zgC at hL1;rw[hld] at hL1;have HL1:=zh hL1
    have HL2:=zh (show ∀ (W:World) (X:zsi),Sat W (zad RS q S2*X)→Calls prog 15 #[.pointer (some ⟨q,0,none⟩)] W fun e w'=>e = .returned (.tuple #[.agg #[le,lc,lq,.string (zae li)],er])∧Hid (Same W w'∧Sat w' (zad RS q S2*X)) from fun W X h=>by
     have h2:=zhM q S2 X W h;unfold zem at h2;rw[hld] at h2
     exact h2)
    clear hL1 hld;go_upto_region 20 with (go_at_call 14;refine HL1.out.mono ?_;rintro e w11 ⟨rfl,h2⟩;replace H1:=(zd (H1.out.1.trans h2.1) h2.2);clear h2 HL1)
    replace H1:=(zd (H1.out.1.alloc (.cells #[le,lc,lq,.string (zae li)] TCk)) ((H1.out.2.alloc (.cells #[le,lc,lq,.string (zae li)] TCk)).perm (show _=zad RS q S2*(pts w11.heap.size (.cells #[le,lc,lq,.string (zae li)] TCk (0,0))*(zac SH p S2*plY (.slice lao L.length lcap) L B c w X)) from by ac_rfl)));change Code.wp _ _ _ _ (w11.alloc (.cells #[le,lc,lq,.string (zae li)] TCk));generalize w11.alloc (.cells #[le,lc,lq,.string (zae li)] TCk)=w12 at H1 ⊢;generalize w11.heap.size=nB at H1 ⊢;go_upto_region 21 with (go_at_call 15;refine (HL2.out w12 _ H1.out.2).mono ?_;rintro e w13 ⟨rfl,h2⟩;replace H1:=(zt H1 h2);clear h2 HL2)
    replace H1:=(zd (H1.out.1.alloc (.cells #[le,lc,lq,.string (zae li)] TCk)) ((H1.out.2.alloc (.cells #[le,lc,lq,.string (zae li)] TCk)).perm (show _=pts w13.heap.size (.cells #[le,lc,lq,.string (zae li)] TCk (0,0))*(pts nB (.cells #[le,lc,lq,.string (zae li)] TCk (0,0))*(zac SH p S2*(zad RS q S2*plY (.slice lao L.length lcap) L B c w X))) from by ac_rfl)));change Code.wp _ _ _ _ (w13.alloc (.cells #[le,lc,lq,.string (zae li)] TCk));generalize w13.alloc (.cells #[le,lc,lq,.string (zae li)] TCk)=w14 at H1 ⊢
    generalize w13.heap.size=nB2 at H1 ⊢;obtain⟨⟨r0,r1,r2,r3⟩,-⟩:=zas H1.out.2;obtain⟨⟨s0,s1,s2,s3⟩,-⟩:=zas H1.out.2.right;have hn:=zkQ le lc lq li
    have hne:(er != er)=false:=by simp
    go_wp2;exact⟨⟨k+1,S2,X,HO.out.2.2,rfl,HS2.out.1,HS2.out.2,H1.out.1,H1.out.2.right.right⟩,by have:=HO.out.2.2;simp only[intOf];omega⟩
   | false =>
    obtain⟨⟨S2,r2⟩,hZ⟩:∃ Z,doN S s.op=Z:=⟨_,rfl⟩
    have HS2:=zh (show S2.cfg=c∧S2.images.length≤k+1 from by
     have h1:=zqc S s.op;have h2:=zlA S s.op;rw[hZ] at h1 h2
     exact⟨h1.trans HCF.out,by have:=HIM.out;simp only at h2;omega⟩)
    rw[hsv] at q11
    have hD1:=zoM p S _ s.op s.pv wr H1.out.2 (fun w' h=>(SCR.out w' _ X (h.perm (show _=zad RS q S*plY (.slice lao L.length lcap) L B c w X from by ac_rfl))).2) HO.out.2.1.op.picks (by have:=HIM.out;omega) HO.out.2.1.op.n
    unfold zjM at hD1;rw[hZ] at hD1;have HD1:=zh hD1;have HZ:=zh hZ;clear hD1 hZ hsv q12 q13 q14 q15
    go_upto_region 18 with (first
     | ((with_reducible (apply zhr hra));rfl;rfl;rfl)
     | (go_at_call 12;refine HD1.out.mono ?_;rintro e w7 ⟨rfl,h2⟩;replace H1:=(zd (H1.out.1.trans h2.out.1) (h2.out.2.perm (show _=zad RS q S*(zac SH p S2*plY (.slice lao L.length lcap) L B c w X) from by ac_rfl)));clear h2 HD1 q11 hra))
    obtain⟨hra,q11,-,-,-,-⟩:=ze5 (SCR.out w7 _ X (H1.out.2.perm (show _=(zad RS q S*zac SH p S2)*plY (.slice lao L.length lcap) L B c w X from by ac_rfl))).1
    have hD2:=znI q S _ s.op s.pv w7 H1.out.2 (fun w' h=>(SCR.out w' _ X (h.perm (show _=zac SH p S2*plY (.slice lao L.length lcap) L B c w X from by ac_rfl))).2) HO.out.2.1.op.picks (by have:=HIM.out;omega) HO.out.2.1.op.n
    unfold zc9 at hD2;rw[HZ.out] at hD2;have HD2:=zh hD2;clear hD2
    go_upto_region 19 with (first
     | ((with_reducible (apply zhr hra));rfl;rfl;rfl)
     | (go_at_call 13;refine HD2.out.mono ?_;rintro e w8 ⟨rfl,hsm8,X8,h2⟩;replace H1:=(zd (H1.out.1.trans hsm8) (h2.perm (show _=zac SH p S2*(zad RS q S2*plY (.slice lao L.length lcap) L B c w (X8*X)) from by unfold plY;ac_rfl)));clear h2 hsm8 HD2 q11 hra))
    obtain⟨⟨⟨⟨le,lc⟩,lq,li⟩,er⟩,hld⟩:∃ r,zf4 S2=r:=⟨_,rfl⟩;have hL1:=zgv p S2 _ w8 H1.out.2;unfold zgC at hL1;rw[hld] at hL1;have HL1:=zh hL1
    have HL2:=zh (show ∀ (W:World) (X:zsi),Sat W (zad RS q S2*X)→Calls prog 15 #[.pointer (some ⟨q,0,none⟩)] W fun e w'=>e = .returned (.tuple #[.agg #[le,lc,lq,.string (zae li)],er])∧Hid (Same W w'∧Sat w' (zad RS q S2*X)) from fun W X h=>by
     have h2:=zhM q S2 X W h;unfold zem at h2;rw[hld] at h2
     exact h2)
    clear hL1 hld;go_upto_region 20 with (go_at_call 14;refine HL1.out.mono ?_;rintro e w11 ⟨rfl,h2⟩;replace H1:=(zd (H1.out.1.trans h2.1) h2.2);clear h2 HL1)
    replace H1:=(zd (H1.out.1.alloc (.cells #[le,lc,lq,.string (zae li)] TCk)) ((H1.out.2.alloc (.cells #[le,lc,lq,.string (zae li)] TCk)).perm (show _=zad RS q S2*(pts w11.heap.size (.cells #[le,lc,lq,.string (zae li)] TCk (0,0))*(zac SH p S2*plY (.slice lao L.length lcap) L B c w (X8*X))) from by ac_rfl)));change Code.wp _ _ _ _ (w11.alloc (.cells #[le,lc,lq,.string (zae li)] TCk));generalize w11.alloc (.cells #[le,lc,lq,.string (zae li)] TCk)=w12 at H1 ⊢;generalize w11.heap.size=nB at H1 ⊢;go_upto_region 21 with (go_at_call 15;refine (HL2.out w12 _ H1.out.2).mono ?_;rintro e w13 ⟨rfl,h2⟩;replace H1:=(zt H1 h2);clear h2 HL2)
    replace H1:=(zd (H1.out.1.alloc (.cells #[le,lc,lq,.string (zae li)] TCk)) ((H1.out.2.alloc (.cells #[le,lc,lq,.string (zae li)] TCk)).perm (show _=pts w13.heap.size (.cells #[le,lc,lq,.string (zae li)] TCk (0,0))*(pts nB (.cells #[le,lc,lq,.string (zae li)] TCk (0,0))*(zac SH p S2*(zad RS q S2*plY (.slice lao L.length lcap) L B c w (X8*X)))) from by ac_rfl)));change Code.wp _ _ _ _ (w13.alloc (.cells #[le,lc,lq,.string (zae li)] TCk));generalize w13.alloc (.cells #[le,lc,lq,.string (zae li)] TCk)=w14 at H1 ⊢
    generalize w13.heap.size=nB2 at H1 ⊢;obtain⟨⟨r0,r1,r2,r3⟩,-⟩:=zas H1.out.2;obtain⟨⟨s0,s1,s2,s3⟩,-⟩:=zas H1.out.2.right;have hn:=zkQ le lc lq li
    have hne:(er != er)=false:=by simp
    go_wp2;exact⟨⟨k+1,S2,(X8*X),HO.out.2.2,rfl,HS2.out.1,HS2.out.2,H1.out.1,H1.out.2.right.right⟩,by have:=HO.out.2.2;simp only[intOf];omega⟩
end Go.Proofs.YtmcclbiaoeilkaaGreat
end
section
namespace Go.Proofs.YtmcclbiaoeilkaaGreat
open Go.Proofs.Tryz Go.RowKit Go.Sl Go.ChangeMaps Go.ChangeShapes Go.WideShapes Go.ChangeAt
theorem ckptPlays_lifted (os:Os)(started:os.Started)(H:Type)(enc:TypeId×Value→H):
  ReturnsInHanded {} Tryz.checked os 3 .any (Rows.ckptPlaysSpec.pre6 enc prog Tryz.f3 Rows.ckptPlaysRow.domain false) (Rows.ckptPlaysSpec.post enc prog Tryz.f3 false true false false):=by
 refine returnsInHanded_of_change (C:=Tryz.checked) zqk started (by kernel_rfl) func3
  (ChangeSpec.witness6 (enc:=enc) (C:=Tryz.checked) false ⟨#[],#[.agg (za8 ⟨0,0,0,0,0,0⟩),.slice none 0 0],[]⟩ 8 (by kernel_rfl) (by kernel_rfl) (by kernel_rfl) (by kernel_rfl)) ?_
 intro W base args ds gs before hval0 hW _ _;have hval:∀ (j:Nat) t v,Tryz.f3.params[j]?=some t→args[j]?=some v→Value.okWide prog W .any base t v:=hval0;have hW':=hW;obtain⟨p,q,hA0,hV,rfl,_,_⟩:=hW;have hA:DataW.TrodAll enc prog W 0 (fun _=>true) true Tryz.f3.params.toList args.toList ds p:=hA0;rw[params3] at hA hval;obtain⟨w0,vs0,d0,ds0,p0,q0,hargs,rfl,rfl,h0,r0⟩:=trodAll_cons hA;obtain⟨w1,vs1,d1,ds1,p1,q1,rfl,rfl,rfl,h1,r1⟩:=trodAll_cons r0;obtain⟨rfl,rfl,rfl⟩:=trodAll_nil r1
 obtain rfl:args=#[w0,w1]:=by cases args;simp_all
 obtain⟨rfl,rfl⟩:=trodVars_none hV;obtain⟨cs0,rfl,_⟩:=okWide_struct underlying23 (hval 0 _ w0 rfl rfl);obtain⟨a0,e0⟩:=zrk (zoc h0)
 obtain rfl:cs0=za8 a0:=by apply Array.ext';simpa [Value.cells,zfa] using e0
 obtain⟨v1,l1,e1,s1⟩:=zkb (zoc h1);obtain⟨x1,y1,z1,rfl⟩:=okWide_slice underlying24 (hval 1 _ w1 rfl rfl)
 obtain rfl : .slice x1 y1 z1=v1:=by simpa [Value.cells] using e1
 refine (zjU a0 _ l1 W s1).mono fun e W' ⟨he,hg⟩=>?_
 subst he;exact⟨_,rfl,zo4 (by kernel_rfl) rfl (of_decide_eq_true (by kernel_rfl)) rfl hW' hg⟩
theorem ckptPlays_holds:Rows.CkptPlaysSaid:=
 OpenClaim.holds_of_wide 3 Tryz.f3 rfl rfl rfl rfl rfl rfl rfl ⟨rfl,rfl,rfl,rfl,rfl⟩ rfl rfl rfl rfl rfl (by kernel_rfl) func3 (by kernel_rfl)
  (of_decide_eq_true (by kernel_rfl)) (by unfold Func.isWrapper;first|(rw[if_pos (by decide +kernel)];kernel_rfl)|(rw[if_neg (by decide +kernel)];exact⟨rfl,rfl⟩))
  (fun os started H enc _=>ckptPlays_lifted os started H enc)
end Go.Proofs.YtmcclbiaoeilkaaGreat
end
