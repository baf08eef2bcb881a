import Derived.Test.YtmcclbiaoeilkaaGreatQ23
import Derived.Test.YtmcclbiaoeilkaaGreatQ26
set_option maxHeartbeats 4000000
set_option maxRecDepth 20000
/- Part 37 of a proof;the last part says what is proved. -/
section
namespace Go.Proofs.YtmcclbiaoeilkaaGreat
open Go.Proofs.Tryz Go.RowKit Go.Sl Go.ChangeMaps
def zov (p:Nat)(S:zsg)(F:zsi)(r:Int×CkM×Int)(w:World)(e:Ending)(w':World):Prop:=e = .returned (.tuple #[r.1,.agg (ckA r.2.1),r.2.2])∧Same w w'∧Sat w' (zac SH p S*F)
def nwF (p:Nat)(S:zsg)(r a b:Nat)(R A B:Array Value)(X:zsi):zsi:=zac SH p S*(pts r (.cells R TCk (0,0))*(pts a (.cells A TCk (0,0))*(pts b (.cells B TCk (0,0))*X)))
theorem zbE {p:Nat}{S:zsg}{r a b:Nat}{r0 r1 r2 r3 a0 a1 a2 a3 b0 b1 b2 b3:Value}{X:zsi}{w:World}(h:Sat w (nwF p S r a b #[r0,r1,r2,r3] #[a0,a1,a2,a3] #[b0,b1,b2,b3] X)):
  (w.frozen? ⟨r,0,none⟩=false∧w.frozen? ⟨r,1,none⟩=false∧w.frozen? ⟨r,2,none⟩=false∧w.frozen? ⟨r,3,none⟩=false)∧(w.cell? ⟨r,0,none⟩=some r0∧w.cell? ⟨r,1,none⟩=some r1∧w.cell? ⟨r,2,none⟩=some r2∧w.cell? ⟨r,3,none⟩=some r3)∧
  (w.cell? ⟨a,0,none⟩=some a0∧w.cell? ⟨a,1,none⟩=some a1∧w.cell? ⟨a,2,none⟩=some a2∧w.cell? ⟨a,3,none⟩=some a3)∧(w.cell? ⟨b,0,none⟩=some b0∧w.cell? ⟨b,1,none⟩=some b1∧w.cell? ⟨b,2,none⟩=some b2∧w.cell? ⟨b,3,none⟩=some b3):=by
 unfold nwF at h;have h1:=h.right.block;have h2:=h.right.right.block;have h3:=h.right.right.right.block;exact⟨⟨zaj h1 0,zaj h1 1,zaj h1 2,zaj h1 3⟩,⟨zab h1 0,zab h1 1,zab h1 2,zab h1 3⟩,⟨zab h2 0,zab h2 1,zab h2 2,zab h2 3⟩,zab h3 0,zab h3 1,zab h3 2,zab h3 3⟩
theorem zfo {p:Nat}{S:zsg}{r a b:Nat}{r0 r1 r2 r3:Value}{A B:Array Value}{X:zsi}{w:World}(h:Sat w (nwF p S r a b #[r0,r1,r2,r3] A B X))(x y z u:Value):
  Sat ((((w.setCell ⟨r,0,none⟩ x).setCell ⟨r,1,none⟩ y).setCell ⟨r,2,none⟩ z).setCell ⟨r,3,none⟩ u) (pts r (.cells #[x,y,z,u] TCk (0,0))*(zac SH p S*(pts a (.cells A TCk (0,0))*(pts b (.cells B TCk (0,0))*X)))):=by
 unfold nwF at h;exact ((((h.perm (show _=pts r (.cells #[r0,r1,r2,r3] TCk (0,0))*(zac SH p S*(pts a (.cells A TCk (0,0))*(pts b (.cells B TCk (0,0))*X))) from by ac_rfl)).setCell (i:=0) x).setCell (i:=1) y).setCell (i:=2) z).setCell (i:=3) u
theorem zf5 (p:Nat)(S:zsg)(F:zsi)(d:Int)(w:World)(hS:Sat w (zac SH p S*F)):
  Calls prog 18 #[.pointer (some ⟨p,0,none⟩),d] w (zov p S F (zbs S d) w):=by
 obtain⟨N,hN⟩:∃ N,zbs S d=N:=⟨_,rfl⟩;rw[hN];unfold zbs at hN;obtain⟨⟨⟨⟨ae,ac⟩,asq,ai⟩,ea⟩,hra⟩:∃ r,zaS S d 2=r:=⟨_,rfl⟩;obtain⟨⟨⟨⟨be,bc⟩,bsq,bi⟩,eb⟩,hrb⟩:∃ r,zaS S d 3=r:=⟨_,rfl⟩
 have HA:=zh (show ∀ (W:World) (X:zsi),Sat W (zac SH p S*X)→Calls prog 20 #[.pointer (some ⟨p,0,none⟩),d,.int .i64 2] W (zgC p S X (⟨⟨ae,ac⟩,asq,ai⟩,ea) W) from fun W X h=>by rw[← hra];exact zeM p S X d 2 W h)
 have HB:=zh (show ∀ (W:World) (X:zsi),Sat W (zac SH p S*X)→Calls prog 20 #[.pointer (some ⟨p,0,none⟩),d,.int .i64 3] W (zgC p S X (⟨⟨be,bc⟩,bsq,bi⟩,eb) W) from fun W X h=>by rw[← hrb];exact zeM p S X d 3 W h)
 rw[hra,hrb] at hN;simp only at hN;have HN:=zh hN
 have HNW:=zh (show ∀ W,Calls prog 69 #[.agg #[be,bc],.agg #[ae,ac]] W fun e w'=>e = .returned (.bool (zcm ⟨be,bc⟩ ⟨ae,ac⟩))∧Below W.heap.size W w' from fun W=>zja ⟨be,bc⟩ ⟨ae,ac⟩ W)
 have H1:=(zd ((Same.refl w).alloc (.cells #[.int .i64 0,.int .i64 0,.int .i64 0,.string ⟨#[]⟩] TCk)) ((hS.alloc (.cells #[.int .i64 0,.int .i64 0,.int .i64 0,.string ⟨#[]⟩] TCk)).perm (show _=zac SH p S*(pts w.heap.size (.cells #[.int .i64 0,.int .i64 0,.int .i64 0,.string ⟨#[]⟩] TCk (0,0))*F) from by ac_rfl)));clear hN hra hrb hS;go_enter func18,ntmps18;go_upto_region 1 with ((with_reducible (refine zai ?_ TCk ?_ _ (zhu _) ?_));rfl;rfl)
 generalize w.alloc (.cells #[.int .i64 0,.int .i64 0,.int .i64 0,.string ⟨#[]⟩] TCk)=w1 at H1 ⊢;generalize w.heap.size=rB at H1 ⊢;go_upto_region 2 with (go_at_call 20;refine (HA.out w1 _ H1.out.2).mono ?_;rintro e w2 ⟨rfl,h2,h3⟩;replace H1:=(zd (H1.out.1.trans h2) h3);clear h2 h3;unfold ckA)
 replace H1:=(zd (H1.out.1.alloc (.cells #[ae,ac,asq,.string (zae ai)] TCk)) ((H1.out.2.alloc (.cells #[ae,ac,asq,.string (zae ai)] TCk)).perm (show _=zac SH p S*(pts rB (.cells #[.int .i64 0,.int .i64 0,.int .i64 0,.string ⟨#[]⟩] TCk (0,0))*(pts w2.heap.size (.cells #[ae,ac,asq,.string (zae ai)] TCk (0,0))*F)) from by ac_rfl)));generalize w2.alloc (.cells #[ae,ac,asq,.string (zae ai)] TCk)=w3 at H1 ⊢;generalize w2.heap.size=aB at H1 ⊢;go_upto_region 3 with (go_at_call 20;refine (HB.out w3 _ H1.out.2).mono ?_;rintro e w4 ⟨rfl,h2,h3⟩;replace H1:=(zd (H1.out.1.trans h2) h3);clear h2 h3;unfold ckA)
 replace H1:=(zd (H1.out.1.alloc (.cells #[be,bc,bsq,.string (zae bi)] TCk)) ((H1.out.2.alloc (.cells #[be,bc,bsq,.string (zae bi)] TCk)).perm (show _=nwF p S rB aB w4.heap.size #[.int .i64 0,.int .i64 0,.int .i64 0,.string ⟨#[]⟩] #[ae,ac,asq,.string (zae ai)] #[be,bc,bsq,.string (zae bi)] F from by unfold nwF;ac_rfl)));generalize w4.alloc (.cells #[be,bc,bsq,.string (zae bi)] TCk)=w5 at H1 ⊢;generalize w4.heap.size=bB at H1 ⊢;clear HA HB
 have HFIN:=zh (show ∀ (W:World) (r:Int×CkM×Int),Same w W→Sat W (pts rB (.cells (ckA r.2.1) TCk (0,0))*(zac SH p S*(pts aB (.cells #[ae,ac,asq,.string (zae ai)] TCk (0,0))*(pts bB (.cells #[be,bc,bsq,.string (zae bi)] TCk (0,0))*F))))→N=r→zov p S F N w (.returned (.tuple #[r.1,.agg (ckA r.2.1),r.2.2])) W from fun W r h1 h2 h3=>by
  subst h3
  exact⟨rfl,h1,(h2.perm (show _=(pts rB (.cells (ckA N.2.1) TCk (0,0))*(pts aB (.cells #[ae,ac,asq,.string (zae ai)] TCk (0,0))*pts bB (.cells #[be,bc,bsq,.string (zae bi)] TCk (0,0))))*(zac SH p S*F) from by ac_rfl)).right⟩)
 obtain⟨⟨f0,f1,f2,f3⟩,⟨r0,r1,r2,r3⟩,⟨a0,a1,a2,a3⟩,b0,b1,b2,b3⟩:=zbE H1.out.2
 by_cases heb:eb=0
 case neg =>
  have hed:(eb==0)=false:=by simp[heb]
  by_cases hea:ea=0
  case neg =>
   have hed2:(ea==0)=false:=by simp[hea]
   have HR:=zh (show N=(0,ck0,ea) from by rw[← HN.out,if_neg (fun h=>heb h.1),if_neg hea]);clear heb hea HN HNW;go_wp2;have H2:=(zd ((((H1.out.1.setCell ⟨rB,0,none⟩ (.int .i64 0)).setCell ⟨rB,1,none⟩ (.int .i64 0)).setCell ⟨rB,2,none⟩ (.int .i64 0)).setCell ⟨rB,3,none⟩ (.string ⟨#[]⟩)) (zfo H1.out.2 (.int .i64 0) (.int .i64 0) (.int .i64 0) (.string ⟨#[]⟩)));refine bodyPost_ret (v:=.tuple #[.int .i64 0,.agg #[.int .i64 0,.int .i64 0,.int .i64 0,.string ⟨#[]⟩],ea]) (zaz results18 (.tmp rfl) (ResIs.row rfl H2.out.2.block underlying44 rfl (zaX rfl)) (.tmp rfl)) rfl ?_
   exact HFIN.out _ (0,ck0,ea) H2.out.1 (H2.out.2.perm (by ac_rfl)) HR.out
  case pos =>
   subst hea;have HR:=zh (show N=(2,⟨⟨ae,ac⟩,asq,ai⟩,0) from by rw[← HN.out,if_neg (fun h=>heb h.1),if_pos rfl]);clear heb HN HNW;go_upto_region 6 with (fail)
   refine zah (fun w'=>w'.cell? ⟨aB,0,none⟩=some (.int .i64 ae)∧w'.cell? ⟨aB,1,none⟩=some (.int .i64 ac)∧w'.cell? ⟨aB,2,none⟩=some (.int .i64 asq)∧w'.cell? ⟨aB,3,none⟩=some (.string (zae ai))) (by kernel_rfl) ?_
   replace H1:=(zd H1.out.1.drew H1.out.2.drew);generalize w5.drew=wx at H1 ⊢;clear f0 f1 f2 f3 r0 r1 r2 r3 a0 a1 a2 a3 b0 b1 b2 b3;obtain⟨⟨f0,f1,f2,f3⟩,⟨r0,r1,r2,r3⟩,⟨a0,a1,a2,a3⟩,b0,b1,b2,b3⟩:=zbE H1.out.2;have hS0:=And.intro a0 (And.intro a1 (And.intro a2 a3));(apply zaa 0 rfl rfl (by kernel_rfl) rfl);(rintro w' ⟨q0,q1,q2,q3⟩;go_simp;rfl);exact hS0;simp only[zq];(apply zaa 1 rfl rfl (by kernel_rfl) rfl);(intro w' _;go_simp;rfl);exact hS0;simp only[zq]
   have H2:=(zd ((((H1.out.1.setCell ⟨rB,0,none⟩ (.int .i64 ae)).setCell ⟨rB,1,none⟩ (.int .i64 ac)).setCell ⟨rB,2,none⟩ (.int .i64 asq)).setCell ⟨rB,3,none⟩ (.string (zae ai))) (zfo H1.out.2 (.int .i64 ae) (.int .i64 ac) (.int .i64 asq) (.string (zae ai))));have hS1:=(zbE (H2.out.2.perm (show _=nwF p S rB aB bB #[ae,ac,asq,.string (zae ai)] #[ae,ac,asq,.string (zae ai)] #[be,bc,bsq,.string (zae bi)] F from by unfold nwF;ac_rfl))).2.2.1;refine zfP 2 (((((wx.setCell ⟨rB,0,none⟩ (.int .i64 ae)).setCell ⟨rB,1,none⟩ (.int .i64 ac)).setCell ⟨rB,2,none⟩ (.int .i64 asq)).setCell ⟨rB,3,none⟩ (.string (zae ai)))) rfl rfl (by kernel_rfl) rfl (by go_simp) (hS1) ?_
   (apply zaa 3 rfl rfl (by kernel_rfl) rfl);(intro w' _;go_simp;rfl);exact hS1;simp only[zq];refine zar (by kernel_rfl) ?_;go_wp2;refine bodyPost_ret (v:=.tuple #[.int .i64 2,.agg #[ae,ac,asq,.string (zae ai)],.int .i64 0]) (zaz results18 (.tmp rfl) (ResIs.row rfl H2.out.2.block underlying44 rfl (zaX rfl)) (.tmp rfl)) rfl ?_;exact HFIN.out _ (2,⟨⟨ae,ac⟩,asq,ai⟩,0) H2.out.1 (H2.out.2.perm (by ac_rfl)) HR.out
 case pos =>
  subst heb
  by_cases hea:ea=0
  case neg =>
   have hed2:(ea != 0)=true:=bne_iff_ne.2 hea;have HR:=zh (show N=(3,⟨⟨be,bc⟩,bsq,bi⟩,0) from by rw[← HN.out,if_pos ⟨rfl,.inl hea⟩]);clear hea HN HNW;go_upto_region 4 with (fail)
   refine zah (fun w'=>w'.cell? ⟨bB,0,none⟩=some (.int .i64 be)∧w'.cell? ⟨bB,1,none⟩=some (.int .i64 bc)∧w'.cell? ⟨bB,2,none⟩=some (.int .i64 bsq)∧w'.cell? ⟨bB,3,none⟩=some (.string (zae bi))) (by kernel_rfl) ?_
   replace H1:=(zd H1.out.1.drew H1.out.2.drew);generalize w5.drew=wx at H1 ⊢;clear f0 f1 f2 f3 r0 r1 r2 r3 a0 a1 a2 a3 b0 b1 b2 b3;obtain⟨⟨f0,f1,f2,f3⟩,⟨r0,r1,r2,r3⟩,⟨a0,a1,a2,a3⟩,b0,b1,b2,b3⟩:=zbE H1.out.2;have hS0:=And.intro b0 (And.intro b1 (And.intro b2 b3));(apply zaa 0 rfl rfl (by kernel_rfl) rfl);(rintro w' ⟨q0,q1,q2,q3⟩;go_simp;rfl);exact hS0;simp only[zq];(apply zaa 1 rfl rfl (by kernel_rfl) rfl);(intro w' _;go_simp;rfl);exact hS0;simp only[zq]
   have H2:=(zd ((((H1.out.1.setCell ⟨rB,0,none⟩ (.int .i64 be)).setCell ⟨rB,1,none⟩ (.int .i64 bc)).setCell ⟨rB,2,none⟩ (.int .i64 bsq)).setCell ⟨rB,3,none⟩ (.string (zae bi))) (zfo H1.out.2 (.int .i64 be) (.int .i64 bc) (.int .i64 bsq) (.string (zae bi))));have hS1:=(zbE (H2.out.2.perm (show _=nwF p S rB aB bB #[be,bc,bsq,.string (zae bi)] #[ae,ac,asq,.string (zae ai)] #[be,bc,bsq,.string (zae bi)] F from by unfold nwF;ac_rfl))).2.2.2;refine zfP 2 (((((wx.setCell ⟨rB,0,none⟩ (.int .i64 be)).setCell ⟨rB,1,none⟩ (.int .i64 bc)).setCell ⟨rB,2,none⟩ (.int .i64 bsq)).setCell ⟨rB,3,none⟩ (.string (zae bi)))) rfl rfl (by kernel_rfl) rfl (by go_simp) (hS1) ?_
   (apply zaa 3 rfl rfl (by kernel_rfl) rfl);(intro w' _;go_simp;rfl);exact hS1;simp only[zq];refine zar (by kernel_rfl) ?_;go_wp2;refine bodyPost_ret (v:=.tuple #[.int .i64 3,.agg #[be,bc,bsq,.string (zae bi)],.int .i64 0]) (zaz results18 (.tmp rfl) (ResIs.row rfl H2.out.2.block underlying44 rfl (zaX rfl)) (.tmp rfl)) rfl ?_;exact HFIN.out _ (3,⟨⟨be,bc⟩,bsq,bi⟩,0) H2.out.1 (H2.out.2.perm (by ac_rfl)) HR.out
  case pos =>
   subst hea
   cases hnw:zcm ⟨be,bc⟩ ⟨ae,ac⟩ with
   | false =>
    have HR:=zh (show N=(2,⟨⟨ae,ac⟩,asq,ai⟩,0) from by rw[← HN.out,hnw,if_neg (by simp),if_pos rfl]);go_upto_region 5 with (go_at_call 69;refine (HNW.out w5).mono ?_;rintro e w6 ⟨rfl,hb⟩;replace H1:=(zd (H1.out.1.below hb) (H1.out.2.below hb));clear hb f0 f1 f2 f3 r0 r1 r2 r3 a0 a1 a2 a3 b0 b1 b2 b3;obtain⟨⟨f0,f1,f2,f3⟩,⟨r0,r1,r2,r3⟩,⟨a0,a1,a2,a3⟩,b0,b1,b2,b3⟩:=zbE H1.out.2;rw[hnw])
    clear hnw HN HNW;go_upto_region 6 with (fail)
    refine zah (fun w'=>w'.cell? ⟨aB,0,none⟩=some (.int .i64 ae)∧w'.cell? ⟨aB,1,none⟩=some (.int .i64 ac)∧w'.cell? ⟨aB,2,none⟩=some (.int .i64 asq)∧w'.cell? ⟨aB,3,none⟩=some (.string (zae ai))) (by kernel_rfl) ?_
    replace H1:=(zd H1.out.1.drew H1.out.2.drew);generalize w6.drew=wx at H1 ⊢;clear f0 f1 f2 f3 r0 r1 r2 r3 a0 a1 a2 a3 b0 b1 b2 b3;obtain⟨⟨f0,f1,f2,f3⟩,⟨r0,r1,r2,r3⟩,⟨a0,a1,a2,a3⟩,b0,b1,b2,b3⟩:=zbE H1.out.2;have hS0:=And.intro a0 (And.intro a1 (And.intro a2 a3));(apply zaa 0 rfl rfl (by kernel_rfl) rfl);(rintro w' ⟨q0,q1,q2,q3⟩;go_simp;rfl);exact hS0;simp only[zq];(apply zaa 1 rfl rfl (by kernel_rfl) rfl);(intro w' _;go_simp;rfl);exact hS0;simp only[zq]
    have H2:=(zd ((((H1.out.1.setCell ⟨rB,0,none⟩ (.int .i64 ae)).setCell ⟨rB,1,none⟩ (.int .i64 ac)).setCell ⟨rB,2,none⟩ (.int .i64 asq)).setCell ⟨rB,3,none⟩ (.string (zae ai))) (zfo H1.out.2 (.int .i64 ae) (.int .i64 ac) (.int .i64 asq) (.string (zae ai))));have hS1:=(zbE (H2.out.2.perm (show _=nwF p S rB aB bB #[ae,ac,asq,.string (zae ai)] #[ae,ac,asq,.string (zae ai)] #[be,bc,bsq,.string (zae bi)] F from by unfold nwF;ac_rfl))).2.2.1;refine zfP 2 (((((wx.setCell ⟨rB,0,none⟩ (.int .i64 ae)).setCell ⟨rB,1,none⟩ (.int .i64 ac)).setCell ⟨rB,2,none⟩ (.int .i64 asq)).setCell ⟨rB,3,none⟩ (.string (zae ai)))) rfl rfl (by kernel_rfl) rfl (by go_simp) (hS1) ?_
    (apply zaa 3 rfl rfl (by kernel_rfl) rfl);(intro w' _;go_simp;rfl);exact hS1;simp only[zq];refine zar (by kernel_rfl) ?_;go_wp2;refine bodyPost_ret (v:=.tuple #[.int .i64 2,.agg #[ae,ac,asq,.string (zae ai)],.int .i64 0]) (zaz results18 (.tmp rfl) (ResIs.row rfl H2.out.2.block underlying44 rfl (zaX rfl)) (.tmp rfl)) rfl ?_;exact HFIN.out _ (2,⟨⟨ae,ac⟩,asq,ai⟩,0) H2.out.1 (H2.out.2.perm (by ac_rfl)) HR.out
   | true =>
    have HR:=zh (show N=(3,⟨⟨be,bc⟩,bsq,bi⟩,0) from by rw[← HN.out,hnw,if_pos ⟨rfl,.inr rfl⟩]);go_upto_region 4 with (go_at_call 69;refine (HNW.out w5).mono ?_;rintro e w6 ⟨rfl,hb⟩;replace H1:=(zd (H1.out.1.below hb) (H1.out.2.below hb));clear hb f0 f1 f2 f3 r0 r1 r2 r3 a0 a1 a2 a3 b0 b1 b2 b3;obtain⟨⟨f0,f1,f2,f3⟩,⟨r0,r1,r2,r3⟩,⟨a0,a1,a2,a3⟩,b0,b1,b2,b3⟩:=zbE H1.out.2;rw[hnw])
    clear hnw HN HNW
    refine zah (fun w'=>w'.cell? ⟨bB,0,none⟩=some (.int .i64 be)∧w'.cell? ⟨bB,1,none⟩=some (.int .i64 bc)∧w'.cell? ⟨bB,2,none⟩=some (.int .i64 bsq)∧w'.cell? ⟨bB,3,none⟩=some (.string (zae bi))) (by kernel_rfl) ?_
    replace H1:=(zd H1.out.1.drew H1.out.2.drew);generalize w6.drew=wx at H1 ⊢;clear f0 f1 f2 f3 r0 r1 r2 r3 a0 a1 a2 a3 b0 b1 b2 b3;obtain⟨⟨f0,f1,f2,f3⟩,⟨r0,r1,r2,r3⟩,⟨a0,a1,a2,a3⟩,b0,b1,b2,b3⟩:=zbE H1.out.2;have hS0:=And.intro b0 (And.intro b1 (And.intro b2 b3));(apply zaa 0 rfl rfl (by kernel_rfl) rfl);(rintro w' ⟨q0,q1,q2,q3⟩;go_simp;rfl);exact hS0;simp only[zq];(apply zaa 1 rfl rfl (by kernel_rfl) rfl);(intro w' _;go_simp;rfl);exact hS0;simp only[zq]
    have H2:=(zd ((((H1.out.1.setCell ⟨rB,0,none⟩ (.int .i64 be)).setCell ⟨rB,1,none⟩ (.int .i64 bc)).setCell ⟨rB,2,none⟩ (.int .i64 bsq)).setCell ⟨rB,3,none⟩ (.string (zae bi))) (zfo H1.out.2 (.int .i64 be) (.int .i64 bc) (.int .i64 bsq) (.string (zae bi))));have hS1:=(zbE (H2.out.2.perm (show _=nwF p S rB aB bB #[be,bc,bsq,.string (zae bi)] #[ae,ac,asq,.string (zae ai)] #[be,bc,bsq,.string (zae bi)] F from by unfold nwF;ac_rfl))).2.2.2;refine zfP 2 (((((wx.setCell ⟨rB,0,none⟩ (.int .i64 be)).setCell ⟨rB,1,none⟩ (.int .i64 bc)).setCell ⟨rB,2,none⟩ (.int .i64 bsq)).setCell ⟨rB,3,none⟩ (.string (zae bi)))) rfl rfl (by kernel_rfl) rfl (by go_simp) (hS1) ?_
    (apply zaa 3 rfl rfl (by kernel_rfl) rfl);(intro w' _;go_simp;rfl);exact hS1;simp only[zq];refine zar (by kernel_rfl) ?_;go_wp2;refine bodyPost_ret (v:=.tuple #[.int .i64 3,.agg #[be,bc,bsq,.string (zae bi)],.int .i64 0]) (zaz results18 (.tmp rfl) (ResIs.row rfl H2.out.2.block underlying44 rfl (zaX rfl)) (.tmp rfl)) rfl ?_;exact HFIN.out _ (3,⟨⟨be,bc⟩,bsq,bi⟩,0) H2.out.1 (H2.out.2.perm (by ac_rfl)) HR.out
def ldF (p:Nat)(S:zsg)(r a:Nat)(A:Array Value)(X:zsi):zsi:=zac SH p S*(pts r (.cells #[.int .i64 0,.int .i64 0,.int .i64 0,.string ⟨#[]⟩] TCk (0,0))*(pts a (.cells A TCk (0,0))*X))
structure LdS (w:World)(p:Nat)(S:zsg)(r a:Nat)(F:zsi)(m:Nat)(fv iv:Value)(wr:World):Prop where
 st:∃ (k:Nat) (X:zsi),k≤m∧iv = .int .i64 (k:Int)∧fv = .int .i64 (zb7 S k).2∧Hid (Same w wr∧Sat wr (ldF p S r a (ckA (zb7 S k).1) (X*F)))
theorem zlO (S:zsg)(k:Nat){ar be bc bsq eb ne nc nsq en:Int}{bi ni:List UInt8}(hb:zb7 S k=(⟨⟨be,bc⟩,bsq,bi⟩,eb))(hn:zbs S k=(ar,⟨⟨ne,nc⟩,nsq,ni⟩,en)):zb7 S (k+1)=if en=0∧(eb≠0∨zcm ⟨ne,nc⟩ ⟨be,bc⟩=true) then (⟨⟨ne,nc⟩,nsq,ni⟩,0) else (⟨⟨be,bc⟩,bsq,bi⟩,eb):=by
 unfold zb7;rw[hn];simp only;rw[hb]
theorem zo5 {p:Nat}{S:zsg}{r a:Nat}{a0 a1 a2 a3:Value}{X:zsi}{w:World}(h:Sat w (ldF p S r a #[a0,a1,a2,a3] X)):
  (w.frozen? ⟨r,0,none⟩=false∧w.frozen? ⟨r,1,none⟩=false∧w.frozen? ⟨r,2,none⟩=false∧w.frozen? ⟨r,3,none⟩=false)∧(w.cell? ⟨r,0,none⟩=some (.int .i64 0)∧w.cell? ⟨r,1,none⟩=some (.int .i64 0)∧w.cell? ⟨r,2,none⟩=some (.int .i64 0)∧w.cell? ⟨r,3,none⟩=some (.string ⟨#[]⟩))∧
  (w.cell? ⟨a,0,none⟩=some a0∧w.cell? ⟨a,1,none⟩=some a1∧w.cell? ⟨a,2,none⟩=some a2∧w.cell? ⟨a,3,none⟩=some a3):=by
 unfold ldF at h;have h1:=h.right.block;have h2:=h.right.right.block;exact⟨⟨zaj h1 0,zaj h1 1,zaj h1 2,zaj h1 3⟩,⟨zab h1 0,zab h1 1,zab h1 2,zab h1 3⟩,zab h2 0,zab h2 1,zab h2 2,zab h2 3⟩
theorem zpV {p:Nat}{S:zsg}{r:Nat}{X:zsi}{w:World}(h:Sat w (zac SH p S*(pts r (.cells #[.int .i64 0,.int .i64 0,.int .i64 0,.string ⟨#[]⟩] TCk (0,0))*X)))(x y z u:Value):
  Sat ((((w.setCell ⟨r,0,none⟩ x).setCell ⟨r,1,none⟩ y).setCell ⟨r,2,none⟩ z).setCell ⟨r,3,none⟩ u) (pts r (.cells #[x,y,z,u] TCk (0,0))*(zac SH p S*X)):=
 ((((h.perm (show _=pts r (.cells #[.int .i64 0,.int .i64 0,.int .i64 0,.string ⟨#[]⟩] TCk (0,0))*(zac SH p S*X) from by ac_rfl)).setCell (i:=0) x).setCell (i:=1) y).setCell (i:=2) z).setCell (i:=3) u
theorem zgv (p:Nat)(S:zsg)(F:zsi)(w:World)(hS:Sat w (zac SH p S*F)):
  Calls prog 14 #[.pointer (some ⟨p,0,none⟩)] w (zgC p S F (zf4 S) w):=by
 have hwf:=zaE hS;obtain⟨m,hm⟩:∃ m:Nat,S.cfg.disks=(m:Int):=⟨S.cfg.disks.toNat,by have:=hwf.cfg.disks;omega⟩
 have hm64:m≤64:=by have:=hwf.cfg.disks;omega
 obtain⟨R,hR⟩:∃ R,zf4 S=R:=⟨_,rfl⟩;rw[hR];unfold zf4 at hR;rw[show S.cfg.disks.toNat=m by omega] at hR
 have HUP:=zh (show ∀ (W:World) (X:zsi),Sat W (zac SH p S*X)→Calls prog 35 #[.pointer (some ⟨p,0,none⟩)] W fun e w'=>e = .returned (.bool (!S.off))∧W=w' from fun W X h=>zog p S X W h)
 have HCF:=zh (show ∀ (W:World) (X:zsi),Sat W (zac SH p S*X)→Calls prog 26 #[.pointer (some ⟨p,0,none⟩)] W fun e w'=>e = .returned (.agg (za8 S.cfg))∧Below W.heap.size W w' from fun W X h=>zcM p S X W h)
 have HNE:=zh (show ∀ (W:World) (k:Nat) (X:zsi),Sat W (zac SH p S*X)→Calls prog 18 #[.pointer (some ⟨p,0,none⟩),(k:Int)] W (zov p S X (zbs S k) W) from fun W k X h=>zf5 p S X k W h)
 have H1:=(zd ((Same.refl w).alloc (.cells #[.int .i64 0,.int .i64 0,.int .i64 0,.string ⟨#[]⟩] TCk)) ((hS.alloc (.cells #[.int .i64 0,.int .i64 0,.int .i64 0,.string ⟨#[]⟩] TCk)).perm (show _=zac SH p S*(pts w.heap.size (.cells #[.int .i64 0,.int .i64 0,.int .i64 0,.string ⟨#[]⟩] TCk (0,0))*F) from by ac_rfl)));clear hS hwf;go_enter func14,ntmps14;go_upto_region 1 with ((with_reducible (refine zai ?_ TCk ?_ _ (zhu _) ?_));rfl;rfl)
 generalize w.alloc (.cells #[.int .i64 0,.int .i64 0,.int .i64 0,.string ⟨#[]⟩] TCk)=w1 at H1 ⊢;generalize w.heap.size=rB at H1 ⊢
 have HFIN:=zh (show ∀ (W:World) (r:CkM×Int) (X:zsi),Same w W→Sat W (pts rB (.cells (ckA r.1) TCk (0,0))*(zac SH p S*(X*F)))→R=r→zgC p S F R w (.returned (.tuple #[.agg (ckA r.1),r.2])) W from fun W r X h1 h2 h3=>by
  subst h3
  exact⟨rfl,h1,(h2.perm (show _=(pts rB (.cells (ckA R.1) TCk (0,0))*X)*(zac SH p S*F) from by ac_rfl)).right⟩)
 cases hoff:S.off with
 | true =>
  rw[hoff] at hR HUP;have HR:=zh (show R=(ck0,14) from hR.symm);clear hR HCF HNE hm hm64;have h1:=H1.out.2.right.block;have f0:=zaj h1 0;have f1:=zaj h1 1;have f2:=zaj h1 2;have f3:=zaj h1 3;have r0:=zab h1 0;have r1:=zab h1 1;have r2:=zab h1 2;have r3:=zab h1 3;clear h1;go_wp2_with (go_at_call 35;refine (HUP.out w1 _ H1.out.2).mono ?_;rintro e w2 ⟨rfl,rfl⟩);have H2:=(zd ((((H1.out.1.setCell ⟨rB,0,none⟩ (.int .i64 0)).setCell ⟨rB,1,none⟩ (.int .i64 0)).setCell ⟨rB,2,none⟩ (.int .i64 0)).setCell ⟨rB,3,none⟩ (.string ⟨#[]⟩)) (zpV H1.out.2 (.int .i64 0) (.int .i64 0) (.int .i64 0) (.string ⟨#[]⟩)))
  refine bodyPost_ret (v:=.tuple #[.agg #[.int .i64 0,.int .i64 0,.int .i64 0,.string ⟨#[]⟩],.int .i64 14]) (zaA results14 (ResIs.row rfl H2.out.2.block underlying44 rfl (zaX rfl)) (.tmp rfl)) rfl ?_;exact HFIN.out _ (ck0,14) emp H2.out.1 (H2.out.2.perm (by rw[zaL];rfl)) HR.out
 | false =>
  rw[hoff] at hR HUP;have HR:=zh (show zb7 S m=R from hR);clear hR hoff;go_upto_region 4 with (go_at_call 35;refine (HUP.out w1 _ H1.out.2).mono ?_;rintro e w2 ⟨rfl,rfl⟩)
  replace H1:=(zd (H1.out.1.alloc (.cells #[.int .i64 0,.int .i64 0,.int .i64 0,.string ⟨#[]⟩] TCk)) ((H1.out.2.alloc (.cells #[.int .i64 0,.int .i64 0,.int .i64 0,.string ⟨#[]⟩] TCk)).perm (show _=ldF p S rB w1.heap.size #[.int .i64 0,.int .i64 0,.int .i64 0,.string ⟨#[]⟩] (emp*F) from by unfold ldF;rw[zaL];ac_rfl)));generalize w1.alloc (.cells #[.int .i64 0,.int .i64 0,.int .i64 0,.string ⟨#[]⟩] TCk)=w3 at H1 ⊢;generalize w1.heap.size=bB at H1 ⊢
  go_upto_region 5 with (go_at_call 26;refine (HCF.out w3 _ H1.out.2).mono ?_;rintro e w4 ⟨rfl,hb⟩;replace H1:=(zd (H1.out.1.below hb) (H1.out.2.below hb));clear hb;have hfd:(Instr.field 23 (.agg (za8 S.cfg)) 0).run prog w4 = .ok (.int .i64 (m:Int)) w4:=by rw[← hm];exact zfQ S.cfg w4);clear HUP HCF hm
  go_loopw [5,18] (fun fv iv wr=>LdS w p S rB bB F m fv iv wr) (fun _ iv _=>m - (intOf iv).toNat)
  case atStart=>exact⟨⟨0,emp,Nat.zero_le _,rfl,rfl,H1.out⟩⟩
  case round =>
   clear H1;obtain⟨k,X,hk,rfl,rfl,H1⟩:=hrel.st;clear hrel;obtain⟨⟨⟨⟨be,bc⟩,bsq,bi⟩,eb⟩,hbk⟩:∃ r,zb7 S k=r:=⟨_,rfl⟩;rw[hbk] at H1 ⊢
   by_cases hlt:k<m
   ·have hltd:decide ((k:Int)<(m:Int))=true:=decide_eq_true (by omega)
    have hki:(k:Int)<(m:Int):=by omega
    have hw1:IntKind.i64.wrap ((k:Int)+1)=(k:Int)+1:=IntWalk.i64_in _ (by omega);obtain⟨⟨ar,⟨⟨ne,nc⟩,nsq,ni⟩,en⟩,hnk⟩:∃ r,zbs S k=r:=⟨_,rfl⟩;have HN1:=zh (HNE.out wr k _ H1.out.2);rw[hnk] at HN1;have HK:=(zd hlt (zlO S k hbk hnk))
    have HNW:=zh (show ∀ W,Calls prog 69 #[.agg #[ne,nc],.agg #[be,bc]] W fun e w'=>e = .returned (.bool (zcm ⟨ne,nc⟩ ⟨be,bc⟩))∧Below W.heap.size W w' from fun W=>zja ⟨ne,nc⟩ ⟨be,bc⟩ W)
    clear hlt hbk hnk hk;go_upto_region 8 with (go_at_call 18;refine HN1.out.mono ?_;rintro e w5 ⟨rfl,h2,h3⟩;replace H1:=(zd (H1.out.1.trans h2) h3);clear h2 h3;unfold ckA)
    replace H1:=(zd (H1.out.1.alloc (.cells #[ne,nc,nsq,.string (zae ni)] TCk)) ((H1.out.2.alloc (.cells #[ne,nc,nsq,.string (zae ni)] TCk)).perm (show _=nwF p S bB rB w5.heap.size #[be,bc,bsq,.string (zae bi)] #[.int .i64 0,.int .i64 0,.int .i64 0,.string ⟨#[]⟩] #[ne,nc,nsq,.string (zae ni)] (X*F) from by unfold nwF;ac_rfl)));generalize w5.alloc (.cells #[ne,nc,nsq,.string (zae ni)] TCk)=w6 at H1 ⊢;generalize w5.heap.size=cB at H1 ⊢;clear HN1;obtain⟨⟨f0,f1,f2,f3⟩,⟨r0,r1,r2,r3⟩,⟨a0,a1,a2,a3⟩,b0,b1,b2,b3⟩:=zbE H1.out.2
    by_cases hen:en=0
    case neg =>
     have hed:(en==0)=false:=by simp[hen]
     have HR1:=zh (show zb7 S (k+1)=(⟨⟨be,bc⟩,bsq,bi⟩,eb) from by rw[HK.out.2,if_neg (fun h=>hen h.1)]);clear hen HNW;go_wp2
     go_roundw
     case rel=>exact⟨⟨k+1,pts cB (.cells #[ne,nc,nsq,.string (zae ni)] TCk (0,0))*X,HK.out.1,congrArg (Value.int .i64) (by omega),by rw[HR1.out],zh ⟨H1.out.1,by rw[HR1.out];exact H1.out.2.perm (by unfold nwF ldF;ac_rfl)⟩⟩⟩
     case measure=>have:=HK.out.1;simp[intOf];omega
    case pos =>
     subst hen
     by_cases heb:eb=0
     case neg =>
      have hed:(eb != 0)=true:=bne_iff_ne.2 heb;have HR1:=zh (show zb7 S (k+1)=(⟨⟨ne,nc⟩,nsq,ni⟩,0) from by rw[HK.out.2,if_pos ⟨rfl,.inl heb⟩]);clear heb HNW;go_wp2;have H2:=(zd ((((H1.out.1.setCell ⟨bB,0,none⟩ (.int .i64 ne)).setCell ⟨bB,1,none⟩ (.int .i64 nc)).setCell ⟨bB,2,none⟩ (.int .i64 nsq)).setCell ⟨bB,3,none⟩ (.string (zae ni))) (zfo H1.out.2 (.int .i64 ne) (.int .i64 nc) (.int .i64 nsq) (.string (zae ni))))
      go_roundw
      case rel=>exact⟨⟨k+1,pts cB (.cells #[ne,nc,nsq,.string (zae ni)] TCk (0,0))*X,HK.out.1,congrArg (Value.int .i64) (by omega),by rw[HR1.out],zh ⟨H2.out.1,by rw[HR1.out];exact H2.out.2.perm (by unfold ldF;ac_rfl)⟩⟩⟩
      case measure=>have:=HK.out.1;simp[intOf];omega
     case pos =>
      subst heb
      cases hnw:zcm ⟨ne,nc⟩ ⟨be,bc⟩ with
      | false =>
       have HR1:=zh (show zb7 S (k+1)=(⟨⟨be,bc⟩,bsq,bi⟩,0) from by rw[HK.out.2,hnw,if_neg (by simp)]);go_wp2_with (go_at_call 69;refine (HNW.out w6).mono ?_;rintro e w7 ⟨rfl,hb⟩;replace H1:=(zd (H1.out.1.below hb) (H1.out.2.below hb));clear hb;clear f0 f1 f2 f3 r0 r1 r2 r3 a0 a1 a2 a3 b0 b1 b2 b3;obtain⟨⟨f0,f1,f2,f3⟩,⟨r0,r1,r2,r3⟩,⟨a0,a1,a2,a3⟩,b0,b1,b2,b3⟩:=zbE H1.out.2;rw[hnw]);clear hnw HNW
       go_roundw
       case rel=>exact⟨⟨k+1,pts cB (.cells #[ne,nc,nsq,.string (zae ni)] TCk (0,0))*X,HK.out.1,congrArg (Value.int .i64) (by omega),by rw[HR1.out],zh ⟨H1.out.1,by rw[HR1.out];exact H1.out.2.perm (by unfold nwF ldF;ac_rfl)⟩⟩⟩
       case measure=>have:=HK.out.1;simp[intOf];omega
      | true =>
       have HR1:=zh (show zb7 S (k+1)=(⟨⟨ne,nc⟩,nsq,ni⟩,0) from by rw[HK.out.2,hnw,if_pos ⟨rfl,.inr rfl⟩]);go_wp2_with (go_at_call 69;refine (HNW.out w6).mono ?_;rintro e w7 ⟨rfl,hb⟩;replace H1:=(zd (H1.out.1.below hb) (H1.out.2.below hb));clear hb;clear f0 f1 f2 f3 r0 r1 r2 r3 a0 a1 a2 a3 b0 b1 b2 b3;obtain⟨⟨f0,f1,f2,f3⟩,⟨r0,r1,r2,r3⟩,⟨a0,a1,a2,a3⟩,b0,b1,b2,b3⟩:=zbE H1.out.2;rw[hnw]);clear hnw HNW;have H2:=(zd ((((H1.out.1.setCell ⟨bB,0,none⟩ (.int .i64 ne)).setCell ⟨bB,1,none⟩ (.int .i64 nc)).setCell ⟨bB,2,none⟩ (.int .i64 nsq)).setCell ⟨bB,3,none⟩ (.string (zae ni))) (zfo H1.out.2 (.int .i64 ne) (.int .i64 nc) (.int .i64 nsq) (.string (zae ni))))
       go_roundw
       case rel=>exact⟨⟨k+1,pts cB (.cells #[ne,nc,nsq,.string (zae ni)] TCk (0,0))*X,HK.out.1,congrArg (Value.int .i64) (by omega),by rw[HR1.out],zh ⟨H2.out.1,by rw[HR1.out];exact H2.out.2.perm (by unfold ldF;ac_rfl)⟩⟩⟩
       case measure=>have:=HK.out.1;simp[intOf];omega
   ·have hltd:decide ((k:Int)<(m:Int))=false:=decide_eq_false (by omega)
    have hki:¬ (k:Int)<(m:Int):=by omega
    obtain rfl:k=m:=by omega
    have HR2:=zh (show R=(⟨⟨be,bc⟩,bsq,bi⟩,eb) from HR.out.symm.trans hbk);clear hlt hbk HNE HR;obtain⟨⟨f0,f1,f2,f3⟩,⟨r0,r1,r2,r3⟩,a0,a1,a2,a3⟩:=zo5 H1.out.2;go_wp2;have H2:=(zd ((((H1.out.1.setCell ⟨rB,0,none⟩ (.int .i64 be)).setCell ⟨rB,1,none⟩ (.int .i64 bc)).setCell ⟨rB,2,none⟩ (.int .i64 bsq)).setCell ⟨rB,3,none⟩ (.string (zae bi))) (zpV H1.out.2 (.int .i64 be) (.int .i64 bc) (.int .i64 bsq) (.string (zae bi))));refine bodyPost_ret (v:=.tuple #[.agg #[be,bc,bsq,.string (zae bi)],eb]) (zaA results14 (ResIs.row rfl H2.out.2.block underlying44 rfl (zaX rfl)) (.tmp rfl)) rfl ?_
    exact HFIN.out _ (⟨⟨be,bc⟩,bsq,bi⟩,eb) (pts bB (.cells #[be,bc,bsq,.string (zae bi)] TCk (0,0))*X) H2.out.1 (H2.out.2.perm (by ac_rfl)) HR2.out
end Go.Proofs.YtmcclbiaoeilkaaGreat
end
