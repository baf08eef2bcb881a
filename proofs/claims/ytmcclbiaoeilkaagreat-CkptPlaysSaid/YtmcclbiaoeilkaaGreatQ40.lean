import Derived.Test.YtmcclbiaoeilkaaGreatQ39
set_option maxHeartbeats 8000000
set_option maxRecDepth 20000
/- Part 40 of a proof;the last part says what is proved. -/
section
namespace Go.Proofs.YtmcclbiaoeilkaaGreat
open Go.Proofs.Tryz Go.RowKit Go.Sl Go.ChangeMaps
theorem zi6 (S:zsg):∀ k,(zb7 S k).2=0∨zb7 S k=(ck0,12)
 | 0=>.inr rfl
 | k+1=>by
  unfold zb7;split
  ·exact .inl rfl
  ·exact zi6 S k
structure RLd (w:World)(p:Nat)(S:zsg)(rB bB:Nat)(F:zsi)(m:Nat)(fv iv:Value)(wr:World):Prop where
 st:∃ k:Nat,k≤m∧iv = .int .i64 (k:Int)∧fv = .bool (decide ((zb7 S k).2=0))∧Same w wr∧Sat wr (pts rB (.cells #[.int .i64 0,.int .i64 0,.int .i64 0,.string ⟨#[]⟩] TCk (0,0))*(pts bB (.cells (ckA (zb7 S k).1) TCk (0,0))*(zad RS p S*F)))
theorem zhM (p:Nat)(S:zsg)(F:zsi)(w:World)(hS:Sat w (zad RS p S*F)):
  Calls prog 15 #[.pointer (some ⟨p,0,none⟩)] w (zem p S F (zf4 S) w):=by
 have hwf:=zbm hS;obtain⟨m,hm⟩:∃ m:Nat,S.cfg.disks=(m:Int):=⟨S.cfg.disks.toNat,by have:=hwf.cfg.disks;omega⟩
 have hm64:(m:Int)≤64:=by have:=hwf.cfg.disks;omega
 have hlm:zf4 S=if S.off then (ck0,14) else zb7 S m:=by
  unfold zf4;rw[show S.cfg.disks.toNat=m by omega]
 generalize zf4 S=R at hlm ⊢
 have HUP:=zh (fun (W:World) (X:zsi) (h:Sat W (zad RS p S*X))=>znS p S X W h)
 have HCF:=zh (show ∀ (W:World) (X:zsi),Sat W (zad RS p S*X)→Calls prog 39 #[.pointer (some ⟨p,0,none⟩)] W fun e w'=>e = .returned (.agg (za8 S.cfg))∧Below W.heap.size W w' from fun W X h=>zec p S X W h)
 have HFD:=zh (show ∀ W:World,(Instr.field 23 (.agg (za8 S.cfg)) 0).run prog W = .ok (.int .i64 (m:Int)) W from fun W=>by rw[← hm];exact zfQ S.cfg W)
 have HNE:=zh (fun (k:Nat) (W:World) (X:zsi) (h:Sat W (zad RS p S*X))=>zeB p S X (k:Int) W h)
 have H1:=(zd ((Same.refl w).alloc (.cells #[.int .i64 0,.int .i64 0,.int .i64 0,.string ⟨#[]⟩] TCk)) (hS.alloc (.cells #[.int .i64 0,.int .i64 0,.int .i64 0,.string ⟨#[]⟩] TCk)));clear hS hwf hm;go_enter func15,ntmps15;go_upto_region 1 with ((with_reducible (refine zai ?_ TCk ?_ _ (zhu _) ?_));rfl;rfl)
 generalize w.alloc (.cells #[.int .i64 0,.int .i64 0,.int .i64 0,.string ⟨#[]⟩] TCk)=w1 at H1 ⊢;generalize w.heap.size=rB at H1 ⊢
 have HFIN:=zh (show ∀ (W:World) (r:CkM×Int) (Y:zsi),Same w W→Sat W (pts rB (.cells (ckA r.1) TCk (0,0))*Y)→(∀ W',Sat W' Y→Sat W' (zad RS p S*F))→R=r→zem p S F R w (.returned (.tuple #[.agg (ckA r.1),r.2])) W from fun W r Y h1 h2 h3 h4=>by
  subst h4
  exact⟨rfl,h1,h3 W h2.right⟩)
 cases hoff:S.off with
 | true =>
  rw[hoff] at HUP hlm;have HR:=zh (show R=(ck0,14) from hlm);clear hlm hoff;obtain⟨⟨r0,r1,r2,r3⟩,⟨f0,f1,f2,f3⟩,rl⟩:=zas H1.out.2;go_wp2_with (go_at_call 40;refine (HUP.out w1 _ H1.out.2.right).mono ?_;rintro e w2 ⟨rfl,rfl⟩);have H2:=(zd (zbh (r:=rB) H1.out.1 (.int .i64 0) (.int .i64 0) (.int .i64 0) (.string ⟨#[]⟩)) (zbQ H1.out.2 (.int .i64 0) (.int .i64 0) (.int .i64 0) (.string ⟨#[]⟩)));refine bodyPost_ret (v:=.tuple #[.agg #[.int .i64 0,.int .i64 0,.int .i64 0,.string ⟨#[]⟩],.int .i64 14]) (zaA results15 (ResIs.row rfl H2.out.2.block underlying44 rfl (zaX rfl)) (.tmp rfl)) rfl ?_
  exact HFIN.out _ (ck0,14) _ H2.out.1 H2.out.2 (fun _ h=>h) HR.out
 | false =>
  rw[hoff] at HUP hlm;have HLM:=zh (show R=zb7 S m from hlm);clear hlm hoff;go_upto_region 4 with (go_at_call 40;refine (HUP.out w1 _ H1.out.2.right).mono ?_;rintro e w2 ⟨rfl,rfl⟩)
  replace H1:=(zd (H1.out.1.alloc (.cells #[.int .i64 0,.int .i64 0,.int .i64 0,.string ⟨#[]⟩] TCk)) ((H1.out.2.alloc (.cells #[.int .i64 0,.int .i64 0,.int .i64 0,.string ⟨#[]⟩] TCk)).perm (show _=pts rB (.cells #[.int .i64 0,.int .i64 0,.int .i64 0,.string ⟨#[]⟩] TCk (0,0))*(pts w1.heap.size (.cells #[.int .i64 0,.int .i64 0,.int .i64 0,.string ⟨#[]⟩] TCk (0,0))*(zad RS p S*F)) from by ac_rfl)));change Code.wp _ _ _ _ (w1.alloc (.cells #[.int .i64 0,.int .i64 0,.int .i64 0,.string ⟨#[]⟩] TCk));generalize w1.alloc (.cells #[.int .i64 0,.int .i64 0,.int .i64 0,.string ⟨#[]⟩] TCk)=w3 at H1 ⊢
  generalize w1.heap.size=bB at H1 ⊢;go_wp2
  go_loopw [5,6,7] (fun fv iv _ wr=>RLd w p S rB bB F m fv iv wr) (fun _ iv _ _=>m - (intOf iv).toNat)
  case atStart=>exact⟨0,Nat.zero_le _,rfl,rfl,H1.out.1,H1.out.2⟩
  case round =>
   clear H1;obtain⟨k,hk,rfl,rfl,hsm,hs⟩:=hrel.st;clear hrel;have hke:=zi6 S k
   have hsucc:zb7 S (k+1)=if (zbs S k).2.2=0∧((zb7 S k).2≠0∨zcm (zbs S k).2.1.gen (zb7 S k).1.gen=true) then ((zbs S k).2.1,0) else zb7 S k:=rfl
   obtain⟨⟨⟨⟨be,bc⟩,bq,bi⟩,eb⟩,hbk⟩:∃ r,zb7 S k=r:=⟨_,rfl⟩;rw[hbk] at hke hs hsucc ⊢;have H1:=(zd hsm (show Sat wr (pts rB (.cells #[.int .i64 0,.int .i64 0,.int .i64 0,.string ⟨#[]⟩] TCk (0,0))*(pts bB (.cells #[be,bc,bq,.string (zae bi)] TCk (0,0))*(zad RS p S*F))) from hs));clear hsm hs
   by_cases hlt:k<m
   case pos =>
    have hltd:decide ((k:Int)<(m:Int))=true:=decide_eq_true (by omega)
    have hki:(k:Int)≤64:=by omega
    obtain⟨⟨ar,⟨⟨ne,nc⟩,nq,ni⟩,en⟩,hnk⟩:∃ r,zbs S k=r:=⟨_,rfl⟩;rw[hnk] at hsucc;simp only at hsucc;have HSU:=zh hsucc
    have HN1:=zh (show ∀ (W:World) (X:zsi),Sat W (zad RS p S*X)→Calls prog 19 #[.pointer (some ⟨p,0,none⟩),(k:Int)] W fun e w'=>e = .returned (.agg #[ar,ne,nc,nq,.string (zae ni),en])∧Hid (Same W w'∧Sat w' (zad RS p S*X)) from fun W X h=>(HNE.out k W X h).mono fun e w' h2=>by unfold zot at h2;rw[hnk] at h2;exact h2)
    have HNW:=zh (fun W=>zgV ⟨ne,nc⟩ ⟨be,bc⟩ W);have HLT:=zh hlt;clear hsucc hbk hnk hk hlt
    go_upto_region 9 with (first
     | (go_at_call 39;refine (HCF.out wr _ (H1.out.2.perm (show _=zad RS p S*(pts rB (.cells #[.int .i64 0,.int .i64 0,.int .i64 0,.string ⟨#[]⟩] TCk (0,0))*(pts bB (.cells #[be,bc,bq,.string (zae bi)] TCk (0,0))*F)) from by ac_rfl))).mono ?_;rintro e w5 ⟨rfl,hb⟩;replace H1:=(zd (H1.out.1.below hb) (H1.out.2.below hb));clear hb;have hfd:=HFD.out w5)
     | (go_at_call 19;refine (HN1.out w5 _ (H1.out.2.perm (show _=zad RS p S*(pts rB (.cells #[.int .i64 0,.int .i64 0,.int .i64 0,.string ⟨#[]⟩] TCk (0,0))*(pts bB (.cells #[be,bc,bq,.string (zae bi)] TCk (0,0))*F)) from by ac_rfl))).mono ?_;rintro e w6 ⟨rfl,h2⟩;replace H1:=(zt H1 h2);clear h2))
    replace H1:=(zd (H1.out.1.alloc (.cells #[ar,ne,nc,nq,.string (zae ni),en] TFd)) ((H1.out.2.alloc (.cells #[ar,ne,nc,nq,.string (zae ni),en] TFd)).perm (show _=pts bB (.cells #[be,bc,bq,.string (zae bi)] TCk (0,0))*(pts w6.heap.size (.cells #[ar,ne,nc,nq,.string (zae ni),en] TFd (0,0))*(pts rB (.cells #[.int .i64 0,.int .i64 0,.int .i64 0,.string ⟨#[]⟩] TCk (0,0))*(zad RS p S*F))) from by ac_rfl)));change Code.wp _ _ _ _ (w6.alloc (.cells #[ar,ne,nc,nq,.string (zae ni),en] TFd));generalize w6.alloc (.cells #[ar,ne,nc,nq,.string (zae ni),en] TFd)=w7 at H1 ⊢
    generalize w6.heap.size=nB at H1 ⊢;clear hfd
    have HCL:=zh (show ∀ (W:World),Sat W (pts bB (.cells #[be,bc,bq,.string (zae bi)] TCk (0,0))*(pts nB (.cells #[ar,ne,nc,nq,.string (zae ni),en] TFd (0,0))*(pts rB (.cells #[.int .i64 0,.int .i64 0,.int .i64 0,.string ⟨#[]⟩] TCk (0,0))*(zad RS p S*F))))→((W.cell? ⟨bB,0,none⟩=some (.int .i64 be)∧W.cell? ⟨bB,1,none⟩=some (.int .i64 bc)∧W.cell? ⟨bB,2,none⟩=some (.int .i64 bq)∧W.cell? ⟨bB,3,none⟩=some (.string (zae bi)))∧(W.frozen? ⟨bB,0,none⟩=false∧W.frozen? ⟨bB,1,none⟩=false∧W.frozen? ⟨bB,2,none⟩=false∧W.frozen? ⟨bB,3,none⟩=false))∧(W.cell? ⟨nB,0,none⟩=some (.int .i64 ar)∧W.cell? ⟨nB,1,none⟩=some (.int .i64 ne)∧W.cell? ⟨nB,2,none⟩=some (.int .i64 nc)∧W.cell? ⟨nB,3,none⟩=some (.int .i64 nq)∧W.cell? ⟨nB,4,none⟩=some (.string (zae ni))∧W.cell? ⟨nB,5,none⟩=some (.int .i64 en)) from fun W h=>⟨⟨(zas h).1,(zas h).2.1⟩,(zci h.right).1⟩)
    obtain⟨⟨⟨z0,z1,z2,z3⟩,y0,y1,y2,y3⟩,p0,p1,p2,p3,p4,p5⟩:=HCL.out _ H1.out.2
    by_cases hen:en=0
    case neg =>
     have hed:(en==0)=false:=by simp[hen]
     have HR1:=zh (show zb7 S (k+1)=(⟨⟨be,bc⟩,bq,bi⟩,eb) from by rw[HSU.out,if_neg (fun h=>hen h.1)]);clear hen;go_wp2;exact⟨⟨k+1,by have:=HLT.out;omega,rfl,by rw[HR1.out],H1.out.1,by rw[HR1.out];exact (H1.out.2.perm (show _=pts nB (.cells #[ar,ne,nc,nq,.string (zae ni),en] TFd (0,0))*(pts rB (.cells #[.int .i64 0,.int .i64 0,.int .i64 0,.string ⟨#[]⟩] TCk (0,0))*(pts bB (.cells #[be,bc,bq,.string (zae bi)] TCk (0,0))*(zad RS p S*F))) from by ac_rfl)).right⟩,by have:=HLT.out;simp only[intOf];omega⟩
    case pos =>
     subst hen
     by_cases heb:eb=0
     case neg =>
      have hebd:decide (eb=0)=false:=decide_eq_false heb;have HR1:=zh (show zb7 S (k+1)=(⟨⟨ne,nc⟩,nq,ni⟩,0) from by rw[HSU.out,if_pos ⟨rfl,.inl heb⟩]);clear heb;go_wp2;have H2:=(zd (zbh (r:=bB) H1.out.1 (.int .i64 ne) (.int .i64 nc) (.int .i64 nq) (.string (zae ni))) (zbQ H1.out.2 (.int .i64 ne) (.int .i64 nc) (.int .i64 nq) (.string (zae ni))))
      exact⟨⟨k+1,by have:=HLT.out;omega,rfl,by rw[HR1.out];rfl,H2.out.1,by rw[HR1.out];exact (H2.out.2.perm (show _=pts nB (.cells #[ar,ne,nc,nq,.string (zae ni),.int .i64 0] TFd (0,0))*(pts rB (.cells #[.int .i64 0,.int .i64 0,.int .i64 0,.string ⟨#[]⟩] TCk (0,0))*(pts bB (.cells #[ne,nc,nq,.string (zae ni)] TCk (0,0))*(zad RS p S*F))) from by ac_rfl)).right⟩,by have:=HLT.out;simp only[intOf];omega⟩
     case pos =>
      subst heb
      cases hnw:zcm ⟨ne,nc⟩ ⟨be,bc⟩ with
      | false =>
       have HR1:=zh (show zb7 S (k+1)=(⟨⟨be,bc⟩,bq,bi⟩,0) from by rw[HSU.out,hnw,if_neg (by simp)]);rw[hnw] at HNW;clear hnw;go_wp2_with (go_at_call 70;refine (HNW.out w7).mono ?_;rintro e w8 ⟨rfl,hb⟩;replace H1:=(zd (H1.out.1.below hb) (H1.out.2.below hb));clear hb z0 z1 z2 z3 y0 y1 y2 y3 p0 p1 p2 p3 p4 p5;obtain⟨⟨⟨z0,z1,z2,z3⟩,y0,y1,y2,y3⟩,p0,p1,p2,p3,p4,p5⟩:=HCL.out _ H1.out.2)
       exact⟨⟨k+1,by have:=HLT.out;omega,rfl,by rw[HR1.out];rfl,H1.out.1,by rw[HR1.out];exact (H1.out.2.perm (show _=pts nB (.cells #[ar,ne,nc,nq,.string (zae ni),.int .i64 0] TFd (0,0))*(pts rB (.cells #[.int .i64 0,.int .i64 0,.int .i64 0,.string ⟨#[]⟩] TCk (0,0))*(pts bB (.cells #[be,bc,bq,.string (zae bi)] TCk (0,0))*(zad RS p S*F))) from by ac_rfl)).right⟩,by have:=HLT.out;simp only[intOf];omega⟩
      | true =>
       have HR1:=zh (show zb7 S (k+1)=(⟨⟨ne,nc⟩,nq,ni⟩,0) from by rw[HSU.out,hnw,if_pos ⟨rfl,.inr rfl⟩]);rw[hnw] at HNW;clear hnw;go_wp2_with (go_at_call 70;refine (HNW.out w7).mono ?_;rintro e w8 ⟨rfl,hb⟩;replace H1:=(zd (H1.out.1.below hb) (H1.out.2.below hb));clear hb z0 z1 z2 z3 y0 y1 y2 y3 p0 p1 p2 p3 p4 p5;obtain⟨⟨⟨z0,z1,z2,z3⟩,y0,y1,y2,y3⟩,p0,p1,p2,p3,p4,p5⟩:=HCL.out _ H1.out.2);have H2:=(zd (zbh (r:=bB) H1.out.1 (.int .i64 ne) (.int .i64 nc) (.int .i64 nq) (.string (zae ni))) (zbQ H1.out.2 (.int .i64 ne) (.int .i64 nc) (.int .i64 nq) (.string (zae ni))))
       exact⟨⟨k+1,by have:=HLT.out;omega,rfl,by rw[HR1.out];rfl,H2.out.1,by rw[HR1.out];exact (H2.out.2.perm (show _=pts nB (.cells #[ar,ne,nc,nq,.string (zae ni),.int .i64 0] TFd (0,0))*(pts rB (.cells #[.int .i64 0,.int .i64 0,.int .i64 0,.string ⟨#[]⟩] TCk (0,0))*(pts bB (.cells #[ne,nc,nq,.string (zae ni)] TCk (0,0))*(zad RS p S*F))) from by ac_rfl)).right⟩,by have:=HLT.out;simp only[intOf];omega⟩
   case neg =>
    obtain rfl:k=m:=by omega
    have hltd:decide ((k:Int)<(k:Int))=false:=decide_eq_false (by omega);have HLR:=zh (HLM.out.trans hbk);rcases hke with he|he
    case inl =>
     simp only at he;subst he;obtain⟨⟨r0,r1,r2,r3⟩,⟨f0,f1,f2,f3⟩,rl⟩:=zas H1.out.2;obtain⟨⟨z0,z1,z2,z3⟩,⟨y0,y1,y2,y3⟩,zl⟩:=zas H1.out.2.right;clear hbk hsucc
     go_wp2_with (go_at_call 39;refine (HCF.out wr _ (H1.out.2.perm (show _=zad RS p S*(pts rB (.cells #[.int .i64 0,.int .i64 0,.int .i64 0,.string ⟨#[]⟩] TCk (0,0))*(pts bB (.cells #[be,bc,bq,.string (zae bi)] TCk (0,0))*F)) from by ac_rfl))).mono ?_;rintro e w5 ⟨rfl,hb⟩;replace H1:=(zd (H1.out.1.below hb) (H1.out.2.below hb));clear hb r0 r1 r2 r3 f0 f1 f2 f3 rl z0 z1 z2 z3 y0 y1 y2 y3 zl;have hfd:=HFD.out w5;obtain⟨⟨r0,r1,r2,r3⟩,⟨f0,f1,f2,f3⟩,rl⟩:=zas H1.out.2;obtain⟨⟨z0,z1,z2,z3⟩,⟨y0,y1,y2,y3⟩,zl⟩:=zas H1.out.2.right)
     have H2:=(zd (zbh (r:=rB) H1.out.1 (.int .i64 be) (.int .i64 bc) (.int .i64 bq) (.string (zae bi))) (zbQ H1.out.2 (.int .i64 be) (.int .i64 bc) (.int .i64 bq) (.string (zae bi))));refine bodyPost_ret (v:=.tuple #[.agg #[be,bc,bq,.string (zae bi)],.int .i64 0]) (zaA results15 (ResIs.row rfl H2.out.2.block underlying44 rfl (zaX rfl)) (.tmp rfl)) rfl ?_;exact HFIN.out _ (⟨⟨be,bc⟩,bq,bi⟩,0) _ H2.out.1 H2.out.2 (fun _ h=>h.right) HLR.out
    case inr =>
     injection he with h1 h2
     have hebd:decide (eb=0)=false:=decide_eq_false (by rw[h2];decide);have HLR2:=zh (show R=(ck0,12) from by rw[HLR.out,h1,h2]);obtain⟨⟨r0,r1,r2,r3⟩,⟨f0,f1,f2,f3⟩,rl⟩:=zas H1.out.2;clear h1 h2 hbk hsucc;go_wp2_with (go_at_call 39;refine (HCF.out wr _ (H1.out.2.perm (show _=zad RS p S*(pts rB (.cells #[.int .i64 0,.int .i64 0,.int .i64 0,.string ⟨#[]⟩] TCk (0,0))*(pts bB (.cells #[be,bc,bq,.string (zae bi)] TCk (0,0))*F)) from by ac_rfl))).mono ?_;rintro e w5 ⟨rfl,hb⟩;replace H1:=(zd (H1.out.1.below hb) (H1.out.2.below hb));clear hb r0 r1 r2 r3 f0 f1 f2 f3 rl;have hfd:=HFD.out w5;obtain⟨⟨r0,r1,r2,r3⟩,⟨f0,f1,f2,f3⟩,rl⟩:=zas H1.out.2)
     have H2:=(zd (zbh (r:=rB) H1.out.1 (.int .i64 0) (.int .i64 0) (.int .i64 0) (.string ⟨#[]⟩)) (zbQ H1.out.2 (.int .i64 0) (.int .i64 0) (.int .i64 0) (.string ⟨#[]⟩)));refine bodyPost_ret (v:=.tuple #[.agg #[.int .i64 0,.int .i64 0,.int .i64 0,.string ⟨#[]⟩],.int .i64 12]) (zaA results15 (ResIs.row rfl H2.out.2.block underlying44 rfl (zaX rfl)) (.tmp rfl)) rfl ?_;exact HFIN.out _ (ck0,12) _ H2.out.1 H2.out.2 (fun _ h=>h.right) HLR2.out
def zcq (n:Int):Bool:=decide (0≤n)&&decide (n≤4294967295)
theorem zb6 (n:Int)(w:World):Calls prog 34 #[n] w fun e w'=>e = .returned (.bool (zcq n))∧w=w':=by
 unfold zcq;cases h1:decide (0≤n)
 ·go_enter func34,ntmps34
  go_wp2;go_ret;exact⟨rfl,rfl⟩
 ·cases h2:decide (n≤4294967295)
  all_goals
   go_enter func34,ntmps34;go_wp2;go_ret;exact⟨rfl,rfl⟩
theorem zfi (p:Nat)(S:zsg)(F:zsi)(d area ge gc:Int)(sq:Nat)(im:List UInt8)(hsq:sq<9223372036854775808)(him:im.length≤2621440)(hseal:∀ k:Nat,k<zaR ⟨⟨ge,gc⟩,(sq:Int),im⟩+1→zdr ⟨d,area,(k:Int)⟩ ⟨ge,gc⟩ (zcs ⟨⟨ge,gc⟩,(sq:Int),im⟩ k)=true)(w:World)(hS:Sat w (zac SH p S*F)):
  Calls prog 37 #[.pointer (some ⟨p,0,none⟩),d,area,.agg #[ge,gc,(sq:Int),.string (zae im)]] w (zjQ p S F d area ⟨⟨ge,gc⟩,(sq:Int),im⟩ w):=
 callsIn_wide.1 (zlw Fence.wide (zm1 _) 3 (by omega) p S F d area ge gc sq im hsq him hseal w hS)
theorem zkX (c:CkM)(k:Nat):(zcs c k).length≤40:=by
 unfold zcs;split
 ·have h1:=zc3 c.seq.toNat
  have h2:=zc3 c.image.length;rw[List.length_append];omega
 ·rw[List.length_take];omega
theorem zei {c:CkM}{d area:Int}(hd:0≤d∧d<64)(ha:area=2∨area=3)(hg:zcQ c.gen=true)(hp:zaR c≤65535):∀ k:Nat,k<zaR c+1→zdr ⟨d,area,(k:Int)⟩ c.gen (zcs c k)=true:=by
 intro k hk
 have hpl:zbk ⟨d,area,(k:Int)⟩=true:=by
  unfold zbk;simp only[Bool.and_eq_true,decide_eq_true_eq];exact⟨⟨⟨⟨⟨hd.1,hd.2⟩,by omega⟩,by omega⟩,by omega⟩,by omega⟩
 unfold zdr;rw[hpl,hg,decide_eq_true (zkX c k)]
 rfl
theorem zgY {c:CkM}{g:zsl}(hg:g.image≤65536)(h1:1≤g.image)(h:(c.image.length:Int)≤zda g):zaR c≤65535∧c.image.length≤2621440:=by
 unfold zda at h;unfold zaR;omega
abbrev zfg:TypeId:=9
theorem zi4:(prog.info? zfg).map (fun i=>(i.zero,i.size,i.bytes))=some (some (.string ByteArray.empty),1,16):=by kernel_rfl
def zny (c:CkM)(n:Nat):List Value:=(List.range n).map fun i=>.string (zae (zcs c i))
theorem zjj (c:CkM)(n:Nat):zny c (n+1)=zny c n++[.string (zae (zcs c n))]:=by simp[zny,List.range_succ]
theorem zqs {c:CkM}{n i:Nat}(h:i<n):(zny c n)[i]?=some (.string (zae (zcs c i))):=by simp[zny,h]
theorem zqr {W:World}{F:zsi}{T:TypeId}(u:Value)(hF:Sat W F):Sat (W.alloc (.cells #[u] T)) (zaf T 1 (.slice (some ⟨W.heap.size,0,none⟩) 1 1) 1 [u]*F):=
 za4.2 (.inr ⟨W.heap.size,1,#[u],⟨rfl,Nat.le_refl _,by simp[maxLen],rfl,rfl,rfl⟩,hF.alloc _⟩)
theorem zpx {W:World}{v y:Value}{L M:List UInt8}{F:zsi}(h:Sat W (zbu v L*(zbu y M*F)))(hM:0<M.length)(hn:L.length+M.length≤100000)(ty:TypeId):
  ∃ v' w',(Builtin.append_ #[69,69] ty #[v,y]).run prog W = .ok v' w'∧Same W w'∧Sat w' (zbu v' (L++M)*F):=by
 obtain⟨i0,hi,hz0,hz1,hz2⟩:=info_parts zdz;obtain⟨g,cap,cur,rfl,hnc,hcm,hcs,ht,hS⟩:=zeX hM h.right
 have h':Sat W (zaf zaM i0.size v L.length (zaY L)*(zbu (.slice (some ⟨g,0,none⟩) M.length cap) M*F)):=by rw[hz1];exact h
 obtain⟨v',w',hr,h2,h3⟩:=zaH (P:=prog) 69 ty zaM i0 _ underlying69 hi hz0 (by rw[hz1];rfl) v L.length (zaY L) h' ⟨g,0,none⟩ M.length cap (zaY M) (by rw[zao,hz1,Nat.mul_one])
  (fun j u hu=>zdR ht hS.block j u hu) (fun u hu=>by obtain⟨x,_,rfl⟩:=List.mem_map.1 hu;rfl) (by unfold maxLen;omega) (by rw[hz2];omega)
 rw[hz1] at h3;refine⟨v',w',hr,h2,?_⟩
 have e:zaY (L++M)=zaY L++zaY M:=by simp[zaY]
 unfold zbu;rw[e,List.length_append];exact (h3.perm (show _=zbu (.slice (some ⟨g,0,none⟩) M.length cap) M*(zaf zaM 1 v' (L.length+M.length) (zaY L++zaY M)*F) from by ac_rfl)).right
structure zrE (w:World)(c:CkM)(B:Nat)(F:zsi)(A:Array Value)(o i:Value)(wr:World):Prop where
 st:∃ k:Nat,k≤zaR c∧i = .int .i64 ((40*k:Nat):Int)∧Same w wr∧Sat wr (zaf zfg 1 o (k+1) (zny c (k+1))*(pts B (.cells A TCk (0,0))*F))
theorem zhy (ge gc:Int)(sq:Nat)(im:List UInt8)(hsq:sq<9223372036854775808)(him:im.length≤2621440)(F:zsi)(w:World)(hF:Sat w F):
  Calls prog 88 #[.agg #[ge,gc,(sq:Int),.string (zae im)]] w fun e w'=>∃ v,e = .returned v∧Hid (Same w w'∧Sat w' (zaf zfg 1 v (zaR ⟨⟨ge,gc⟩,(sq:Int),im⟩+1) (zny ⟨⟨ge,gc⟩,(sq:Int),im⟩ (zaR ⟨⟨ge,gc⟩,(sq:Int),im⟩+1))*F)):=by
 have hsz:(zae im).size=im.length:=zap im
 have him2:(im.length:Int)≤2621440:=by omega
 have HIM:=zh him;have HSQ:=zh hsq;have H1:=(zd ((Same.refl w).alloc (.cells #[ge,gc,(sq:Int),.string (zae im)] TCk)) (hF.alloc (.cells #[ge,gc,(sq:Int),.string (zae im)] TCk)));have HP0:=zh (show zcs ⟨⟨ge,gc⟩,(sq:Int),im⟩ 0=zb9 sq++zb9 im.length from by unfold zcs;rw[if_pos rfl];simp)
 have HPS:=zh (show ∀ k,zcs ⟨⟨ge,gc⟩,(sq:Int),im⟩ (k+1)=(im.drop (40*k)).take 40 from fun k=>by unfold zcs;rw[if_neg (by omega)];rfl)
 have HPN:=zh (show zaR ⟨⟨ge,gc⟩,(sq:Int),im⟩=(im.length+39) / 40 from rfl);generalize hc:(⟨⟨ge,gc⟩,(sq:Int),im⟩:CkM)=c at HP0 HPS HPN ⊢;have HI1:=zh (fun (W:World) (X:zsi) (h:Sat W X)=>zfM (sq:Int) (by omega) (by omega) X W h);have HI2:=zh (fun (W:World) (X:zsi) (h:Sat W X)=>zfM (im.length:Int) (by omega) (by omega) X W h);rw[zlN] at HI1 HI2;clear hF hsq him hc;go_enter func88,ntmps88;go_upto_region 1 with (fail)
 generalize w.alloc (.cells #[ge,gc,(sq:Int),.string (zae im)] TCk)=w1 at H1 ⊢;generalize w.heap.size=B at H1 ⊢;replace H1:=(zd H1.out.1.drew H1.out.2.drew)
 have HCL:=zh (show ∀ (W:World) (X:zsi),Sat W (X*(pts B (.cells #[ge,gc,(sq:Int),.string (zae im)] TCk (0,0))*F))→W.cell? ⟨B,2,none⟩=some (.int .i64 (sq:Int))∧W.cell? ⟨B,3,none⟩=some (.string (zae im)) from fun W X h=>⟨zab h.right.block 2,zab h.right.block 3⟩)
 have hS0:=HCL.out _ emp (by rw[zaL];exact H1.out.2)
 refine zah (fun w'=>w'.cell? ⟨B,2,none⟩=some (.int .i64 (sq:Int))∧w'.cell? ⟨B,3,none⟩=some (.string (zae im))) (by kernel_rfl) ?_
 (apply zaa 0 rfl rfl (by kernel_rfl) rfl);(rintro w' ⟨h1,h2⟩;go_simp;rfl);exact hS0;simp only[zq];(apply zaa 1 rfl rfl (by kernel_rfl) rfl);(rintro w' ⟨h1,h2⟩;go_simp;rfl);exact hS0;simp only[zq];(apply zaa 3 rfl rfl (by kernel_rfl) rfl);(rintro w' ⟨h1,h2⟩;go_simp;rfl);exact hS0;simp only[zq];(apply zaa 4 rfl rfl (by kernel_rfl) rfl);(rintro w' ⟨h1,h2⟩;go_simp;rfl);exact hS0;simp only[zq];(apply zaa 5 rfl rfl (by kernel_rfl) rfl);(rintro w' ⟨h1,h2⟩;go_simp;rfl);exact hS0;simp only[zq]
 refine zan 2 rfl rfl (by kernel_rfl) rfl (f:=127) (args:=#[.int .i64 (sq:Int)]) (R:=fun v w'=>Hid (Same w1.drew w'∧Sat w' (zbu v (zb9 sq)*(pts B (.cells #[ge,gc,(sq:Int),.string (zae im)] TCk (0,0))*F)))) (by kernel_rfl) (HI1.out w1.drew _ H1.out.2) ?_
 rintro v2 w2 h2;replace H1:=(zt H1 h2);replace hS0:=HCL.out _ _ H1.out.2;refine⟨hS0,?_⟩;simp only[zq];clear h2
 refine zan 6 rfl rfl (by kernel_rfl) rfl (f:=127) (args:=#[.int .i64 (im.length:Int)]) (R:=fun v w'=>Hid (Same w2 w'∧Sat w' (zbu v (zb9 im.length)*(zbu v2 (zb9 sq)*(pts B (.cells #[ge,gc,(sq:Int),.string (zae im)] TCk (0,0))*F))))) (by kernel_rfl) (HI2.out w2 _ H1.out.2) ?_
 rintro v3 w3 h2;replace H1:=(zd (H1.out.1.trans h2.out.1) (h2.out.2.perm (show _=zbu v2 (zb9 sq)*(zbu v3 (zb9 im.length)*(pts B (.cells #[ge,gc,(sq:Int),.string (zae im)] TCk (0,0))*F)) from by ac_rfl)));replace hS0:=HCL.out _ _ H1.out.2.right;refine⟨hS0,?_⟩;simp only[zq];clear h2
 have hwl:=fun n=>zc3 n
 obtain⟨v4,w4,hr4,hs4,hS4⟩:=zpx H1.out.2 (by unfold zb9;simp) (by have:=hwl sq;have:=hwl im.length;omega) 69;replace H1:=(zd (H1.out.1.trans hs4) hS4);replace hS0:=HCL.out _ _ H1.out.2;refine zaV 7 (v4) (w4) rfl rfl (by kernel_rfl) rfl (zbc rfl rfl rfl hr4) (hS0) ?_;simp only[zq];clear hr4 hs4 hS4;have hcv:=zdp (by rw[List.length_append];unfold zb9;simp;omega) H1.out.2;rw[← HP0.out] at hcv;refine zaV 8 (.string (zae (zcs c 0))) (w4) rfl rfl (by kernel_rfl) rfl (zaD rfl rfl hcv) (hS0) ?_;simp only[zq]
 have hA:=H1.out.2.right.alloc (.cells #[.string (zae (zcs c 0))] zfg);have hsA:=H1.out.1.alloc (.cells #[.string (zae (zcs c 0))] zfg);have hS5:(w4.alloc (.cells #[.string (zae (zcs c 0))] zfg)).cell? ⟨B,2,none⟩=some (.int .i64 (sq:Int))∧(w4.alloc (.cells #[.string (zae (zcs c 0))] zfg)).cell? ⟨B,3,none⟩=some (.string (zae im)):=⟨zab hA.right.block 2,zab hA.right.block 3⟩;refine zaV 9 (.slice (some ⟨w4.heap.size,0,none⟩) 1 1) (w4.alloc (.cells #[.string (zae (zcs c 0))] zfg)) rfl rfl (by kernel_rfl) rfl (by go_simp) (hS5) ?_;simp only[zq]
 (apply zaa 10 rfl rfl (by kernel_rfl) rfl);(rintro w' ⟨h1,h2⟩;go_simp;rfl);exact hS5;simp only[zq];refine zar (by kernel_rfl) ?_;have hO:=zqr (T:=zfg) (.string (zae (zcs c 0))) H1.out.2.right;replace H1:=(zd hsA hO);clear hO hA hsA hS0 hS5 hcv hwl;generalize w4.alloc (.cells #[.string (zae (zcs c 0))] zfg)=w5 at H1 ⊢;generalize Value.slice (some ⟨w4.heap.size,0,none⟩) 1 1=v5 at H1 ⊢;obtain⟨ti,hti,hz0,hts,hz2⟩:=info_parts zi4;go_wp2
 go_loopw [3,4] (fun o i wr=>zrE w c B F #[ge,gc,(sq:Int),.string (zae im)] o i wr) (fun _ i _=>im.length+40 - (intOf i).toNat)
 case atStart=>exact⟨0,Nat.zero_le _,rfl,H1.out.1,by rw[zjj];exact H1.out.2⟩
 case round =>
  clear H1;obtain⟨k,hk,rfl,hsm,hs⟩:=hrel.st;clear hrel;have H1:=(zd hsm hs);obtain⟨ao,cap,rfl⟩:=zal hs;clear hsm hs;have b3:=(HCL.out _ _ H1.out.2).2
  by_cases hlt:40*k<im.length
  case pos =>
   have hltd:decide (((40*k:Nat):Int)<(im.length:Int))=true:=decide_eq_true (by omega);have hltn:decide (40*k<im.length)=true:=decide_eq_true hlt;obtain⟨q,hq⟩:∃ q,40*k=q:=⟨_,rfl⟩;have HQ:=zh hq;have HK1:=zh (show k+1≤zaR c by rw[HPN.out];omega);rw[hq] at hltd hltn hlt ⊢
   have hq6:(q:Int)≤2621440:=by omega
   have hq0:0≤(q:Int):=by omega
   have hmin:∃ h:Nat,(h:Int)=min ((q:Int)+40) (im.length:Int)∧q≤h∧h≤im.length∧(zae im).extract q h=zae (zcs c (k+1)):=by
    refine⟨min (q+40) im.length,by omega,by omega,by omega,?_⟩;rw[zdE,HPS.out k,hq];congr 1;unfold zav;rw[List.take_eq_take_iff,List.length_drop];omega
   obtain⟨h,hh1,hh2,hh3,hxs⟩:=hmin
   have hb1:(q:Int)≤(h:Int):=by omega
   have hb2:(h:Int)≤((zae im).size:Int):=by rw[hsz];omega
   have hh1':min ((q:Int)+40) (im.length:Int)=(h:Int):=hh1.symm;have HLT:=zh hlt;clear hh1 hh2 hh3 hlt hq;have HKB:=zh (show k+1+1≤70000 by have:=HPN.out;have:=HIM.out;omega);go_wp2_with (at_builtin;refine zaq (F:=pts B (.cells #[ge,gc,(sq:Int),.string (zae im)] TCk (0,0))*F) rfl _ _ 140 zfg rfl ti _ underlying140 hti hz0 hts hz2 rfl (H1.out.2.allocKeep _) [.string (zae (zcs c (k+1)))] rfl rfl rfl ?_ (by simp[Value.oneCell']) (by have:=HKB.out;unfold maxLen;omega) (by have:=HKB.out;omega) ?_)
   ·intro j u hu
    match j,hu with
    | 0,hu=>rw[Addr.add_mid,zab (heap_alloc_new _ _)];simpa using hu
   intro v6 w6 h6;replace H1:=(zd ((H1.out.1.alloc _).trans h6.out.1) h6.out.2);clear h6;go_wp2;refine⟨⟨k+1,HK1.out,by have:=HQ.out;congr 1;omega,H1.out.1,by rw[zjj];exact H1.out.2⟩,by have:=HLT.out;simp only[intOf];omega⟩
  case neg =>
   have HKE:=zh (show k=zaR c by have:=HPN.out;omega);obtain⟨q,hq⟩:∃ q,40*k=q:=⟨_,rfl⟩;rw[hq] at hlt ⊢;have hltd:decide ((q:Int)<(im.length:Int))=false:=decide_eq_false (by omega);have hltn:decide (q<im.length)=false:=decide_eq_false hlt;clear hlt hq;go_wp2;go_ret;have h:=H1.out.2.perm (show _=pts B (.cells #[ge,gc,(sq:Int),.string (zae im)] TCk (0,0))*(zaf zfg 1 (.slice ao (k+1) cap) (k+1) (zny c (k+1))*F) from by ac_rfl);exact⟨.slice ao (k+1) cap,rfl,H1.out.1,by rw[← HKE.out];exact h.right⟩
end Go.Proofs.YtmcclbiaoeilkaaGreat
end
