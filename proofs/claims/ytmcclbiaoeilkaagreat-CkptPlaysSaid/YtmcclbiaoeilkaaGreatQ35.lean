import Derived.Test.YtmcclbiaoeilkaaGreatQ34
set_option maxHeartbeats 8000000
set_option maxRecDepth 20000
/- Part 35 of a proof;the last part says what is proved. -/
namespace Go.Proofs.YtmcclbiaoeilkaaGreat
open Go.Proofs.Tryz Go.RowKit Go.Sl Go.ChangeMaps
theorem ziZ {b:List UInt8}{n:Int}{u:Nat}(h:zey b=some (n,u)):u≤b.length:=by
 cases b with
 | nil=>cases h
 | cons x r =>
  rw[zfl] at h;split at h
  ·cases h
  split at h
  ·cases h
  split at h
  ·cases h
  split at h
  ·cases h
  injection h with h
  injection h with _ h
  rw[← h,List.length_cons];omega
def zem (p:Nat)(S:zsg)(F:zsi)(r:CkM×Int)(w:World)(e:Ending)(w':World):Prop:=e = .returned (.tuple #[.agg (ckA r.1),r.2])∧Hid (Same w w'∧Sat w' (zad RS p S*F))
theorem zbQ {w:World}{r:Nat}{a0 a1 a2 a3:Value}{X:zsi}(h:Sat w (pts r (.cells #[a0,a1,a2,a3] TCk (0,0))*X))(x y z u:Value):
  Sat ((((w.setCell ⟨r,0,none⟩ x).setCell ⟨r,1,none⟩ y).setCell ⟨r,2,none⟩ z).setCell ⟨r,3,none⟩ u) (pts r (.cells #[x,y,z,u] TCk (0,0))*X):=
 (((h.setCell (i:=0) x).setCell (i:=1) y).setCell (i:=2) z).setCell (i:=3) u
theorem zbh {w w0:World}{r:Nat}(h:Same w0 w)(x y z u:Value):Same w0 ((((w.setCell ⟨r,0,none⟩ x).setCell ⟨r,1,none⟩ y).setCell ⟨r,2,none⟩ z).setCell ⟨r,3,none⟩ u):=(((h.setCell _ _).setCell _ _).setCell _ _).setCell _ _
theorem zeV {S:zsg}{d area i:Int}{g:GenM}{pl:List UInt8}(h:zb5 S d area i=some (g,pl)):pl.length=40:=by
 unfold zb5 zbj at h;split at h
 ·rename_i hc
  injection h with h
  injection h with _ h
  rw[← h];unfold zav;rw[List.length_take,List.length_drop,hc.2.1]
  rfl
 ·cases h
structure zr0 (w:World)(rB gB p:Nat)(S:zsg)(d area ge gc:Int)(N:Nat)(F:zsi)(im i:Value)(wr:World):Prop where
 st:∃ (k:Nat) (a:List UInt8),zeP S d area ⟨ge,gc⟩ k=some a∧40*k<N+40∧im = .string (zae a)∧i = .int .i64 (k:Int)∧Same w wr∧Sat wr (pts rB (.cells #[.int .i64 0,.int .i64 0,.int .i64 0,.string ⟨#[]⟩] TCk (0,0))*(zad RS p S*(pts gB (.cells #[ge,gc] zam (0,0))*F)))
theorem zl3 (p:Nat)(S:zsg)(F:zsi)(d area:Int)(hb:S.state d=0∨(area≠2∧area≠3))(w:World)(hS:Sat w (zad RS p S*F)):
  Calls prog 21 #[.pointer (some ⟨p,0,none⟩),d,area] w (zem p S F (ck0,1) w):=by
 have HST:=zh (fun (W:World) (X:zsi) (h:Sat W (zad RS p S*X))=>zcj p S X d W h)
 have H1:=(zd ((Same.refl w).alloc (.cells #[.int .i64 0,.int .i64 0,.int .i64 0,.string ⟨#[]⟩] TCk)) (hS.alloc (.cells #[.int .i64 0,.int .i64 0,.int .i64 0,.string ⟨#[]⟩] TCk)));clear hS;go_enter func21,ntmps21;go_upto_region 1 with ((with_reducible (refine zai ?_ TCk ?_ _ (zhu _) ?_));rfl;rfl)
 generalize w.alloc (.cells #[.int .i64 0,.int .i64 0,.int .i64 0,.string ⟨#[]⟩] TCk)=w1 at H1 ⊢;generalize w.heap.size=rB at H1 ⊢;obtain⟨⟨r0,r1,r2,r3⟩,⟨f0,f1,f2,f3⟩,rl⟩:=zas H1.out.2;rcases Classical.em (S.state d=0) with h0|h0
 ·have e0:(S.state d==0)=true:=by simp[h0]
  generalize S.state d=st at HST e0;clear hb h0;go_wp2_with (go_at_call 41;refine (HST.out w1 _ H1.out.2.right).mono ?_;rintro e w2 ⟨rfl,rfl⟩);have H2:=(zd (zbh (r:=rB) H1.out.1 (.int .i64 0) (.int .i64 0) (.int .i64 0) (.string ⟨#[]⟩)) (zbQ H1.out.2 (.int .i64 0) (.int .i64 0) (.int .i64 0) (.string ⟨#[]⟩)));refine bodyPost_ret (v:=.tuple #[.agg #[.int .i64 0,.int .i64 0,.int .i64 0,.string ⟨#[]⟩],.int .i64 1]) (zaA results21 (ResIs.row rfl H2.out.2.block underlying44 rfl (zaX rfl)) (.tmp rfl)) rfl ?_
  exact⟨rfl,H2.out.1,H2.out.2.right⟩
 ·have e0:(S.state d==0)=false:=by simp[h0]
  have e2:(area != 2)=true:=bne_iff_ne.2 (hb.resolve_left h0).1;have e3:(area != 3)=true:=bne_iff_ne.2 (hb.resolve_left h0).2;generalize S.state d=st at HST e0;clear hb h0;go_wp2_with (go_at_call 41;refine (HST.out w1 _ H1.out.2.right).mono ?_;rintro e w2 ⟨rfl,rfl⟩);have H2:=(zd (zbh (r:=rB) H1.out.1 (.int .i64 0) (.int .i64 0) (.int .i64 0) (.string ⟨#[]⟩)) (zbQ H1.out.2 (.int .i64 0) (.int .i64 0) (.int .i64 0) (.string ⟨#[]⟩)));refine bodyPost_ret (v:=.tuple #[.agg #[.int .i64 0,.int .i64 0,.int .i64 0,.string ⟨#[]⟩],.int .i64 1]) (zaA results21 (ResIs.row rfl H2.out.2.block underlying44 rfl (zaX rfl)) (.tmp rfl)) rfl ?_
  exact⟨rfl,H2.out.1,H2.out.2.right⟩
theorem zpr (p:Nat)(S:zsg)(F:zsi)(d:Int)(h0:S.state d≠0)(w:World)(hS:Sat w (zad RS p S*F)):
  Calls prog 21 #[.pointer (some ⟨p,0,none⟩),d,.int .i64 2] w (zem p S F (zaS S d 2) w):=by
 have hwf:=zbm hS;have hcf:=hwf.cfg
 have her:(S.read ⟨d,2,0⟩).2=S.access d:=by
  by_cases ha:S.access d=0
  ·rw[zkc hwf (zrv hwf h0 (.inl rfl)) ha,ha]
  ·rw[zqw hwf h0 (.inl rfl) ha]
 have hck:zaS S d 2=if S.access d≠0 then (ck0,S.access d) else match zb5 S d 2 0 with
   | none=>(ck0,12)
   | some (g,q)=>match zdk q (zda S.cfg) with
    | none=>(ck0,12)
    | some (s,n)=>match zeP S d 2 g ((n+39) / 40) with
     | none=>(ck0,12)
     | some a=>(⟨g,s,a.take n⟩,0):=by
  unfold zaS;rw[if_neg (by omega)]
  rfl
 generalize hRR:zaS S d 2=R at hck ⊢;clear hRR;have HCK:=zh hck
 have HST:=zh (fun (W:World) (X:zsi) (h:Sat W (zad RS p S*X))=>zcj p S X d W h)
 have HRD:=zh (show ∀ (W:World) (X:zsi),Sat W (zad RS p S*X)→Calls prog 57 #[.pointer (some ⟨p,0,none⟩),.agg (plA ⟨d,2,0⟩)] W fun e w'=>e = .returned (.tuple #[.string (zae (S.read ⟨d,2,0⟩).1),.int .i64 (S.read ⟨d,2,0⟩).2])∧Hid (Same W w'∧Sat w' (zad RS p S*X)) from fun W X h=>zef p S X ⟨d,2,0⟩ W h)
 rw[her] at HRD
 have HOP:=zh (show ∀ (i:Int) (W:World) (X:zsi),Sat W (zad RS p S*X)→Calls prog 80 #[.pointer (some ⟨p,0,none⟩),.agg (plA ⟨d,2,i⟩)] W fun e w'=>e = .returned (.tuple #[.agg (zcH (opR S d 2 i).1),.string (zae (opR S d 2 i).2.1),.bool (opR S d 2 i).2.2])∧Hid (Same W w'∧Sat w' (zad RS p S*X)) from fun i W X h=>zhR p S X d 2 i W h)
 have HCF:=zh (show ∀ (W:World) (X:zsi),Sat W (zad RS p S*X)→Calls prog 39 #[.pointer (some ⟨p,0,none⟩)] W fun e w'=>e = .returned (.agg (za8 S.cfg))∧Below W.heap.size W w' from fun W X h=>zec p S X W h)
 have HCA:=zh (show ∀ (W:World),Calls prog 23 #[.agg (za8 S.cfg)] W fun e w'=>e = .returned (.int .i64 (zda S.cfg))∧Below W.heap.size W w' from fun W=>zfA S.cfg hcf.image.1 hcf.image.2 W)
 have HMX:=zh (show zda S.cfg≤65536*40 from by have:=hcf.image;unfold zda;omega)
 have e0:(S.state d==0)=false:=by simp[h0]
 have H1:=(zd ((Same.refl w).alloc (.cells #[.int .i64 0,.int .i64 0,.int .i64 0,.string ⟨#[]⟩] TCk)) (hS.alloc (.cells #[.int .i64 0,.int .i64 0,.int .i64 0,.string ⟨#[]⟩] TCk)));generalize S.state d=st at HST e0;clear hS hwf hcf her hck h0;go_enter func21,ntmps21;go_upto_region 1 with ((with_reducible (refine zai ?_ TCk ?_ _ (zhu _) ?_));rfl;rfl)
 generalize w.alloc (.cells #[.int .i64 0,.int .i64 0,.int .i64 0,.string ⟨#[]⟩] TCk)=w1 at H1 ⊢;generalize w.heap.size=rB at H1 ⊢
 have HFIN:=zh (show ∀ (W:World) (r:CkM×Int) (Y:zsi),Same w W→Sat W (pts rB (.cells (ckA r.1) TCk (0,0))*(zad RS p S*Y))→(∀ W',Sat W' (zad RS p S*Y)→Sat W' (zad RS p S*F))→R=r→zem p S F R w (.returned (.tuple #[.agg (ckA r.1),r.2])) W from fun W r Y h1 h2 h3 h4=>by
  subst h4
  exact⟨rfl,h1,h3 W h2.right⟩)
 generalize S.access d=er at HCK HRD;generalize (S.read ⟨d,2,0⟩).1=s0 at HRD
 go_upto_region 4 with (first
  | (go_at_call 41;refine (HST.out w1 _ H1.out.2.right).mono ?_;rintro e w2 ⟨rfl,rfl⟩)
  | (go_at_call 57;refine (HRD.out w1 _ (H1.out.2.perm (show _=zad RS p S*(pts rB (.cells #[.int .i64 0,.int .i64 0,.int .i64 0,.string ⟨#[]⟩] TCk (0,0))*F) from by ac_rfl))).mono ?_;rintro e w2 ⟨rfl,h2⟩;replace H1:=(zd (H1.out.1.trans h2.out.1) (h2.out.2.perm (show _=pts rB (.cells #[.int .i64 0,.int .i64 0,.int .i64 0,.string ⟨#[]⟩] TCk (0,0))*(zad RS p S*F) from by ac_rfl)));clear h2))
 by_cases he:er=0
 case neg =>
  have hne:(er != 0)=true:=bne_iff_ne.2 he;have HR:=zh (show R=(ck0,er) from by rw[HCK.out,if_pos he]);obtain⟨⟨r0,r1,r2,r3⟩,⟨f0,f1,f2,f3⟩,rl⟩:=zas H1.out.2;clear he;go_wp2;have H2:=(zd (zbh (r:=rB) H1.out.1 (.int .i64 0) (.int .i64 0) (.int .i64 0) (.string ⟨#[]⟩)) (zbQ H1.out.2 (.int .i64 0) (.int .i64 0) (.int .i64 0) (.string ⟨#[]⟩)));refine bodyPost_ret (v:=.tuple #[.agg #[.int .i64 0,.int .i64 0,.int .i64 0,.string ⟨#[]⟩],er]) (zaA results21 (ResIs.row rfl H2.out.2.block underlying44 rfl (zaX rfl)) (.tmp rfl)) rfl ?_
  exact HFIN.out _ (ck0,er) _ H2.out.1 H2.out.2 (fun _ h=>h) HR.out
 case pos =>
  subst he;replace HCK:=zh (HCK.out.trans (if_neg (by simp)))
  cases ho:zb5 S d 2 0 with
  | none =>
   have HR:=zh (show R=(ck0,12) from by have h:=HCK.out;rw[ho] at h;exact h)
   have HO:=zh (fun (W:World) (X:zsi) (h:Sat W (zad RS p S*X))=>HOP.out 0 W X h)
   rw[show opR S d 2 0=(g0,[],false) from by unfold opR;rw[ho]] at HO;clear ho;go_upto_region 7 with (go_at_call 80;refine (HO.out w2 _ (H1.out.2.perm (show _=zad RS p S*(pts rB (.cells #[.int .i64 0,.int .i64 0,.int .i64 0,.string ⟨#[]⟩] TCk (0,0))*F) from by ac_rfl))).mono ?_;rintro e w3 ⟨rfl,h2⟩;replace H1:=(zd (H1.out.1.trans h2.out.1) (h2.out.2.perm (show _=pts rB (.cells #[.int .i64 0,.int .i64 0,.int .i64 0,.string ⟨#[]⟩] TCk (0,0))*(zad RS p S*F) from by ac_rfl)));clear h2)
   replace H1:=(zd (H1.out.1.alloc (.cells #[.int .i64 0,.int .i64 0] zam)) (H1.out.2.allocKeep (.cells #[.int .i64 0,.int .i64 0] zam)));change Code.wp _ _ _ _ (w3.alloc (.cells #[.int .i64 0,.int .i64 0] zam));generalize w3.alloc (.cells #[.int .i64 0,.int .i64 0] zam)=w4 at H1 ⊢;obtain⟨⟨r0,r1,r2,r3⟩,⟨f0,f1,f2,f3⟩,rl⟩:=zas H1.out.2;go_wp2;have H2:=(zd (zbh (r:=rB) H1.out.1 (.int .i64 0) (.int .i64 0) (.int .i64 0) (.string ⟨#[]⟩)) (zbQ H1.out.2 (.int .i64 0) (.int .i64 0) (.int .i64 0) (.string ⟨#[]⟩)))
   refine bodyPost_ret (v:=.tuple #[.agg #[.int .i64 0,.int .i64 0,.int .i64 0,.string ⟨#[]⟩],.int .i64 12]) (zaA results21 (ResIs.row rfl H2.out.2.block underlying44 rfl (zaX rfl)) (.tmp rfl)) rfl ?_;exact HFIN.out _ (ck0,12) _ H2.out.1 H2.out.2 (fun _ h=>h) HR.out
  | some gq =>
   obtain⟨⟨ge,gc⟩,pl⟩:=gq;have HL40:=zh (zeV ho)
   have HO:=zh (fun (W:World) (X:zsi) (h:Sat W (zad RS p S*X))=>HOP.out 0 W X h)
   rw[show opR S d 2 0=(⟨ge,gc⟩,pl,true) from by unfold opR;rw[ho]] at HO;have hck:=HCK.out;rw[ho] at hck;replace HCK:=zh hck;clear ho hck;go_upto_region 7 with (go_at_call 80;refine (HO.out w2 _ (H1.out.2.perm (show _=zad RS p S*(pts rB (.cells #[.int .i64 0,.int .i64 0,.int .i64 0,.string ⟨#[]⟩] TCk (0,0))*F) from by ac_rfl))).mono ?_;rintro e w3 ⟨rfl,h2⟩;replace H1:=(zd (H1.out.1.trans h2.out.1) (h2.out.2.perm (show _=pts rB (.cells #[.int .i64 0,.int .i64 0,.int .i64 0,.string ⟨#[]⟩] TCk (0,0))*(zad RS p S*F) from by ac_rfl)));clear h2)
   replace H1:=(zd (H1.out.1.alloc (.cells #[ge,gc] zam)) ((H1.out.2.alloc (.cells #[ge,gc] zam)).perm (show _=pts rB (.cells #[.int .i64 0,.int .i64 0,.int .i64 0,.string ⟨#[]⟩] TCk (0,0))*(zad RS p S*(pts w3.heap.size (.cells #[ge,gc] zam (0,0))*F)) from by ac_rfl)));change Code.wp _ _ _ _ (w3.alloc (.cells #[ge,gc] zam));generalize w3.alloc (.cells #[ge,gc] zam)=w4 at H1 ⊢;generalize w3.heap.size=gB at H1 ⊢;obtain⟨row,fr,cap,hrun,hrow,hcp⟩:=zdi pl w4;have hA5:=H1.out.2.drew.alloc (.cells row zaM fr)
   have hsm5:=H1.out.1.drew.alloc (.cells row zaM fr);rw[show w4.drew.heap.size=w4.heap.size from rfl] at hA5;generalize hw5:w4.drew.alloc (.cells row zaM fr)=w5 at hrun hA5 hsm5;generalize w4.heap.size=bB at hrun hA5
   have hbc:∀ (W:World) (Y:zsi),Sat W (pts bB (.cells row zaM fr)*Y)→BytesC W (.slice (some ⟨bB,0,none⟩) pl.length cap) pl:=fun W Y h=>⟨_,_,rfl,hcp,fun _=>⟨bB,0,rfl,fun j x hx=>by
    rw[Nat.zero_add,zab h.block]
    exact hrow j _ (by rw[zaY,List.getElem?_map,hx];rfl)⟩⟩
   have HGI:=zh (show ∀ (W:World) (Y:zsi),Sat W (pts bB (.cells row zaM fr)*Y)→Calls prog 81 #[.slice (some ⟨bB,0,none⟩) pl.length cap] W (zjN pl (pts bB (.cells row zaM fr)*Y) W) from fun W Y h=>zdy _ pl _ W h (fun W' h'=>hbc W' Y h') (by rw[HL40.out];decide))
   have H5:=(zd hsm5 hA5);clear hA5 hsm5 hrow hcp hbc
   go_upto_region 10 with (first
    | ((with_reducible (refine zaT ?_ (zaD ?_ ?_ hrun) ?_));rfl;rfl;rfl)
    | (go_at_call 81;refine (HGI.out w5 _ H5.out.2).mono ?_;rintro e w6 ⟨q1,u1,e1,rfl,hg1,h6⟩;replace H1:=(zd (H5.out.1.trans h6.out.1) h6.out.2.right);clear h6))
   clear H5 HGI hrun hw5;rcases hg1 with ⟨hg1,hu1,rfl⟩|⟨hg1,rfl,rfl,he1⟩
   case inr =>
    have hne:(e1 != 0)=true:=bne_iff_ne.2 he1;have HR:=zh (show R=(ck0,12) from by have h:=HCK.out;simp only[zdk,hg1] at h;exact h);obtain⟨⟨r0,r1,r2,r3⟩,⟨f0,f1,f2,f3⟩,rl⟩:=zas H1.out.2;clear hg1 he1;go_wp2;have H2:=(zd (zbh (r:=rB) H1.out.1 (.int .i64 0) (.int .i64 0) (.int .i64 0) (.string ⟨#[]⟩)) (zbQ H1.out.2 (.int .i64 0) (.int .i64 0) (.int .i64 0) (.string ⟨#[]⟩)));refine bodyPost_ret (v:=.tuple #[.agg #[.int .i64 0,.int .i64 0,.int .i64 0,.string ⟨#[]⟩],.int .i64 12]) (zaA results21 (ResIs.row rfl H2.out.2.block underlying44 rfl (zaX rfl)) (.tmp rfl)) rfl ?_
    exact HFIN.out _ (ck0,12) _ H2.out.1 H2.out.2 (fun _ h=>(h.perm (show _=pts gB (.cells #[ge,gc] zam (0,0))*(zad RS p S*F) from by ac_rfl)).right) HR.out
   case inl =>
   obtain⟨u,rfl⟩:=Int.eq_ofNat_of_zero_le hu1;rw[Int.toNat_natCast] at hg1;have hul:=ziZ hg1
   by_cases hq1:q1<0
   case pos =>
    have hqd:decide (q1<0)=true:=decide_eq_true hq1
    have HR:=zh (show R=(ck0,12) from by
     have h:=HCK.out
     cases h2:zey (pl.drop u) with
     | none=>simp only[zdk,hg1,h2] at h;exact h
     | some z=>obtain⟨z1,z2⟩:=z;simp only[zdk,hg1,h2,if_neg (show ¬ (0≤q1∧0≤z1∧z1≤zda S.cfg) by omega)] at h;exact h)
    obtain⟨⟨r0,r1,r2,r3⟩,⟨f0,f1,f2,f3⟩,rl⟩:=zas H1.out.2;clear hg1 hq1 hul;go_wp2;have H2:=(zd (zbh (r:=rB) H1.out.1 (.int .i64 0) (.int .i64 0) (.int .i64 0) (.string ⟨#[]⟩)) (zbQ H1.out.2 (.int .i64 0) (.int .i64 0) (.int .i64 0) (.string ⟨#[]⟩)));refine bodyPost_ret (v:=.tuple #[.agg #[.int .i64 0,.int .i64 0,.int .i64 0,.string ⟨#[]⟩],.int .i64 12]) (zaA results21 (ResIs.row rfl H2.out.2.block underlying44 rfl (zaX rfl)) (.tmp rfl)) rfl ?_
    exact HFIN.out _ (ck0,12) _ H2.out.1 H2.out.2 (fun _ h=>(h.perm (show _=pts gB (.cells #[ge,gc] zam (0,0))*(zad RS p S*F) from by ac_rfl)).right) HR.out
   case neg =>
   have hqd:decide (q1<0)=false:=decide_eq_false hq1;have HG1:=(zd hg1 (And.intro hq1 hul));clear hg1 hq1 hul;go_upto_region 12 with (fail)
   obtain⟨row2,fr2,cap2,hrun,hrow,hcp⟩:=zdi (pl.drop u) w6;have hA5:=H1.out.2.drew.alloc (.cells row2 zaM fr2);have hsm5:=H1.out.1.drew.alloc (.cells row2 zaM fr2);rw[show w6.drew.heap.size=w6.heap.size from rfl] at hA5;generalize hw7:w6.drew.alloc (.cells row2 zaM fr2)=w7 at hrun hA5 hsm5;generalize w6.heap.size=cB at hrun hA5
   have hbc:∀ (W:World) (Y:zsi),Sat W (pts cB (.cells row2 zaM fr2)*Y)→BytesC W (.slice (some ⟨cB,0,none⟩) (pl.drop u).length cap2) (pl.drop u):=fun W Y h=>⟨_,_,rfl,hcp,fun _=>⟨cB,0,rfl,fun j x hx=>by
    rw[Nat.zero_add,zab h.block]
    exact hrow j _ (by rw[zaY,List.getElem?_map,hx];rfl)⟩⟩
   have HGI:=zh (show ∀ (W:World) (Y:zsi),Sat W (pts cB (.cells row2 zaM fr2)*Y)→Calls prog 81 #[.slice (some ⟨cB,0,none⟩) (pl.drop u).length cap2] W (zjN (pl.drop u) (pts cB (.cells row2 zaM fr2)*Y) W) from fun W Y h=>zdy _ (pl.drop u) _ W h (fun W' h'=>hbc W' Y h') (by rw[List.length_drop,HL40.out];omega))
   generalize (pl.drop u).length=L2 at hrun HGI;have H5:=(zd hsm5 hA5)
   have hxs:(zae pl).extract u (zae pl).size=zae (pl.drop u):=by
    rw[zdE,zap];congr 1;unfold zav;rw[List.take_of_length_le (by rw[List.length_drop];omega)]
   have hub:(u:Int)≤((zae pl).size:Int):=by rw[zap];have:=HG1.out.2.2;omega
   have hu0:0≤(u:Int):=by omega
   clear hA5 hsm5 hrow hcp hbc
   go_upto_region 13 with (first
    | ((with_reducible (refine zaT ?_ (zaD ?_ ?_ hrun) ?_));rfl;rfl;rfl)
    | (go_at_call 81;refine (HGI.out w7 _ H5.out.2).mono ?_;rintro e w8 ⟨q2,u2,e2,rfl,hg2,h6⟩;replace H1:=(zd (H5.out.1.trans h6.out.1) h6.out.2.right);clear h6))
   generalize zda S.cfg=mx at HCA HMX HCK;have hck:=HCK.out;simp only[zdk,HG1.out.1] at hck;clear HGI hrun hw7 hxs hub hu0 H5 hqd;rcases hg2 with ⟨hg2,hu2,rfl⟩|⟨hg2,rfl,rfl,he2⟩
   case inr =>
    have hne:(e2 != 0)=true:=bne_iff_ne.2 he2;have HR:=zh (show R=(ck0,12) from by rw[hg2] at hck;exact hck);obtain⟨⟨r0,r1,r2,r3⟩,⟨f0,f1,f2,f3⟩,rl⟩:=zas H1.out.2;clear hg2 he2 hck;go_wp2;have H2:=(zd (zbh (r:=rB) H1.out.1 (.int .i64 0) (.int .i64 0) (.int .i64 0) (.string ⟨#[]⟩)) (zbQ H1.out.2 (.int .i64 0) (.int .i64 0) (.int .i64 0) (.string ⟨#[]⟩)));refine bodyPost_ret (v:=.tuple #[.agg #[.int .i64 0,.int .i64 0,.int .i64 0,.string ⟨#[]⟩],.int .i64 12]) (zaA results21 (ResIs.row rfl H2.out.2.block underlying44 rfl (zaX rfl)) (.tmp rfl)) rfl ?_
    exact HFIN.out _ (ck0,12) _ H2.out.1 H2.out.2 (fun _ h=>(h.perm (show _=pts gB (.cells #[ge,gc] zam (0,0))*(zad RS p S*F) from by ac_rfl)).right) HR.out
   case inl =>
   rw[hg2] at hck;simp only at hck;clear hg2
   by_cases hq2:q2<0
   case pos =>
    have hqd:decide (q2<0)=true:=decide_eq_true hq2;have HR:=zh (show R=(ck0,12) from by rw[if_neg (by omega)] at hck;exact hck);obtain⟨⟨r0,r1,r2,r3⟩,⟨f0,f1,f2,f3⟩,rl⟩:=zas H1.out.2;clear hq2 hck;go_wp2;have H2:=(zd (zbh (r:=rB) H1.out.1 (.int .i64 0) (.int .i64 0) (.int .i64 0) (.string ⟨#[]⟩)) (zbQ H1.out.2 (.int .i64 0) (.int .i64 0) (.int .i64 0) (.string ⟨#[]⟩)));refine bodyPost_ret (v:=.tuple #[.agg #[.int .i64 0,.int .i64 0,.int .i64 0,.string ⟨#[]⟩],.int .i64 12]) (zaA results21 (ResIs.row rfl H2.out.2.block underlying44 rfl (zaX rfl)) (.tmp rfl)) rfl ?_
    exact HFIN.out _ (ck0,12) _ H2.out.1 H2.out.2 (fun _ h=>(h.perm (show _=pts gB (.cells #[ge,gc] zam (0,0))*(zad RS p S*F) from by ac_rfl)).right) HR.out
   case neg =>
   have hqd:decide (q2<0)=false:=decide_eq_false hq2
   by_cases hq3:mx<q2
   case pos =>
    have hqd3:decide (mx<q2)=true:=decide_eq_true hq3;have HR:=zh (show R=(ck0,12) from by rw[if_neg (by omega)] at hck;exact hck);obtain⟨⟨r0,r1,r2,r3⟩,⟨f0,f1,f2,f3⟩,rl⟩:=zas H1.out.2;clear hq2 hck hq3
    go_wp2_with (first
     | (go_at_call 39;refine (HCF.out w8 _ (H1.out.2.perm (show _=zad RS p S*(pts rB (.cells #[.int .i64 0,.int .i64 0,.int .i64 0,.string ⟨#[]⟩] TCk (0,0))*(pts gB (.cells #[ge,gc] zam (0,0))*F)) from by ac_rfl))).mono ?_;rintro e w9 ⟨rfl,hb⟩;replace H1:=(zd (H1.out.1.below hb) (H1.out.2.below hb));clear hb)
     | (go_at_call 23;refine (HCA.out w9).mono ?_;rintro e w10 ⟨rfl,hb⟩;replace H1:=(zd (H1.out.1.below hb) (H1.out.2.below hb));clear hb r0 r1 r2 r3 f0 f1 f2 f3 rl;obtain⟨⟨r0,r1,r2,r3⟩,⟨f0,f1,f2,f3⟩,rl⟩:=zas H1.out.2))
    have H2:=(zd (zbh (r:=rB) H1.out.1 (.int .i64 0) (.int .i64 0) (.int .i64 0) (.string ⟨#[]⟩)) (zbQ H1.out.2 (.int .i64 0) (.int .i64 0) (.int .i64 0) (.string ⟨#[]⟩)));refine bodyPost_ret (v:=.tuple #[.agg #[.int .i64 0,.int .i64 0,.int .i64 0,.string ⟨#[]⟩],.int .i64 12]) (zaA results21 (ResIs.row rfl H2.out.2.block underlying44 rfl (zaX rfl)) (.tmp rfl)) rfl ?_
    exact HFIN.out _ (ck0,12) _ H2.out.1 H2.out.2 (fun _ h=>(h.perm (show _=pts gB (.cells #[ge,gc] zam (0,0))*(zad RS p S*F) from by ac_rfl)).right) HR.out
   case neg =>
   have hqd3:decide (mx<q2)=false:=decide_eq_false hq3;rw[if_pos ⟨by have:=HG1.out.2.1;omega,by omega,by omega⟩] at hck;simp only at hck;have HCK2:=zh hck
   have hqm:q2≤2621440:=by have:=HMX.out;omega
   have hq20:0≤q2:=by omega
   clear hck hq3 hq2 HCK HMX;obtain⟨N,rfl⟩:=Int.eq_ofNat_of_zero_le hq20;rw[Int.toNat_natCast] at HCK2;have HNM:=zh hqm;clear hqm hq20;obtain⟨⟨r0,r1,r2,r3⟩,⟨f0,f1,f2,f3⟩,rl⟩:=zas H1.out.2
   go_wp2_with (first
    | (go_at_call 39;refine (HCF.out w8 _ (H1.out.2.perm (show _=zad RS p S*(pts rB (.cells #[.int .i64 0,.int .i64 0,.int .i64 0,.string ⟨#[]⟩] TCk (0,0))*(pts gB (.cells #[ge,gc] zam (0,0))*F)) from by ac_rfl))).mono ?_;rintro e w9 ⟨rfl,hb⟩;replace H1:=(zd (H1.out.1.below hb) (H1.out.2.below hb));clear hb)
    | (go_at_call 23;refine (HCA.out w9).mono ?_;rintro e w10 ⟨rfl,hb⟩;replace H1:=(zd (H1.out.1.below hb) (H1.out.2.below hb));clear hb r0 r1 r2 r3 f0 f1 f2 f3 rl;obtain⟨⟨r0,r1,r2,r3⟩,⟨f0,f1,f2,f3⟩,rl⟩:=zas H1.out.2))
   clear r0 r1 r2 r3 f0 f1 f2 f3 rl
   go_loopw [19,20,21,22,23] (fun im i _ _ _ wq=>zr0 w rB gB p S d 2 ge gc N F im i wq) (fun _ i _ _ _ _=>N+40 - 40*(intOf i).toNat)
   case atStart=>exact⟨0,[],rfl,by omega,rfl,rfl,H1.out.1,H1.out.2⟩
   case round =>
    clear H1;obtain⟨k,a,hik,hkN,rfl,rfl,hsm,hs⟩:=hrel.st;clear hrel;have H1:=(zd hsm hs);clear hsm hs;have HAL:=zh (zfK hik)
    have hk6:(k:Int)≤65540:=by have:=HNM.out;omega
    have hk0:0≤(k:Int):=by omega
    have hw40:IntKind.i64.wrap (40*(k:Int))=40*(k:Int):=IntWalk.i64_in _ (by omega)
    by_cases hlt:40*k<N
    case pos =>
     have hltd:decide (40*(k:Int)<(N:Int))=true:=decide_eq_true (by omega);have HKB:=zh (show k+1≤(N+39) / 40 by omega);have HLT:=zh hlt
     have HNO:=zh (show zeP S d 2 ⟨ge,gc⟩ (k+1)=none→R=(ck0,12) from fun h=>by
      have h2:=zez h ((N+39) / 40 - (k+1));rw[show k+1+((N+39) / 40 - (k+1))=(N+39) / 40 by have:=HKB.out;omega] at h2
      rw[HCK2.out,h2])
     have HIS:=zh (show zeP S d 2 ⟨ge,gc⟩ (k+1)=match zb5 S d 2 ((k:Int)+1) with|none=>none|some (g',q)=>if g'=⟨ge,gc⟩ then some (a++q) else none from by
      show (match zeP S d 2 ⟨ge,gc⟩ k with|none=>_|some a=>_)=_
      rw[hik];rfl)
     have HO:=zh (fun (W:World) (X:zsi) (h:Sat W (zad RS p S*X))=>HOP.out ((k:Int)+1) W X h)
     clear hlt hkN hik
     cases ho:zb5 S d 2 ((k:Int)+1) with
     | none =>
      have HR:=zh (HNO.out (by rw[HIS.out,ho]));rw[show opR S d 2 ((k:Int)+1)=(g0,[],false) from by unfold opR;rw[ho]] at HO;clear ho;go_upto_region 20 with (go_at_call 80;refine (HO.out wr _ (H1.out.2.perm (show _=zad RS p S*(pts rB (.cells #[.int .i64 0,.int .i64 0,.int .i64 0,.string ⟨#[]⟩] TCk (0,0))*(pts gB (.cells #[ge,gc] zam (0,0))*F)) from by ac_rfl))).mono ?_;rintro e w12 ⟨rfl,h2⟩;replace H1:=(zd (H1.out.1.trans h2.out.1) (h2.out.2.perm (show _=pts rB (.cells #[.int .i64 0,.int .i64 0,.int .i64 0,.string ⟨#[]⟩] TCk (0,0))*(zad RS p S*(pts gB (.cells #[ge,gc] zam (0,0))*F)) from by ac_rfl)));clear h2)
      replace H1:=(zd (H1.out.1.alloc (.cells #[.int .i64 0,.int .i64 0] zam)) ((H1.out.2.alloc (.cells #[.int .i64 0,.int .i64 0] zam)).perm (show _=pts rB (.cells #[.int .i64 0,.int .i64 0,.int .i64 0,.string ⟨#[]⟩] TCk (0,0))*(zad RS p S*(pts gB (.cells #[ge,gc] zam (0,0))*(pts w12.heap.size (.cells #[.int .i64 0,.int .i64 0] zam (0,0))*F))) from by ac_rfl)));change Code.wp _ _ _ _ (w12.alloc (.cells #[.int .i64 0,.int .i64 0] zam));generalize w12.alloc (.cells #[.int .i64 0,.int .i64 0] zam)=w13 at H1 ⊢
      generalize w12.heap.size=hB at H1 ⊢;obtain⟨⟨r0,r1,r2,r3⟩,⟨f0,f1,f2,f3⟩,rl⟩:=zas H1.out.2;have g0':=zab H1.out.2.right.right.block 0;have g1':=zab H1.out.2.right.right.block 1;have k0':=zab H1.out.2.right.right.right.block 0;have k1':=zab H1.out.2.right.right.right.block 1;go_wp2;have H2:=(zd (zbh (r:=rB) H1.out.1 (.int .i64 0) (.int .i64 0) (.int .i64 0) (.string ⟨#[]⟩)) (zbQ H1.out.2 (.int .i64 0) (.int .i64 0) (.int .i64 0) (.string ⟨#[]⟩)));refine bodyPost_ret (v:=.tuple #[.agg #[.int .i64 0,.int .i64 0,.int .i64 0,.string ⟨#[]⟩],.int .i64 12]) (zaA results21 (ResIs.row rfl H2.out.2.block underlying44 rfl (zaX rfl)) (.tmp rfl)) rfl ?_
      exact HFIN.out _ (ck0,12) _ H2.out.1 H2.out.2 (fun _ h=>(h.perm (show _=(pts gB (.cells #[ge,gc] zam (0,0))*pts hB (.cells #[.int .i64 0,.int .i64 0] zam (0,0)))*(zad RS p S*F) from by ac_rfl)).right) HR.out
     | some gq =>
      obtain⟨⟨ge2,gc2⟩,q⟩:=gq;have HQL:=zh (zeV ho);rw[show opR S d 2 ((k:Int)+1)=(⟨ge2,gc2⟩,q,true) from by unfold opR;rw[ho]] at HO;replace HIS:=zh (show zeP S d 2 ⟨ge,gc⟩ (k+1)=if (⟨ge2,gc2⟩:GenM)=⟨ge,gc⟩ then some (a++q) else none from by rw[HIS.out,ho]);clear ho
      by_cases hge:(⟨ge2,gc2⟩:GenM)=⟨ge,gc⟩
      case neg =>
       have HR:=zh (HNO.out (by rw[HIS.out,if_neg hge]))
       have hne:(ge2==ge&&gc2==gc)=false:=by
        rw[Bool.eq_false_iff];intro hh;simp only[Bool.and_eq_true,beq_iff_eq] at hh;obtain⟨rfl,rfl⟩:=hh;exact hge rfl
       clear hge;go_upto_region 20 with (go_at_call 80;refine (HO.out wr _ (H1.out.2.perm (show _=zad RS p S*(pts rB (.cells #[.int .i64 0,.int .i64 0,.int .i64 0,.string ⟨#[]⟩] TCk (0,0))*(pts gB (.cells #[ge,gc] zam (0,0))*F)) from by ac_rfl))).mono ?_;rintro e w12 ⟨rfl,h2⟩;replace H1:=(zd (H1.out.1.trans h2.out.1) (h2.out.2.perm (show _=pts rB (.cells #[.int .i64 0,.int .i64 0,.int .i64 0,.string ⟨#[]⟩] TCk (0,0))*(zad RS p S*(pts gB (.cells #[ge,gc] zam (0,0))*F)) from by ac_rfl)));clear h2)
       replace H1:=(zd (H1.out.1.alloc (.cells #[ge2,gc2] zam)) ((H1.out.2.alloc (.cells #[ge2,gc2] zam)).perm (show _=pts rB (.cells #[.int .i64 0,.int .i64 0,.int .i64 0,.string ⟨#[]⟩] TCk (0,0))*(zad RS p S*(pts gB (.cells #[ge,gc] zam (0,0))*(pts w12.heap.size (.cells #[ge2,gc2] zam (0,0))*F))) from by ac_rfl)));change Code.wp _ _ _ _ (w12.alloc (.cells #[ge2,gc2] zam));generalize w12.alloc (.cells #[ge2,gc2] zam)=w13 at H1 ⊢;generalize w12.heap.size=hB at H1 ⊢;obtain⟨⟨r0,r1,r2,r3⟩,⟨f0,f1,f2,f3⟩,rl⟩:=zas H1.out.2
       have g0':=zab H1.out.2.right.right.block 0;have g1':=zab H1.out.2.right.right.block 1;have k0':=zab H1.out.2.right.right.right.block 0;have k1':=zab H1.out.2.right.right.right.block 1;cases z1:(ge2==ge)
       ·go_wp2
        have H2:=(zd (zbh (r:=rB) H1.out.1 (.int .i64 0) (.int .i64 0) (.int .i64 0) (.string ⟨#[]⟩)) (zbQ H1.out.2 (.int .i64 0) (.int .i64 0) (.int .i64 0) (.string ⟨#[]⟩)));refine bodyPost_ret (v:=.tuple #[.agg #[.int .i64 0,.int .i64 0,.int .i64 0,.string ⟨#[]⟩],.int .i64 12]) (zaA results21 (ResIs.row rfl H2.out.2.block underlying44 rfl (zaX rfl)) (.tmp rfl)) rfl ?_
        exact HFIN.out _ (ck0,12) _ H2.out.1 H2.out.2 (fun _ h=>(h.perm (show _=(pts gB (.cells #[ge,gc] zam (0,0))*pts hB (.cells #[ge2,gc2] zam (0,0)))*(zad RS p S*F) from by ac_rfl)).right) HR.out
       ·have z2:(gc2==gc)=false:=by rw[z1] at hne;simpa using hne
        go_wp2;have H2:=(zd (zbh (r:=rB) H1.out.1 (.int .i64 0) (.int .i64 0) (.int .i64 0) (.string ⟨#[]⟩)) (zbQ H1.out.2 (.int .i64 0) (.int .i64 0) (.int .i64 0) (.string ⟨#[]⟩)));refine bodyPost_ret (v:=.tuple #[.agg #[.int .i64 0,.int .i64 0,.int .i64 0,.string ⟨#[]⟩],.int .i64 12]) (zaA results21 (ResIs.row rfl H2.out.2.block underlying44 rfl (zaX rfl)) (.tmp rfl)) rfl ?_
        exact HFIN.out _ (ck0,12) _ H2.out.1 H2.out.2 (fun _ h=>(h.perm (show _=(pts gB (.cells #[ge,gc] zam (0,0))*pts hB (.cells #[ge2,gc2] zam (0,0)))*(zad RS p S*F) from by ac_rfl)).right) HR.out
      case pos =>
       injection hge with hg1 hg2
       rw[hg1,hg2] at HO HIS;clear hg1 hg2;replace HIS:=zh (HIS.out.trans (if_pos rfl));have HES:=zh (zf9 a q)
       have hnl:¬ 9223372036854775807<(zae a).size+(zae q).size:=by rw[zap,zap,HAL.out,HQL.out];omega
       go_upto_region 20 with (go_at_call 80;refine (HO.out wr _ (H1.out.2.perm (show _=zad RS p S*(pts rB (.cells #[.int .i64 0,.int .i64 0,.int .i64 0,.string ⟨#[]⟩] TCk (0,0))*(pts gB (.cells #[ge,gc] zam (0,0))*F)) from by ac_rfl))).mono ?_;rintro e w12 ⟨rfl,h2⟩;replace H1:=(zd (H1.out.1.trans h2.out.1) (h2.out.2.perm (show _=pts rB (.cells #[.int .i64 0,.int .i64 0,.int .i64 0,.string ⟨#[]⟩] TCk (0,0))*(zad RS p S*(pts gB (.cells #[ge,gc] zam (0,0))*F)) from by ac_rfl)));clear h2)
       replace H1:=(zd (H1.out.1.alloc (.cells #[ge,gc] zam)) ((H1.out.2.alloc (.cells #[ge,gc] zam)).perm (show _=pts rB (.cells #[.int .i64 0,.int .i64 0,.int .i64 0,.string ⟨#[]⟩] TCk (0,0))*(zad RS p S*(pts gB (.cells #[ge,gc] zam (0,0))*(pts w12.heap.size (.cells #[ge,gc] zam (0,0))*F))) from by ac_rfl)));change Code.wp _ _ _ _ (w12.alloc (.cells #[ge,gc] zam));generalize w12.alloc (.cells #[ge,gc] zam)=w13 at H1 ⊢;generalize w12.heap.size=hB at H1 ⊢;obtain⟨⟨r0,r1,r2,r3⟩,⟨f0,f1,f2,f3⟩,rl⟩:=zas H1.out.2
       have g0':=zab H1.out.2.right.right.block 0;have g1':=zab H1.out.2.right.right.block 1;have k0':=zab H1.out.2.right.right.right.block 0;have k1':=zab H1.out.2.right.right.right.block 1;go_wp2;rw[HES.out];refine⟨⟨k+1,a++q,HIS.out,by have:=HKB.out;omega,rfl,rfl,H1.out.1,(H1.out.2.perm (show _=pts hB (.cells #[ge,gc] zam (0,0))*(pts rB (.cells #[.int .i64 0,.int .i64 0,.int .i64 0,.string ⟨#[]⟩] TCk (0,0))*(zad RS p S*(pts gB (.cells #[ge,gc] zam (0,0))*F))) from by ac_rfl)).right⟩,by have:=HLT.out;simp only[intOf];omega⟩
    case neg =>
     have hltd:decide (40*(k:Int)<(N:Int))=false:=decide_eq_false (by omega);have HRF:=zh (show R=(⟨⟨ge,gc⟩,q1,a.take N⟩,0) from by rw[HCK2.out,show (N+39) / 40=k by omega,hik]);have HNA:=zh (show N≤a.length from by rw[HAL.out];omega);clear hlt hik hkN;go_upto_region 23 with (fail)
     replace H1:=(zd H1.out.1.drew H1.out.2.drew)
     have HGC:=zh (show ∀ (W:World) (X Y:zsi),Sat W (X*(Y*(pts gB (.cells #[ge,gc] zam (0,0))*F)))→W.cell? ⟨gB,0,none⟩=some (.int .i64 ge)∧W.cell? ⟨gB,1,none⟩=some (.int .i64 gc) from fun W X Y h=>⟨zab h.right.right.block 0,zab h.right.right.block 1⟩)
     have hS0:=HGC.out _ _ _ H1.out.2;refine zah (fun w'=>w'.cell? ⟨gB,0,none⟩=some (.int .i64 ge)∧w'.cell? ⟨gB,1,none⟩=some (.int .i64 gc)) (by kernel_rfl) ?_;(apply zaa 0 rfl rfl (by kernel_rfl) rfl);(rintro w' ⟨h1,h2⟩;go_simp;rfl);exact hS0;simp only[zq];(apply zaa 1 rfl rfl (by kernel_rfl) rfl);(rintro w' ⟨h1,h2⟩;go_simp;rfl);exact hS0;simp only[zq];(apply zaa 2 rfl rfl (by kernel_rfl) rfl);(rintro w' ⟨h1,h2⟩;go_simp;rfl);exact hS0;simp only[zq];(apply zaa 3 rfl rfl (by kernel_rfl) rfl);(rintro w' ⟨h1,h2⟩;go_simp;rfl);exact hS0;simp only[zq]
     refine zaa 4 (v:=.string (zae (a.take N))) rfl rfl (by kernel_rfl) rfl (fun w' _=>zcO (j:=N) rfl underlying9 rfl rfl HNA.out) hS0 ?_;simp only[zq];(apply zaa 5 rfl rfl (by kernel_rfl) rfl);(rintro w' ⟨h1,h2⟩;go_simp;rfl);exact hS0;simp only[zq];refine zbG 6 (T:=TCk) (old:=#[.int .i64 0,.int .i64 0,.int .i64 0,.string ⟨#[]⟩]) (new:=#[.int .i64 ge,.int .i64 gc,.int .i64 q1,.string (zae (a.take N))]) rfl rfl (by kernel_rfl) rfl rfl rfl rfl H1.out.2 (zaX rfl) rfl (by simp[Value.oneCell']) ?_;intro w14 h14
     replace H1:=(zt H1 h14);replace hS0:=HGC.out _ _ _ H1.out.2;refine⟨hS0,?_⟩;clear h14;(apply zaa 7 rfl rfl (by kernel_rfl) rfl);(intro w' _;go_simp;rfl);exact hS0;simp only[zq];refine zar (by kernel_rfl) ?_;clear hS0;go_wp2;refine bodyPost_ret (v:=.tuple #[.agg #[ge,gc,q1,.string (zae (a.take N))],.int .i64 0]) (zaA results21 (ResIs.row rfl H1.out.2.block underlying44 rfl (zaX rfl)) (.tmp rfl)) rfl ?_
     exact HFIN.out _ (⟨⟨ge,gc⟩,q1,a.take N⟩,0) _ H1.out.1 H1.out.2 (fun _ h=>(h.perm (show _=pts gB (.cells #[ge,gc] zam (0,0))*(zad RS p S*F) from by ac_rfl)).right) HRF.out
end Go.Proofs.YtmcclbiaoeilkaaGreat
