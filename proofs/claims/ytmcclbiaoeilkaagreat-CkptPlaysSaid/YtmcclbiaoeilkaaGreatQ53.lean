import Derived.Test.YtmcclbiaoeilkaaGreatQ51
import Derived.Test.YtmcclbiaoeilkaaGreatQ52
set_option maxHeartbeats 8000000
set_option maxRecDepth 100000
/- Part 53. -/
section
namespace Go.Proofs.YtmcclbiaoeilkaaGreat
open Go.Proofs.Tryz Go.RowKit Go.Sl Go.ChangeMaps
def zc9 (p:Nat)(Z:zsg×ResM)(F:zsi)(w:World)(e:Ending)(w':World):Prop:=e = .returned (.agg (zeo Z.2))∧Same w w'∧∃ X,Sat w' (zad RS p Z.1*(X*F))
theorem zqC {p:Nat}{S:zsg}{F:zsi}{w:World}(a:zsj){s:List UInt8}{k:Int}(hS:Sat w (zad RS p S*F))(h:S.read a=(s,k)):
  Calls prog 57 #[.pointer (some ⟨p,0,none⟩),.agg (plA a)] w fun e w'=>e = .returned (.tuple #[.string (zae s),k])∧Hid (Same w w'∧Sat w' (zad RS p S*F)):=by
 refine (zef p S F a w hS).mono fun e w' h'=>?_
 rw[h] at h';exact h'
theorem zpw {p:Nat}{S S':zsg}{F:zsi}{w:World}{k:Int}(a:zsj)(s:List UInt8)(hS:Sat w (zad RS p S*F))(h1:(S.write a s).1=S')(h2:(S.write a s).2=k):
  Calls prog 56 #[.pointer (some ⟨p,0,none⟩),.agg (plA a),.string (zae s)] w fun e w'=>e = .returned (.int .i64 k)∧Hid (Same w w'∧Sat w' (zad RS p S'*F)):=by
 subst h1 h2;exact zgl p S F a s w hS
theorem znI (p:Nat)(S:zsg)(F:zsi)(o:OpN)(pv:Value)(w:World)(hS:Sat w (zad RS p S*F))(hpk:∀ w',Sat w' F→IntsC w' pv o.picks)(hpl:o.picks.length≤9223372036854775807)(hil:S.images.length≤1000000)(hn:o.n<9223372036854775808):
  Calls prog 13 #[.pointer (some ⟨p,0,none⟩),.agg (opN o pv)] w (zc9 p (doN S o) F w):=by
 have HS:=zh (show Sat w (zad RS p S*(emp*F)) by rw[zaL];exact hS);have HPK:=zh hpk;clear hS hpk;obtain⟨Z,hdm⟩:∃ Z,doN S o=Z:=⟨_,rfl⟩;rw[hdm];have HDM:=zh hdm;clear hdm;go_enter func13,ntmps13;go_upto_region 2 with (fail)
 have hs0:=(((HS.out).alloc (.cells (opN o pv) TOp)).alloc (.cells #[.string ⟨#[]⟩,.int .i64 0,.int .i64 0] zb2)).alloc (.cells #[.string ⟨#[]⟩,.int .i64 0,.int .i64 0] zb2);have hsm0:=(((Same.refl w).alloc (.cells (opN o pv) TOp)).alloc (.cells #[.string ⟨#[]⟩,.int .i64 0,.int .i64 0] zb2)).alloc (.cells #[.string ⟨#[]⟩,.int .i64 0,.int .i64 0] zb2);simp only[World.size_alloc] at hs0;generalize ((w.alloc (.cells (opN o pv) TOp)).alloc (.cells #[.string ⟨#[]⟩,.int .i64 0,.int .i64 0] zb2)).alloc (.cells #[.string ⟨#[]⟩,.int .i64 0,.int .i64 0] zb2)=w1 at hs0 hsm0 ⊢
 have hne:w.heap.size+1≠w.heap.size+1+1:=by omega
 generalize w.heap.size+1+1=B5 at hs0 hne ⊢;generalize w.heap.size+1=B4 at hs0 hne ⊢;generalize w.heap.size=B at hs0 ⊢;obtain⟨⟨k0,k1,k2,k3⟩,⟨k4,k5,k6,k7⟩,k10,kra⟩:=zgw hs0.right.right;have H1:=(zd hsm0 (hs0.perm (show _=zad RS p S*(pts B5 (.cells #[.string ⟨#[]⟩,.int .i64 0,.int .i64 0] zb2 (0,0))*(pts B4 (.cells #[.string ⟨#[]⟩,.int .i64 0,.int .i64 0] zb2 (0,0))*(pts B (.cells (opN o pv) TOp (0,0))*(emp*F)))) from by ac_rfl)));obtain⟨⟨x0,x1,x2⟩,⟨y0,y1,y2⟩,xl⟩:=zaP hs0;obtain⟨⟨u0,u1,u2⟩,⟨v0,v1,v2⟩,ul⟩:=zaP hs0.right
 clear hs0 hsm0
 have fin:∀ (w2 w3:World) (S':zsg) (r:ResM) (X:zsi),Hid (Same w1 w2∧Sat w2 (zad RS p S'*(pts B5 (.cells #[.string ⟨#[]⟩,.int .i64 0,.int .i64 0] zb2 (0,0))*(pts B4 (.cells #[.string ⟨#[]⟩,.int .i64 0,.int .i64 0] zb2 (0,0))*(pts B (.cells (opN o pv) TOp (0,0))*(X*F)))))) →
   (∀ (Y:zsi),Sat w2 (pts B5 (.cells #[.string ⟨#[]⟩,.int .i64 0,.int .i64 0] zb2 (0,0))*(pts B4 (.cells #[.string ⟨#[]⟩,.int .i64 0,.int .i64 0] zb2 (0,0))*Y))→Same w2 w3∧Sat w3 (pts B5 (.cells (zeo r) zb2 (0,0))*(pts B4 (.cells (zeo r) zb2 (0,0))*Y)))→Z=(S',r)→Same w w3∧∃ X,Sat w3 (zad RS p Z.1*(X*F)):=by
  rintro w2 w3 S' r X h h3 rfl;obtain⟨a,b⟩:=h3 (pts B (.cells (opN o pv) TOp (0,0))*(zad RS p S'*(X*F))) (h.out.2.perm (by ac_rfl));exact⟨(H1.out.1.trans h.out.1).trans a,X,b.right.right.right⟩
 have FIN:=zh fin;clear fin;have HDM:=HDM.out;unfold doN at HDM;generalize hkd:o.kind=kd at k0 HDM;clear hkd
 by_cases q3:kd=3
 ·subst q3
  have hz:Z=((S.flush o.at_.disk).1,⟨[],0,(S.flush o.at_.disk).2⟩):=by rw[← HDM];simp
  obtain⟨⟨S2,e2⟩,hop⟩:∃ r,S.flush o.at_.disk=r:=⟨_,rfl⟩;have hc:=zeC p S _ o.at_.disk w1 H1.out.2;rw[hop] at hz hc;simp only at hz hc;have HZ:=zh hz;clear hz HDM hop;go_wp2_with (go_at_call 58;refine hc.mono ?_;rintro e w2 ⟨rfl,h2⟩;clear hc;have hs9:=h2.out.2.perm (show _=pts B5 (.cells #[.string ⟨#[]⟩,.int .i64 0,.int .i64 0] zb2 (0,0))*(pts B4 (.cells #[.string ⟨#[]⟩,.int .i64 0,.int .i64 0] zb2 (0,0))*(zad RS p (S2)*(pts B (.cells (opN o pv) TOp (0,0))*(emp*F)))) from by ac_rfl);clear x0 x1 x2 y0 y1 y2 xl u0 u1 u2 v0 v1 v2 ul;obtain⟨⟨x0,x1,x2⟩,⟨y0,y1,y2⟩,xl⟩:=zaP hs9;obtain⟨⟨u0,u1,u2⟩,⟨v0,v1,v2⟩,ul⟩:=zaP hs9.right;have HS9:=zh hs9;clear hs9)
  have hblk:=(zbL (r:=⟨[],0,e2⟩) (zbV 2 (.int .i64 e2) HS9.out rfl)).right.block;refine bodyPost_ret (v:=.agg (zeo ⟨[],0,e2⟩)) (results_cell_row results13 _ _ B4 zb2 (zeo ⟨[],0,e2⟩) (0,0) _ rfl hblk underlying52 rfl (zcJ _)) rfl ?_;unfold zc9
  exact⟨by rw[HZ.out],FIN.out w2 _ (S2) ⟨[],0,e2⟩ emp h2 (fun Y h=>⟨(((((Same.refl w2).setCell _ _).setCell _ _).setCell _ _).setCell _ _),zbL (r:=⟨[],0,e2⟩) (zbV 2 (.int .i64 e2) h rfl)⟩) HZ.out⟩
 by_cases q4:kd=4
 ·subst q4
  have hz:Z=((S.flushAll).1,⟨[],0,(S.flushAll).2⟩):=by rw[← HDM];simp
  obtain⟨⟨S2,e2⟩,hop⟩:∃ r,S.flushAll=r:=⟨_,rfl⟩;have hc:=zio p S _ w1 H1.out.2;rw[hop] at hz hc;simp only at hz hc;have HZ:=zh hz;clear hz HDM hop;go_wp2_with (go_at_call 59;refine hc.mono ?_;rintro e w2 ⟨rfl,h2⟩;clear hc;have hs9:=h2.out.2.perm (show _=pts B5 (.cells #[.string ⟨#[]⟩,.int .i64 0,.int .i64 0] zb2 (0,0))*(pts B4 (.cells #[.string ⟨#[]⟩,.int .i64 0,.int .i64 0] zb2 (0,0))*(zad RS p (S2)*(pts B (.cells (opN o pv) TOp (0,0))*(emp*F)))) from by ac_rfl);clear x0 x1 x2 y0 y1 y2 xl u0 u1 u2 v0 v1 v2 ul;obtain⟨⟨x0,x1,x2⟩,⟨y0,y1,y2⟩,xl⟩:=zaP hs9;obtain⟨⟨u0,u1,u2⟩,⟨v0,v1,v2⟩,ul⟩:=zaP hs9.right;have HS9:=zh hs9;clear hs9)
  have hblk:=(zbL (r:=⟨[],0,e2⟩) (zbV 2 (.int .i64 e2) HS9.out rfl)).right.block;refine bodyPost_ret (v:=.agg (zeo ⟨[],0,e2⟩)) (results_cell_row results13 _ _ B4 zb2 (zeo ⟨[],0,e2⟩) (0,0) _ rfl hblk underlying52 rfl (zcJ _)) rfl ?_;unfold zc9
  exact⟨by rw[HZ.out],FIN.out w2 _ (S2) ⟨[],0,e2⟩ emp h2 (fun Y h=>⟨(((((Same.refl w2).setCell _ _).setCell _ _).setCell _ _).setCell _ _),zbL (r:=⟨[],0,e2⟩) (zbV 2 (.int .i64 e2) h rfl)⟩) HZ.out⟩
 by_cases q7:kd=7
 ·subst q7
  have hz:Z=((S.kill o.at_.disk).1,⟨[],0,(S.kill o.at_.disk).2⟩):=by rw[← HDM];simp
  obtain⟨⟨S2,e2⟩,hop⟩:∃ r,S.kill o.at_.disk=r:=⟨_,rfl⟩;have hc:=znL p S _ o.at_.disk w1 H1.out.2;rw[hop] at hz hc;simp only at hz hc;have HZ:=zh hz;clear hz HDM hop;go_wp2_with (go_at_call 62;refine hc.mono ?_;rintro e w2 ⟨rfl,h2⟩;clear hc;have hs9:=h2.out.2.perm (show _=pts B5 (.cells #[.string ⟨#[]⟩,.int .i64 0,.int .i64 0] zb2 (0,0))*(pts B4 (.cells #[.string ⟨#[]⟩,.int .i64 0,.int .i64 0] zb2 (0,0))*(zad RS p (S2)*(pts B (.cells (opN o pv) TOp (0,0))*(emp*F)))) from by ac_rfl);clear x0 x1 x2 y0 y1 y2 xl u0 u1 u2 v0 v1 v2 ul;obtain⟨⟨x0,x1,x2⟩,⟨y0,y1,y2⟩,xl⟩:=zaP hs9;obtain⟨⟨u0,u1,u2⟩,⟨v0,v1,v2⟩,ul⟩:=zaP hs9.right;have HS9:=zh hs9;clear hs9)
  have hblk:=(zbL (r:=⟨[],0,e2⟩) (zbV 2 (.int .i64 e2) HS9.out rfl)).right.block;refine bodyPost_ret (v:=.agg (zeo ⟨[],0,e2⟩)) (results_cell_row results13 _ _ B4 zb2 (zeo ⟨[],0,e2⟩) (0,0) _ rfl hblk underlying52 rfl (zcJ _)) rfl ?_;unfold zc9
  exact⟨by rw[HZ.out],FIN.out w2 _ (S2) ⟨[],0,e2⟩ emp h2 (fun Y h=>⟨(((((Same.refl w2).setCell _ _).setCell _ _).setCell _ _).setCell _ _),zbL (r:=⟨[],0,e2⟩) (zbV 2 (.int .i64 e2) h rfl)⟩) HZ.out⟩
 by_cases q9:kd=9
 ·subst q9
  have hz:Z=((S.insert o.at_.disk o.n).1,⟨[],0,(S.insert o.at_.disk o.n).2⟩):=by rw[← HDM];simp
  obtain⟨⟨S2,e2⟩,hop⟩:∃ r,S.insert o.at_.disk o.n=r:=⟨_,rfl⟩;have hc:=zkh p S _ o.at_.disk o.n w1 H1.out.2;rw[hop] at hz hc;simp only at hz hc;have HZ:=zh hz;clear hz HDM hop
  go_wp2_with (go_at_call 64;refine hc.mono ?_;rintro e w2 ⟨rfl,h2'⟩;obtain⟨hsm2,X,hx2⟩:=h2'.out;have h2:=zh (show Same w1 w2∧Sat w2 (zad RS p S2*(pts B5 (.cells #[.string ⟨#[]⟩,.int .i64 0,.int .i64 0] zb2 (0,0))*(pts B4 (.cells #[.string ⟨#[]⟩,.int .i64 0,.int .i64 0] zb2 (0,0))*(pts B (.cells (opN o pv) TOp (0,0))*(X*F))))) from⟨hsm2,hx2.perm (by rw[zaL];ac_rfl)⟩);clear h2' hsm2 hx2;clear hc;have hs9:=h2.out.2.perm (show _=pts B5 (.cells #[.string ⟨#[]⟩,.int .i64 0,.int .i64 0] zb2 (0,0))*(pts B4 (.cells #[.string ⟨#[]⟩,.int .i64 0,.int .i64 0] zb2 (0,0))*(zad RS p (S2)*(pts B (.cells (opN o pv) TOp (0,0))*(X*F)))) from by ac_rfl);clear x0 x1 x2 y0 y1 y2 xl u0 u1 u2 v0 v1 v2 ul;obtain⟨⟨x0,x1,x2⟩,⟨y0,y1,y2⟩,xl⟩:=zaP hs9;obtain⟨⟨u0,u1,u2⟩,⟨v0,v1,v2⟩,ul⟩:=zaP hs9.right;have HS9:=zh hs9;clear hs9)
  have hblk:=(zbL (r:=⟨[],0,e2⟩) (zbV 2 (.int .i64 e2) HS9.out rfl)).right.block;refine bodyPost_ret (v:=.agg (zeo ⟨[],0,e2⟩)) (results_cell_row results13 _ _ B4 zb2 (zeo ⟨[],0,e2⟩) (0,0) _ rfl hblk underlying52 rfl (zcJ _)) rfl ?_;unfold zc9
  exact⟨by rw[HZ.out],FIN.out w2 _ (S2) ⟨[],0,e2⟩ X h2 (fun Y h=>⟨(((((Same.refl w2).setCell _ _).setCell _ _).setCell _ _).setCell _ _),zbL (r:=⟨[],0,e2⟩) (zbV 2 (.int .i64 e2) h rfl)⟩) HZ.out⟩
 by_cases q10:kd=10
 ·subst q10
  have hz:Z=((S.replace o.at_.disk).1,⟨[],0,(S.replace o.at_.disk).2⟩):=by rw[← HDM];simp
  obtain⟨⟨S2,e2⟩,hop⟩:∃ r,S.replace o.at_.disk=r:=⟨_,rfl⟩;have hc:=zjp p S _ o.at_.disk w1 H1.out.2;rw[hop] at hz hc;simp only at hz hc;have HZ:=zh hz;clear hz HDM hop
  go_wp2_with (go_at_call 65;refine hc.mono ?_;rintro e w2 ⟨rfl,h2'⟩;obtain⟨hsm2,X,hx2⟩:=h2'.out;have h2:=zh (show Same w1 w2∧Sat w2 (zad RS p S2*(pts B5 (.cells #[.string ⟨#[]⟩,.int .i64 0,.int .i64 0] zb2 (0,0))*(pts B4 (.cells #[.string ⟨#[]⟩,.int .i64 0,.int .i64 0] zb2 (0,0))*(pts B (.cells (opN o pv) TOp (0,0))*(X*F))))) from⟨hsm2,hx2.perm (by rw[zaL];ac_rfl)⟩);clear h2' hsm2 hx2;clear hc;have hs9:=h2.out.2.perm (show _=pts B5 (.cells #[.string ⟨#[]⟩,.int .i64 0,.int .i64 0] zb2 (0,0))*(pts B4 (.cells #[.string ⟨#[]⟩,.int .i64 0,.int .i64 0] zb2 (0,0))*(zad RS p (S2)*(pts B (.cells (opN o pv) TOp (0,0))*(X*F)))) from by ac_rfl);clear x0 x1 x2 y0 y1 y2 xl u0 u1 u2 v0 v1 v2 ul;obtain⟨⟨x0,x1,x2⟩,⟨y0,y1,y2⟩,xl⟩:=zaP hs9;obtain⟨⟨u0,u1,u2⟩,⟨v0,v1,v2⟩,ul⟩:=zaP hs9.right;have HS9:=zh hs9;clear hs9)
  have hblk:=(zbL (r:=⟨[],0,e2⟩) (zbV 2 (.int .i64 e2) HS9.out rfl)).right.block;refine bodyPost_ret (v:=.agg (zeo ⟨[],0,e2⟩)) (results_cell_row results13 _ _ B4 zb2 (zeo ⟨[],0,e2⟩) (0,0) _ rfl hblk underlying52 rfl (zcJ _)) rfl ?_;unfold zc9
  exact⟨by rw[HZ.out],FIN.out w2 _ (S2) ⟨[],0,e2⟩ X h2 (fun Y h=>⟨(((((Same.refl w2).setCell _ _).setCell _ _).setCell _ _).setCell _ _),zbL (r:=⟨[],0,e2⟩) (zbV 2 (.int .i64 e2) h rfl)⟩) HZ.out⟩
 by_cases q11:kd=11
 ·subst q11
  have hz:Z=((S.rot o.at_ o.n).1,⟨[],0,(S.rot o.at_ o.n).2⟩):=by rw[← HDM];simp
  obtain⟨⟨S2,e2⟩,hop⟩:∃ r,S.rot o.at_ o.n=r:=⟨_,rfl⟩;have hc:=zma p S _ o.at_ o.n w1 H1.out.2;rw[hop] at hz hc;simp only at hz hc;have HZ:=zh hz;clear hz HDM hop;go_wp2_with (go_at_call 66;refine hc.mono ?_;rintro e w2 ⟨rfl,h2⟩;clear hc;have hs9:=h2.out.2.perm (show _=pts B5 (.cells #[.string ⟨#[]⟩,.int .i64 0,.int .i64 0] zb2 (0,0))*(pts B4 (.cells #[.string ⟨#[]⟩,.int .i64 0,.int .i64 0] zb2 (0,0))*(zad RS p (S2)*(pts B (.cells (opN o pv) TOp (0,0))*(emp*F)))) from by ac_rfl);clear x0 x1 x2 y0 y1 y2 xl u0 u1 u2 v0 v1 v2 ul;obtain⟨⟨x0,x1,x2⟩,⟨y0,y1,y2⟩,xl⟩:=zaP hs9;obtain⟨⟨u0,u1,u2⟩,⟨v0,v1,v2⟩,ul⟩:=zaP hs9.right;have HS9:=zh hs9;clear hs9)
  have hblk:=(zbL (r:=⟨[],0,e2⟩) (zbV 2 (.int .i64 e2) HS9.out rfl)).right.block;refine bodyPost_ret (v:=.agg (zeo ⟨[],0,e2⟩)) (results_cell_row results13 _ _ B4 zb2 (zeo ⟨[],0,e2⟩) (0,0) _ rfl hblk underlying52 rfl (zcJ _)) rfl ?_;unfold zc9
  exact⟨by rw[HZ.out],FIN.out w2 _ (S2) ⟨[],0,e2⟩ emp h2 (fun Y h=>⟨(((((Same.refl w2).setCell _ _).setCell _ _).setCell _ _).setCell _ _),zbL (r:=⟨[],0,e2⟩) (zbV 2 (.int .i64 e2) h rfl)⟩) HZ.out⟩
 by_cases q12:kd=12
 ·subst q12
  have hz:Z=((S.lose o.at_).1,⟨[],0,(S.lose o.at_).2⟩):=by rw[← HDM];simp
  obtain⟨⟨S2,e2⟩,hop⟩:∃ r,S.lose o.at_=r:=⟨_,rfl⟩;have hc:=zki p S _ o.at_ w1 H1.out.2;rw[hop] at hz hc;simp only at hz hc;have HZ:=zh hz;clear hz HDM hop;go_wp2_with (go_at_call 67;refine hc.mono ?_;rintro e w2 ⟨rfl,h2⟩;clear hc;have hs9:=h2.out.2.perm (show _=pts B5 (.cells #[.string ⟨#[]⟩,.int .i64 0,.int .i64 0] zb2 (0,0))*(pts B4 (.cells #[.string ⟨#[]⟩,.int .i64 0,.int .i64 0] zb2 (0,0))*(zad RS p (S2)*(pts B (.cells (opN o pv) TOp (0,0))*(emp*F)))) from by ac_rfl);clear x0 x1 x2 y0 y1 y2 xl u0 u1 u2 v0 v1 v2 ul;obtain⟨⟨x0,x1,x2⟩,⟨y0,y1,y2⟩,xl⟩:=zaP hs9;obtain⟨⟨u0,u1,u2⟩,⟨v0,v1,v2⟩,ul⟩:=zaP hs9.right;have HS9:=zh hs9;clear hs9)
  have hblk:=(zbL (r:=⟨[],0,e2⟩) (zbV 2 (.int .i64 e2) HS9.out rfl)).right.block;refine bodyPost_ret (v:=.agg (zeo ⟨[],0,e2⟩)) (results_cell_row results13 _ _ B4 zb2 (zeo ⟨[],0,e2⟩) (0,0) _ rfl hblk underlying52 rfl (zcJ _)) rfl ?_;unfold zc9
  exact⟨by rw[HZ.out],FIN.out w2 _ (S2) ⟨[],0,e2⟩ emp h2 (fun Y h=>⟨(((((Same.refl w2).setCell _ _).setCell _ _).setCell _ _).setCell _ _),zbL (r:=⟨[],0,e2⟩) (zbV 2 (.int .i64 e2) h rfl)⟩) HZ.out⟩
 by_cases q13:kd=13
 ·subst q13
  have hz:Z=((S.misdirect o.at_ o.dst).1,⟨[],0,(S.misdirect o.at_ o.dst).2⟩):=by rw[← HDM];simp
  obtain⟨⟨S2,e2⟩,hop⟩:∃ r,S.misdirect o.at_ o.dst=r:=⟨_,rfl⟩;have hc:=zgs p S _ o.at_ o.dst w1 H1.out.2;rw[hop] at hz hc;simp only at hz hc;have HZ:=zh hz;clear hz HDM hop;go_wp2_with (go_at_call 68;refine hc.mono ?_;rintro e w2 ⟨rfl,h2⟩;clear hc;have hs9:=h2.out.2.perm (show _=pts B5 (.cells #[.string ⟨#[]⟩,.int .i64 0,.int .i64 0] zb2 (0,0))*(pts B4 (.cells #[.string ⟨#[]⟩,.int .i64 0,.int .i64 0] zb2 (0,0))*(zad RS p (S2)*(pts B (.cells (opN o pv) TOp (0,0))*(emp*F)))) from by ac_rfl);clear x0 x1 x2 y0 y1 y2 xl u0 u1 u2 v0 v1 v2 ul;obtain⟨⟨x0,x1,x2⟩,⟨y0,y1,y2⟩,xl⟩:=zaP hs9;obtain⟨⟨u0,u1,u2⟩,⟨v0,v1,v2⟩,ul⟩:=zaP hs9.right;have HS9:=zh hs9;clear hs9)
  have hblk:=(zbL (r:=⟨[],0,e2⟩) (zbV 2 (.int .i64 e2) HS9.out rfl)).right.block;refine bodyPost_ret (v:=.agg (zeo ⟨[],0,e2⟩)) (results_cell_row results13 _ _ B4 zb2 (zeo ⟨[],0,e2⟩) (0,0) _ rfl hblk underlying52 rfl (zcJ _)) rfl ?_;unfold zc9
  exact⟨by rw[HZ.out],FIN.out w2 _ (S2) ⟨[],0,e2⟩ emp h2 (fun Y h=>⟨(((((Same.refl w2).setCell _ _).setCell _ _).setCell _ _).setCell _ _),zbL (r:=⟨[],0,e2⟩) (zbV 2 (.int .i64 e2) h rfl)⟩) HZ.out⟩
 by_cases q5:kd=5
 ·subst q5
  have hz:Z=(S.fuse o.n,⟨[],0,0⟩):=by rw[← HDM];simp
  have hc:=znK p S _ o.n hn w1 H1.out.2;have HZ:=zh hz;clear hz HDM;go_wp2_with (go_at_call 60;refine hc.mono ?_;rintro e w2 ⟨rfl,h2⟩;clear hc;have hs9:=h2.out.2.perm (show _=pts B5 (.cells #[.string ⟨#[]⟩,.int .i64 0,.int .i64 0] zb2 (0,0))*(pts B4 (.cells #[.string ⟨#[]⟩,.int .i64 0,.int .i64 0] zb2 (0,0))*(zad RS p (S.fuse o.n)*(pts B (.cells (opN o pv) TOp (0,0))*(emp*F)))) from by ac_rfl);clear x0 x1 x2 y0 y1 y2 xl u0 u1 u2 v0 v1 v2 ul;obtain⟨⟨x0,x1,x2⟩,⟨y0,y1,y2⟩,xl⟩:=zaP hs9;obtain⟨⟨u0,u1,u2⟩,⟨v0,v1,v2⟩,ul⟩:=zaP hs9.right;have HS9:=zh hs9;clear hs9)
  have hblk:=(zbL (r:=⟨[],0,0⟩) (HS9.out)).right.block;refine bodyPost_ret (v:=.agg (zeo ⟨[],0,0⟩)) (results_cell_row results13 _ _ B4 zb2 (zeo ⟨[],0,0⟩) (0,0) _ rfl hblk underlying52 rfl (zcJ _)) rfl ?_;unfold zc9
  exact⟨by rw[HZ.out],FIN.out w2 _ (S.fuse o.n) ⟨[],0,0⟩ emp h2 (fun Y h=>⟨((((Same.refl w2).setCell _ _).setCell _ _).setCell _ _),zbL (r:=⟨[],0,0⟩) (h)⟩) HZ.out⟩
 by_cases q6:kd=6
 ·subst q6
  have hz:Z=(S.mount o.picks,⟨[],0,0⟩):=by rw[← HDM];simp
  have hc:=zl8 p S _ pv o.picks w1 H1.out.2 (fun w' h=>HPK.out w' h.right.right.right.right) hpl;have HZ:=zh hz;clear hz HDM;go_wp2_with (go_at_call 61;refine hc.mono ?_;rintro e w2 ⟨rfl,h2⟩;clear hc;have hs9:=h2.out.2.perm (show _=pts B5 (.cells #[.string ⟨#[]⟩,.int .i64 0,.int .i64 0] zb2 (0,0))*(pts B4 (.cells #[.string ⟨#[]⟩,.int .i64 0,.int .i64 0] zb2 (0,0))*(zad RS p (S.mount o.picks)*(pts B (.cells (opN o pv) TOp (0,0))*(emp*F)))) from by ac_rfl);clear x0 x1 x2 y0 y1 y2 xl u0 u1 u2 v0 v1 v2 ul;obtain⟨⟨x0,x1,x2⟩,⟨y0,y1,y2⟩,xl⟩:=zaP hs9;obtain⟨⟨u0,u1,u2⟩,⟨v0,v1,v2⟩,ul⟩:=zaP hs9.right;have HS9:=zh hs9;clear hs9)
  have hblk:=(zbL (r:=⟨[],0,0⟩) (HS9.out)).right.block;refine bodyPost_ret (v:=.agg (zeo ⟨[],0,0⟩)) (results_cell_row results13 _ _ B4 zb2 (zeo ⟨[],0,0⟩) (0,0) _ rfl hblk underlying52 rfl (zcJ _)) rfl ?_;unfold zc9
  exact⟨by rw[HZ.out],FIN.out w2 _ (S.mount o.picks) ⟨[],0,0⟩ emp h2 (fun Y h=>⟨((((Same.refl w2).setCell _ _).setCell _ _).setCell _ _),zbL (r:=⟨[],0,0⟩) (h)⟩) HZ.out⟩
 by_cases q2:kd=2
 ·subst q2
  have hz:Z=(S,⟨(S.read o.at_).1,0,(S.read o.at_).2⟩):=by rw[← HDM];simp
  obtain⟨⟨t2,e2⟩,hop⟩:∃ r,S.read o.at_=r:=⟨_,rfl⟩;have hc:=zqC o.at_ H1.out.2 hop;rw[hop] at hz;simp only at hz;have HZ:=zh hz;clear hz HDM hop;go_wp2_with (go_at_call 57;refine hc.mono ?_;rintro e w2 ⟨rfl,h2⟩;clear hc;have hs9:=h2.out.2.perm (show _=pts B5 (.cells #[.string ⟨#[]⟩,.int .i64 0,.int .i64 0] zb2 (0,0))*(pts B4 (.cells #[.string ⟨#[]⟩,.int .i64 0,.int .i64 0] zb2 (0,0))*(zad RS p (S)*(pts B (.cells (opN o pv) TOp (0,0))*(emp*F)))) from by ac_rfl);clear x0 x1 x2 y0 y1 y2 xl u0 u1 u2 v0 v1 v2 ul;obtain⟨⟨x0,x1,x2⟩,⟨y0,y1,y2⟩,xl⟩:=zaP hs9;obtain⟨⟨u0,u1,u2⟩,⟨v0,v1,v2⟩,ul⟩:=zaP hs9.right;have HS9:=zh hs9;clear hs9)
  have hblk:=(zbL (r:=⟨t2,0,e2⟩) (zbV 2 (.int .i64 e2) (zbV 0 (.string (zae t2)) HS9.out rfl) rfl)).right.block;refine bodyPost_ret (v:=.agg (zeo ⟨t2,0,e2⟩)) (results_cell_row results13 _ _ B4 zb2 (zeo ⟨t2,0,e2⟩) (0,0) _ rfl hblk underlying52 rfl (zcJ _)) rfl ?_;unfold zc9
  exact⟨by rw[HZ.out],FIN.out w2 _ (S) ⟨t2,0,e2⟩ emp h2 (fun Y h=>⟨((((((Same.refl w2).setCell _ _).setCell _ _).setCell _ _).setCell _ _).setCell _ _),zbL (r:=⟨t2,0,e2⟩) (zbV 2 (.int .i64 e2) (zbV 0 (.string (zae t2)) h rfl) rfl)⟩) HZ.out⟩
 by_cases q8:kd=8
 ·subst q8
  have hz:Z=((S.remove o.at_.disk).1,⟨[],(S.remove o.at_.disk).2.1,(S.remove o.at_.disk).2.2⟩):=by rw[← HDM];simp
  have hc:=zkj p S _ o.at_.disk w1 H1.out.2 hil;obtain⟨⟨S2,n2,e2⟩,hop⟩:∃ r,S.remove o.at_.disk=r:=⟨_,rfl⟩;rw[hop] at hz hc;simp only at hz hc;have HZ:=zh hz;clear hz HDM hop;go_wp2_with (go_at_call 63;refine hc.mono ?_;rintro e w2 ⟨rfl,h2⟩;clear hc;have hs9:=h2.out.2.perm (show _=pts B5 (.cells #[.string ⟨#[]⟩,.int .i64 0,.int .i64 0] zb2 (0,0))*(pts B4 (.cells #[.string ⟨#[]⟩,.int .i64 0,.int .i64 0] zb2 (0,0))*(zad RS p (S2)*(pts B (.cells (opN o pv) TOp (0,0))*(emp*F)))) from by ac_rfl);clear x0 x1 x2 y0 y1 y2 xl u0 u1 u2 v0 v1 v2 ul;obtain⟨⟨x0,x1,x2⟩,⟨y0,y1,y2⟩,xl⟩:=zaP hs9;obtain⟨⟨u0,u1,u2⟩,⟨v0,v1,v2⟩,ul⟩:=zaP hs9.right;have HS9:=zh hs9;clear hs9)
  have hblk:=(zbL (r:=⟨[],n2,e2⟩) (zbV 2 (.int .i64 e2) (zbV 1 (.int .i64 n2) HS9.out rfl) rfl)).right.block;refine bodyPost_ret (v:=.agg (zeo ⟨[],n2,e2⟩)) (results_cell_row results13 _ _ B4 zb2 (zeo ⟨[],n2,e2⟩) (0,0) _ rfl hblk underlying52 rfl (zcJ _)) rfl ?_;unfold zc9
  exact⟨by rw[HZ.out],FIN.out w2 _ (S2) ⟨[],n2,e2⟩ emp h2 (fun Y h=>⟨((((((Same.refl w2).setCell _ _).setCell _ _).setCell _ _).setCell _ _).setCell _ _),zbL (r:=⟨[],n2,e2⟩) (zbV 2 (.int .i64 e2) (zbV 1 (.int .i64 n2) h rfl) rfl)⟩) HZ.out⟩
 by_cases q1:kd=1
 ·subst q1
  have hz:Z=((S.write o.at_ o.text).1,⟨[],0,(S.write o.at_ o.text).2⟩):=by rw[← HDM];simp
  obtain⟨⟨S2,e2⟩,hop⟩:∃ r,S.write o.at_ o.text=r:=⟨_,rfl⟩;rw[hop] at hz;simp only at hz;have HZ:=zh hz;have HOP:=zh hop;clear hz HDM hop;go_upto_region 4 with (fail)
  have hS0:(w1.drew.cell? ⟨B,1,none⟩=some (.int .i64 o.at_.disk)∧w1.drew.cell? ⟨B,2,none⟩=some (.int .i64 o.at_.area)∧w1.drew.cell? ⟨B,3,none⟩=some (.int .i64 o.at_.index))∧w1.drew.rangeAt B 0 (opN o pv).toList:=⟨⟨k1,k2,k3⟩,kra⟩
  refine zah (fun w'=>(w'.cell? ⟨B,1,none⟩=some (.int .i64 o.at_.disk)∧w'.cell? ⟨B,2,none⟩=some (.int .i64 o.at_.area)∧w'.cell? ⟨B,3,none⟩=some (.int .i64 o.at_.index))∧w'.rangeAt B 0 (opN o pv).toList) (by kernel_rfl) ?_
  (apply zaa 0 rfl rfl (by kernel_rfl) rfl);(rintro w' ⟨⟨h1,h2,h3⟩,h4⟩;go_simp;rfl);exact hS0;simp only[zq];(apply zaa 1 rfl rfl (by kernel_rfl) rfl);(rintro w' ⟨⟨h1,h2,h3⟩,h4⟩;go_simp;rfl);exact hS0;simp only[zq];(apply zaa 2 rfl rfl (by kernel_rfl) rfl);(rintro w' ⟨⟨h1,h2,h3⟩,h4⟩;go_simp;rfl);exact hS0;simp only[zq]
  refine zaa 3 (v:=.agg (opN o pv)) rfl rfl (by kernel_rfl) rfl (fun w' h=>zbC rfl rfl (run_loadAt_mid w' B 0 TOp (opN o pv).toList _ h.2 underlying40 rfl (by rw[zj0 o pv];rfl))) hS0 ?_;simp only[zq]
  refine zan 4 rfl rfl (by kernel_rfl) rfl (f:=44) (args:=#[.agg (opN o pv)]) (R:=fun v w'=>v = .string (zae o.text)∧Hid (Below w1.heap.size w1 w')) (by kernel_rfl) ((zli o pv w1.drew).mono fun e w' h=>⟨_,h.1,rfl,⟨h.2.out.os,h.2.out.tape,h.2.out.output,h.2.out.size,h.2.out.block⟩⟩) ?_;rintro _ wt ⟨rfl,hbt⟩;have HT:=zh (H1.out.2.below hbt.out)
  have hcs:∀ (w':World) (Sx:zsg),Sat w' (zad RS p Sx*(pts B5 (.cells #[.string ⟨#[]⟩,.int .i64 0,.int .i64 0] zb2 (0,0))*(pts B4 (.cells #[.string ⟨#[]⟩,.int .i64 0,.int .i64 0] zb2 (0,0))*(pts B (.cells (opN o pv) TOp (0,0))*(emp*F)))))→(w'.cell? ⟨B,1,none⟩=some (.int .i64 o.at_.disk)∧w'.cell? ⟨B,2,none⟩=some (.int .i64 o.at_.area)∧w'.cell? ⟨B,3,none⟩=some (.int .i64 o.at_.index))∧w'.rangeAt B 0 (opN o pv).toList:=by
   intro w' Sx h;obtain⟨⟨j0,j1,j2,j3⟩,_,_,jr⟩:=zgw h.right.right.right;exact⟨⟨j1,j2,j3⟩,jr⟩
  have hS1:=hcs wt S HT.out;refine⟨hS1,?_⟩;simp only[zq]
  refine zan 5 rfl rfl (by kernel_rfl) rfl (f:=56) (args:=#[.pointer (some ⟨p,0,none⟩),.agg (plA o.at_),.string (zae o.text)]) (R:=fun v w'=>v = .int .i64 e2∧Hid (Same w1 w'∧Sat w' (zad RS p S2*(pts B5 (.cells #[.string ⟨#[]⟩,.int .i64 0,.int .i64 0] zb2 (0,0))*(pts B4 (.cells #[.string ⟨#[]⟩,.int .i64 0,.int .i64 0] zb2 (0,0))*(pts B (.cells (opN o pv) TOp (0,0))*(emp*F))))))) (by kernel_rfl)
   ((zpw o.at_ o.text HT.out (by rw[HOP.out]) (by rw[HOP.out])).mono fun e w' h=>⟨_,h.1,rfl,((Same.refl w1).below hbt.out).trans h.2.out.1,h.2.out.2⟩) ?_
  rintro _ w2 ⟨rfl,h2⟩;have hS2:=hcs w2 S2 h2.out.2;refine⟨hS2,?_⟩;simp only[zq];(apply zaa 6 rfl rfl (by kernel_rfl) rfl);(rintro w' ⟨⟨h1,h2,h3⟩,h4⟩;go_simp;rfl);exact hS2;simp only[zq];have hs9:=h2.out.2.perm (show _=pts B5 (.cells #[.string ⟨#[]⟩,.int .i64 0,.int .i64 0] zb2 (0,0))*(pts B4 (.cells #[.string ⟨#[]⟩,.int .i64 0,.int .i64 0] zb2 (0,0))*(zad RS p (S2)*(pts B (.cells (opN o pv) TOp (0,0))*(emp*F)))) from by ac_rfl);clear x0 x1 x2 y0 y1 y2 xl u0 u1 u2 v0 v1 v2 ul;obtain⟨⟨x0,x1,x2⟩,⟨y0,y1,y2⟩,xl⟩:=zaP hs9;obtain⟨⟨u0,u1,u2⟩,⟨v0,v1,v2⟩,ul⟩:=zaP hs9.right;have HS9:=zh hs9;clear hs9
  obtain⟨ie,hie,hie2⟩:=Option.map_eq_some_iff.1 (show (prog.info? 28).map (·.size)=some 1 by kernel_rfl);refine zat 7 (w2.setCell ⟨B5,2,none⟩ (.int .i64 e2)) rfl rfl (by kernel_rfl) rfl (zay rfl rfl rfl hie hie2 rfl x2 y2) ?_;go_wp2;have hblk:=(zbL (r:=⟨[],0,e2⟩) (zbV 2 (.int .i64 e2) HS9.out rfl)).right.block;refine bodyPost_ret (v:=.agg (zeo ⟨[],0,e2⟩)) (results_cell_row results13 _ _ B4 zb2 (zeo ⟨[],0,e2⟩) (0,0) _ rfl hblk underlying52 rfl (zcJ _)) rfl ?_;unfold zc9
  exact⟨by rw[HZ.out],FIN.out w2 _ (S2) ⟨[],0,e2⟩ emp h2 (fun Y h=>⟨(((((Same.refl w2).setCell _ _).setCell _ _).setCell _ _).setCell _ _),zbL (r:=⟨[],0,e2⟩) (zbV 2 (.int .i64 e2) h rfl)⟩) HZ.out⟩
 have hz:Z=(S,⟨[],0,0⟩):=by rw[← HDM];simp[q1,q2,q3,q4,q5,q6,q7,q8,q9,q10,q11,q12,q13]
 have r1:(kd==1)=false:=by simpa using q1
 have r2:(kd==2)=false:=by simpa using q2
 have r3:(kd==3)=false:=by simpa using q3
 have r4:(kd==4)=false:=by simpa using q4
 have r5:(kd==5)=false:=by simpa using q5
 have r6:(kd==6)=false:=by simpa using q6
 have r7:(kd==7)=false:=by simpa using q7
 have r8:(kd==8)=false:=by simpa using q8
 have r9:(kd==9)=false:=by simpa using q9
 have r10:(kd==10)=false:=by simpa using q10
 have r11:(kd==11)=false:=by simpa using q11
 have r12:(kd==12)=false:=by simpa using q12
 have r13:(kd==13)=false:=by simpa using q13
 clear q1 q2 q3 q4 q5 q6 q7 q8 q9 q10 q11 q12 q13 HDM;have HZ:=zh hz;clear hz;go_wp2;have h2:=(zd (Same.refl w1) H1.out.2);have HS9:=zh (H1.out.2.perm (show _=pts B5 (.cells #[.string ⟨#[]⟩,.int .i64 0,.int .i64 0] zb2 (0,0))*(pts B4 (.cells #[.string ⟨#[]⟩,.int .i64 0,.int .i64 0] zb2 (0,0))*(zad RS p S*(pts B (.cells (opN o pv) TOp (0,0))*(emp*F)))) from by ac_rfl));have hblk:=(zbL (r:=⟨[],0,0⟩) (HS9.out)).right.block;refine bodyPost_ret (v:=.agg (zeo ⟨[],0,0⟩)) (results_cell_row results13 _ _ B4 zb2 (zeo ⟨[],0,0⟩) (0,0) _ rfl hblk underlying52 rfl (zcJ _)) rfl ?_
 unfold zc9
 exact⟨by rw[HZ.out],FIN.out w1 _ (S) ⟨[],0,0⟩ emp h2 (fun Y h=>⟨((((Same.refl w1).setCell _ _).setCell _ _).setCell _ _),zbL (r:=⟨[],0,0⟩) (h)⟩) HZ.out⟩
theorem zqt {S:zsg}(h:S.WF){a:zsj}(h0:0≤S.number a)(h1:S.state a.disk=1):S.peek a=(((S.disk a.disk).read (S.number a)).1,true):=by
 have hl:=(zsg.number_lt h h0).2.2.2.2.2.2;have hn:=zsg.disk_n h h1;unfold zsg.peek;rw[if_neg (by omega),if_pos h1]
 have hr:((S.disk a.disk).read (S.number a)).2=0:=by
  unfold zsh.read
  have hh:(S.disk a.disk).has (S.number a)=true:=by unfold zsh.has;rw[decide_eq_true h0,decide_eq_true (by omega)];rfl
  rw[if_pos hh]
 rw[hr];rfl
theorem znO (p:Nat)(S:zsg)(F:zsi)(a:zsj)(w:World)(hS:Sat w (zad RS p S*F)):
  Calls prog 17 #[.pointer (some ⟨p,0,none⟩),.agg (plA a)] w fun e w'=>e = .returned (.tuple #[.string (zae (S.peek a).1),.bool (S.peek a).2])∧Hid (Below w.heap.size w w'):=by
 have hwf:=zbm hS;have HWF:=zh hwf;have hA:=hS.alloc (.cells (plA a) TPl);have HA:=zh (show Below w.heap.size w (w.alloc (.cells (plA a) TPl))∧Sat (w.alloc (.cells (plA a) TPl)) (zad RS p S*(pts w.heap.size (.cells (plA a) TPl (0,0))*F)) from⟨(Below.refl _ _).alloc (Nat.le_refl _) _,hA.perm (by ac_rfl)⟩);obtain⟨pk,hpk⟩:∃ pk,Hid (S.peek a=pk):=⟨_,zh rfl⟩;obtain⟨nu,hnu⟩:∃ nu,Hid (S.number a=nu):=⟨_,zh rfl⟩;obtain⟨nm,hnm⟩:∃ nm,Hid (zeU S a=nm):=⟨_,zh rfl⟩;obtain⟨nb,hnb⟩:∃ nb,Hid (decide (0≤nu)=nb):=⟨_,zh rfl⟩
 rw[hpk.out];clear hS hA hwf;go_enter func17,ntmps17;go_upto_region 1 with (fail)
 unfold plA at HA;generalize hw1:w.alloc _=W1 at HA ⊢;clear hw1;generalize hBB:w.heap.size=B at HA ⊢;have HBB:=zh (show B≤W1.heap.size from by rw[← hBB];exact HA.out.1.size);have HBQ:=zh hBB;clear hBB;have hbx:=(HA.out.2.perm (show _=pts B (.cells #[a.disk,a.area,a.index] TPl (0,0))*(zad RS p S*F) from by ac_rfl));have b0:W1.cell? ⟨B,0,none⟩=some (.int .i64 a.disk):=zab hbx.block 0;have b1:W1.cell? ⟨B,1,none⟩=some (.int .i64 a.area):=zab hbx.block 1;have b2:W1.cell? ⟨B,2,none⟩=some (.int .i64 a.index):=zab hbx.block 2
 clear hbx;go_upto_region 2 with (go_at_call 74;refine (zcx p S _ a W1 HA.out.2).mono ?_;rintro e w2 ⟨rfl,hb⟩;rw[hnu.out,hnm.out,hnb.out];replace HA:=(zd (HA.out.1.trans (hb.mono HBB.out)) (HA.out.2.below hb));clear hb b0 b1 b2)
 have hbx:=(HA.out.2.perm (show _=pts B (.cells #[a.disk,a.area,a.index] TPl (0,0))*(zad RS p S*F) from by ac_rfl));have b0:w2.cell? ⟨B,0,none⟩=some (.int .i64 a.disk):=zab hbx.block 0;clear hbx
 by_cases k0:0≤nu
 case neg =>
  obtain rfl:nb=false:=by rw[← hnb.out];exact decide_eq_false k0
  obtain rfl:pk=([],false):=by rw[← hpk.out];unfold zsg.peek;rw[hnu.out,if_pos (by omega)]
  clear k0
  go_quiet (fail)
  go_wp2;go_ret2;exact⟨rfl,by rw[HBQ.out];exact zbx HA.out.1 _⟩
 obtain rfl:nb=true:=by rw[← hnb.out];exact decide_eq_true k0
 have hlt:=zsg.number_lt HWF.out (a:=a) (by rw[hnu.out];exact k0);obtain⟨hd0,hd1⟩:=zsg.state_in HWF.out hlt.1;obtain⟨k,hk⟩:=Int.eq_ofNat_of_zero_le hd0;rw[hk] at b0;obtain⟨g,capb,gs,caps,q,R,⟨c6,c7⟩,⟨cq,cs⟩,hq⟩:=zdo HA.out.2 (k:=k) (by omega);have HQ:=zh hq
 have hki:(k:Int)<(S.bays.length:Int):=by omega
 have hk0:(0:Int)≤(k:Int):=by omega
 obtain⟨len,hlen⟩:∃ len,S.bays.length=len:=⟨_,rfl⟩;rw[hlen] at c6 c7 hki;obtain⟨st,hst⟩:∃ st,Hid (S.state k=st):=⟨_,zh rfl⟩;rw[hst.out] at cs;have HK:=zh hk;clear hlt hd0 hd1 hk hq hlen
 by_cases k1:st=1
 case neg =>
  obtain rfl:pk=([],false):=by rw[← hpk.out];unfold zsg.peek;rw[hnu.out,if_neg (by omega),HK.out,if_neg (by rw[hst.out];exact k1)]
  have k1':(st != 1)=true:=by simp[k1]
  clear k0 k1
  go_quiet (fail)
  go_wp2;go_ret2;exact⟨rfl,by rw[HBQ.out];exact zbx HA.out.1 _⟩
 subst k1;have hpe:=zqt HWF.out (a:=a) (by rw[hnu.out];exact k0) (by rw[HK.out];exact hst.out);rw[hpk.out,hnu.out,HK.out] at hpe;subst hpe
 have hnn:nm=nu:=by rw[← hnm.out];unfold zeU;rw[hnu.out,if_neg (by omega)]
 subst hnn;have HRD:=zh (fun n=>zjo q (S.disk k) R nm (w2.drewN n) (HQ.out.drewN n));clear k0
 go_quiet (fail)
 go_upto_region 4 with (fail)
 go_quiet ((go_at_call 75;exact (HRD.out _).mono fun e w' h=>⟨h.1,_,h.2.symm⟩))
 go_wp2;go_ret2;exact⟨rfl,by rw[HBQ.out];exact zbx HA.out.1 _⟩
theorem znE {T:TypeId}{w:World}{ao:Option Addr}{n cap:Nat}{L:List zsj}{F:zsi}(hn:L.length=n)(h:Sat w (zaf T 3 (.slice ao n cap) n (zjL L)*F)){i:Nat}{a:zsj}(hx:L[i]?=some a):∃ g:Nat,ao=some ⟨g,0,none⟩∧
  w.cell? ⟨g,i*3,none⟩=some (.int .i64 a.disk)∧w.cell? ⟨g,i*3+1,none⟩=some (.int .i64 a.area)∧w.cell? ⟨g,i*3+2,none⟩=some (.int .i64 a.index):=by
 obtain⟨g,cap',e,hc⟩:=zbd h (by have:=(List.getElem?_eq_some_iff.1 hx).1;omega);simp only[Value.slice.injEq] at e;have k:=zid (fun a:zsj=>(plA a).toList) 3 (fun _=>rfl) L i a hx;refine⟨g,e.1,?_,hc _ _ (k 1 _ rfl),hc _ _ (k 2 _ rfl)⟩;have:=hc _ _ (k 0 _ rfl)
 rwa [Nat.add_zero] at this
theorem zpE {c:zsl}(h:zhZ c=true)(hok:c.ok=true):c.sectors≤65536∧c.disks≤6∧∀ j,j<4→szN c j≤24:=by
 have hs:=zk9 hok;unfold zhZ at h;simp only[Bool.and_eq_true,decide_eq_true_eq] at h;obtain⟨⟨⟨⟨h1,h2⟩,h3⟩,h4⟩,h5⟩:=h;refine⟨by omega,h1,fun j _=>?_⟩
 unfold szN;split <;> (try split) <;> (try split) <;> omega
end Go.Proofs.YtmcclbiaoeilkaaGreat
end
section
namespace Go.Proofs.YtmcclbiaoeilkaaGreat
open Go.Proofs.Tryz Go.RowKit Go.Sl Go.ChangeMaps Go.ChangeShapes Go.WideShapes Go.ChangeAt
theorem zlf (S:zsg)(d:Int)(f:zsh→zsh):(S.step d f).1.cfg=S.cfg:=by
 unfold zsg.step;split;rfl;split;rfl;split
 ·split <;> rfl
 ·rfl
theorem zgN (S:zsg)(d:Int):(S.flush d).1.cfg=S.cfg:=by
 unfold zsg.flush;split
 ·rfl
 ·exact zlf S d _
theorem zd8:∀ (m:Nat) (S:zsg) (k:Nat),(S.flushFrom k m).1.cfg=S.cfg
 | 0,_,_=>rfl
 | m+1,S,k=>by
  show (if S.state k≠1 then S.flushFrom (k+1) m else if (S.flush k).2≠0 then S.flush k else (S.flush k).1.flushFrom (k+1) m).1.cfg=_;split
  ·exact zd8 m S (k+1)
  ·split
   ·exact zgN S k
   ·rw[zd8 m,zgN]
theorem zjS (S:zsg)(a:zsj)(v:Bool)(f:zsh→Int→zsh×Int):(S.arm a v f).1.cfg=S.cfg:=by
 unfold zsg.arm;split;rfl
 split <;> rfl
theorem zqc (S:zsg)(o:OpN):(doN S o).1.cfg=S.cfg:=by
 unfold doN
 by_cases q1:o.kind=1
 ·rw[if_pos q1];show (S.write _ _).1.cfg=_;unfold zsg.write;split;rfl;exact zlf _ _ _
 rw[if_neg q1]
 by_cases q2:o.kind=2
 ·rw[if_pos q2]
 rw[if_neg q2]
 by_cases q3:o.kind=3
 ·rw[if_pos q3];exact zgN _ _
 rw[if_neg q3]
 by_cases q4:o.kind=4
 ·rw[if_pos q4];show S.flushAll.1.cfg=_;unfold zsg.flushAll;split;rfl;exact zd8 _ _ _
 rw[if_neg q4]
 by_cases q5:o.kind=5
 ·rw[if_pos q5];rfl
 rw[if_neg q5]
 by_cases q6:o.kind=6
 ·rw[if_pos q6];rfl
 rw[if_neg q6]
 by_cases q7:o.kind=7
 ·rw[if_pos q7];show (S.kill _).1.cfg=_;unfold zsg.kill;split <;> rfl
 rw[if_neg q7]
 by_cases q8:o.kind=8
 ·rw[if_pos q8];show (S.remove _).1.cfg=_;unfold zsg.remove;split <;> rfl
 rw[if_neg q8]
 by_cases q9:o.kind=9
 ·rw[if_pos q9];show (S.insert _ _).1.cfg=_;unfold zsg.insert;split;rfl;split;rfl;split <;> rfl
 rw[if_neg q9]
 by_cases q10:o.kind=10
 ·rw[if_pos q10];show (S.replace _).1.cfg=_;unfold zsg.replace;split <;> rfl
 rw[if_neg q10]
 by_cases q11:o.kind=11
 ·rw[if_pos q11];exact zjS _ _ _ _
 rw[if_neg q11]
 by_cases q12:o.kind=12
 ·rw[if_pos q12];exact zjS _ _ _ _
 rw[if_neg q12]
 by_cases q13:o.kind=13
 ·rw[if_pos q13];exact zjS _ _ _ _
 rw[if_neg q13]
end Go.Proofs.YtmcclbiaoeilkaaGreat
end
