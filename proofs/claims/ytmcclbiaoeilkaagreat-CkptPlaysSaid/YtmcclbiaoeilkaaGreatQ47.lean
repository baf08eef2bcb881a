import Derived.Test.YtmcclbiaoeilkaaGreatQ46
import Derived.Test.YtmcclbiaoeilkaaGreatQ45
set_option maxHeartbeats 8000000
set_option maxRecDepth 100000
/- Part 47. -/
section
namespace Go.Proofs.YtmcclbiaoeilkaaGreat
open Go.Proofs.Tryz Go.RowKit Go.Sl Go.ChangeMaps
theorem zp8 (args:Array Value)(w:World):(callFunc 72 args).run prog w = .ok (.enter 72 args) w:=by kernel_rfl
theorem znz (q tB:Nat)(n:Int)(s:ByteArray)(D:zsh)(F G:zsi)(w:World)(hS:Sat w (zak TD TS q D*((pts tB (.cells #[.string s] zbg (0,0))*F)*G))):
  Calls prog 72 (#[.agg #[zaB q,.int .i64 1],.int .i64 n]++#[zaB tB]) w fun e w'=>e = .returned (.int .i64 (D.read n).2)∧Hid (Same w w'∧Sat w' (zak TD TS q D*((pts tB (.cells #[.string (zae (D.read n).1)] zbg (0,0))*F)*G))):=by
 have HS:=zh hS;have hp:=hS.perm (show _=pts tB (.cells #[.string s] zbg (0,0))*(zak TD TS q D*(F*G)) from by ac_rfl);have c0:w.cell? ⟨tB,0,none⟩=some (.string s):=zab hp.block 0;have f0:w.frozen? ⟨tB,0,none⟩=false:=zaj hp.block 0;have l0:=hp.lt;have hrd:=zk2 q D ((pts tB (.cells #[.string s] zbg (0,0))*F)*G) n (w.alloc (.cells #[zaB q,.int .i64 1] zct)) (hS.allocKeep _);obtain⟨⟨t,k⟩,hr⟩:∃ r,D.read n=r:=⟨_,rfl⟩;rw[hr] at hrd ⊢;simp only at hrd ⊢;clear hS hp hr;show Calls prog 72 #[.agg #[zaB q,.int .i64 1],n,zaB tB] w _
 unfold zaB at hrd ⊢;go_enter func72,ntmps72;go_upto_region 3 with (go_at_call 73;refine hrd.mono ?_;rintro e w1 ⟨rfl,hb⟩;have c1:w1.cell? ⟨tB,0,none⟩=some (.string s):=(hb.cell (p:=⟨tB,0,none⟩) (by simp;omega)).trans ((World.cell?_alloc_lt _ _ _ l0).trans c0);have f1:w1.frozen? ⟨tB,0,none⟩=false:=zaj ((HS.out.allocKeep _).below hb |>.perm (show _=pts tB (.cells #[.string s] zbg (0,0))*(zak TD TS q D*(F*G)) from by ac_rfl)).block 0;have HB:=zh hb;clear hb c0 f0)
 go_wp2;go_ret;refine⟨rfl,(((Same.refl w).alloc _).below HB.out).setCell _ _,?_⟩;exact ((((HS.out.allocKeep _).below HB.out).perm (show _=pts tB (.cells #[.string s] zbg (0,0))*(zak TD TS q D*(F*G)) from by ac_rfl)).setCell (i:=0) _).perm (by show pts tB (.cells #[.string (zae t)] zbg (0,0))*_=_;ac_rfl)
def zmv (p:Nat)(S:zsg)(F:zsi)(r:List UInt8×Bool)(w:World)(e:Ending)(w':World):Prop:=e = .returned (.tuple #[.string (zae r.1),.bool r.2])∧Same w w'∧Sat w' (zac SH p S*F)
theorem zpi (p:Nat)(S:zsg)(F:zsi)(a:zsj)(w:World)(hS:Sat w (zac SH p S*F)):
  Calls prog 16 #[.pointer (some ⟨p,0,none⟩),.agg (plA a)] w (zmv p S F (S.peek a) w):=by
 have hwf:=zaE hS;have hA:=((hS.alloc (.cells (plA a) TPl)).alloc (.cells #[.string ⟨#[]⟩] zbg));rw[World.size_alloc] at hA
 have hpk:S.peek a=if S.number a<0 then ([],false) else if S.state a.disk=1 then (((S.disk a.disk).read (S.number a)).1,decide (((S.disk a.disk).read (S.number a)).2=0)) else ([],false):=rfl
 by_cases h0:S.number a<0
 ·rw[if_pos h0] at hpk
  rw[hpk];have hc:=zmB p S (pts (w.heap.size+1) (.cells #[.string ⟨#[]⟩] zbg (0,0))*(pts w.heap.size (.cells (plA a) TPl (0,0))*F)) a true 72 #[zaB (w.heap.size+1)] _ (hA.perm (by ac_rfl)) (.inl h0);unfold zaB at hc;clear hpk h0 hA hS hwf;go_enter func16,ntmps16;go_upto_region 3 with (go_at_call 71;refine hc.mono ?_;rintro e w2 ⟨rfl,h2⟩;clear hc)
  have hs2:=h2.out.2.perm (show _=pts (w.heap.size+1) (.cells #[.string ⟨#[]⟩] zbg (0,0))*(pts w.heap.size (.cells (plA a) TPl (0,0))*(zac SH p S*F)) from by ac_rfl);have c0:w2.cell? ⟨w.heap.size+1,0,none⟩=some (.string ⟨#[]⟩):=zab hs2.block 0;have HF:=zh hs2.right.right;clear hs2;go_wp2;go_ret2;exact⟨rfl,(((Same.refl w).alloc _).alloc _).trans h2.out.1,HF.out⟩
 ·rw[if_neg h0] at hpk
  have hn0:0≤S.number a:=by omega
  have hin:=zsg.state_in hwf (zsg.number_lt hwf hn0).1;have hc:=zpT p S (pts (w.heap.size+1) (.cells #[.string ⟨#[]⟩] zbg (0,0))*(pts w.heap.size (.cells (plA a) TPl (0,0))*F)) (pts (w.heap.size+1) (.cells #[.string (zae ((S.disk a.disk).read (S.number a)).1)] zbg (0,0))*(pts w.heap.size (.cells (plA a) TPl (0,0))*F)) a 72 #[zaB (w.heap.size+1)] (S.disk a.disk) ((S.disk a.disk).read (S.number a)).2 zp8 hn0 (fun _=>rfl)
   (fun _ w' q G h=>znz q _ _ _ _ _ G w' h) _ (hA.perm (by ac_rfl))
  unfold zaB zq4 ziL at hc;rw[zsg.setDisk_self hin.1 hin.2] at hc
  by_cases h1:S.state a.disk=1
  ·rw[if_pos h1] at hpk
   rw[hpk];simp only[if_pos h1] at hc;obtain⟨⟨t,k⟩,hr⟩:∃ r,(S.disk a.disk).read (S.number a)=r:=⟨_,rfl⟩;rw[hr] at hc ⊢;simp only at hc ⊢;clear hpk h0 hA hS hwf h1 hr hn0 hin
   by_cases hk:k=0
   ·rw[decide_eq_true hk]
    have hkb:(k==0)=true:=by simp[hk]
    clear hk;go_enter func16,ntmps16;go_upto_region 3 with (go_at_call 71;refine hc.mono ?_;rintro e w2 ⟨rfl,h2⟩;clear hc)
    have hs2:=h2.out.2.perm (show _=pts (w.heap.size+1) (.cells #[.string (zae t)] zbg (0,0))*(pts w.heap.size (.cells (plA a) TPl (0,0))*(zac SH p S*F)) from by ac_rfl);have c0:w2.cell? ⟨w.heap.size+1,0,none⟩=some (.string (zae t)):=zab hs2.block 0;have HF:=zh hs2.right.right;clear hs2;go_wp2;go_ret2;exact⟨rfl,(((Same.refl w).alloc _).alloc _).trans h2.out.1,HF.out⟩
   ·rw[decide_eq_false hk]
    have hkb:(k==0)=false:=by simp[hk]
    clear hk;go_enter func16,ntmps16;go_upto_region 3 with (go_at_call 71;refine hc.mono ?_;rintro e w2 ⟨rfl,h2⟩;clear hc)
    have hs2:=h2.out.2.perm (show _=pts (w.heap.size+1) (.cells #[.string (zae t)] zbg (0,0))*(pts w.heap.size (.cells (plA a) TPl (0,0))*(zac SH p S*F)) from by ac_rfl);have c0:w2.cell? ⟨w.heap.size+1,0,none⟩=some (.string (zae t)):=zab hs2.block 0;have HF:=zh hs2.right.right;clear hs2;go_wp2;go_ret2;exact⟨rfl,(((Same.refl w).alloc _).alloc _).trans h2.out.1,HF.out⟩
  ·rw[if_neg h1] at hpk
   rw[hpk];simp only[if_neg h1] at hc;clear hpk h0 hA hS hwf h1 hn0 hin;go_enter func16,ntmps16;go_upto_region 3 with (go_at_call 71;refine hc.mono ?_;rintro e w2 ⟨rfl,h2⟩;clear hc)
   have hs2:=h2.out.2.perm (show _=pts (w.heap.size+1) (.cells #[.string ⟨#[]⟩] zbg (0,0))*(pts w.heap.size (.cells (plA a) TPl (0,0))*(zac SH p S*F)) from by ac_rfl);have c0:w2.cell? ⟨w.heap.size+1,0,none⟩=some (.string ⟨#[]⟩):=zab hs2.block 0;have HF:=zh hs2.right.right;clear hs2;go_wp2;go_ret2;exact⟨rfl,(((Same.refl w).alloc _).alloc _).trans h2.out.1,HF.out⟩
def kC:zsl:=⟨2,1,1,0,1,3⟩
def kK:CkM:=⟨⟨1,0⟩,5,[97,98,99]⟩
theorem zre:kC.ok=true:=by decide +kernel
theorem zrO:kC.WF:=zqp zre (by decide)
theorem zqj:CkFits kC kK:=⟨by decide,by decide,by decide⟩
theorem zjv (F:zsi)(w:World)(hF:Sat w F):Calls prog 5 #[] w fun e w'=>e = .returned (.bool true)∧Hid (Same w w'∧Sat w' F):=by
 have HF:=zh hF;clear hF;obtain⟨hfi,hcl⟩:=zpa zrO;obtain⟨S',e1,e2,e3⟩:=zly hfi hcl zqj;have HE:=(zd (zlx hfi hcl) (And.intro e1 (And.intro e3 e2.cfg)));clear hfi hcl e1 e2 e3
 have HLD:=zh (show ∀ (p:Nat) (W:World) (X:zsi),Sat W (zac SH p (zsg.new kC)*X)→Calls prog 14 #[.pointer (some ⟨p,0,none⟩)] W fun e w'=>e = .returned (.tuple #[.agg #[.int .i64 0,.int .i64 0,.int .i64 0,.string (zae [])],.int .i64 12])∧Same W w'∧Sat w' (zac SH p (zsg.new kC)*X) from fun p W X h=>(zgv p _ X W h).mono fun e w' h2=>by
  unfold zgC at h2;rw[HE.out.1] at h2;exact h2)
 have HLD2:=zh (show ∀ (p:Nat) (W:World) (X:zsi),Sat W (zac SH p S'*X)→Calls prog 14 #[.pointer (some ⟨p,0,none⟩)] W fun e w'=>e = .returned (.tuple #[.agg #[.int .i64 1,.int .i64 0,.int .i64 5,.string (zae [97,98,99])],.int .i64 0])∧Same W w'∧Sat w' (zac SH p S'*X) from fun p W X h=>(zgv p _ X W h).mono fun e w' h2=>by
  unfold zgC at h2;rw[HE.out.2.2.1] at h2;exact h2)
 have HSV:=zh (show ∀ (p:Nat) (W:World) (X:zsi),Sat W (zac SH p (zsg.new kC)*X)→Calls prog 10 #[.pointer (some ⟨p,0,none⟩),.agg #[.int .i64 1,.int .i64 0,.int .i64 5,.string (zae [97,98,99])]] W fun e w'=>e = .returned (.tuple #[.int .i64 2,.int .i64 0])∧Hid (Same W w'∧Sat w' (zac SH p S'*X)) from fun p W X h=>(zk8 p _ X 1 0 5 [97,98,99] (by decide) W h).mono fun e w' h2=>by
  unfold zff at h2;rw[show zdc (zsg.new kC) ⟨⟨1,0⟩,5,[97,98,99]⟩=(S',2,0) from HE.out.2.1] at h2;exact h2)
 have HCF:=zh (show ∀ (p:Nat) (W:World) (X:zsi),Sat W (zac SH p S'*X)→Calls prog 26 #[.pointer (some ⟨p,0,none⟩)] W fun e w'=>e = .returned (.agg (za8 kC))∧Below W.heap.size W w' from fun p W X h=>(zcM p S' X W h).mono fun e w' h2=>by rw[HE.out.2.2.2] at h2;exact h2)
 have HCA:=zh (show ∀ (W:World),Calls prog 22 #[.agg (za8 kC)] W fun e w'=>e = .returned (.int .i64 80)∧Below W.heap.size W w' from fun W=>zdM kC (by decide) (by decide) W);clear HE;go_enter func5,ntmps5;go_upto_region 2 with (go_at_call 7;refine (zn1 kC F w HF.out zre (by decide)).mono ?_;rintro e w1 ⟨p,rfl,H1⟩)
 go_upto_region 5 with (go_at_call 14;refine (HLD.out p w1 F H1.out.2).mono ?_;rintro e w2 ⟨rfl,h2⟩;replace H1:=(zd (H1.out.1.trans h2.1) h2.2);clear h2);replace H1:=(zd (H1.out.1.alloc (.cells #[.int .i64 0,.int .i64 0,.int .i64 0,.string (zae [])] TCk)) (H1.out.2.allocKeep (.cells #[.int .i64 0,.int .i64 0,.int .i64 0,.string (zae [])] TCk)));generalize w2.alloc (.cells #[.int .i64 0,.int .i64 0,.int .i64 0,.string (zae [])] TCk)=w3 at H1 ⊢;generalize w2.heap.size=B1;go_upto_region 6 with (fail)
 replace H1:=(zd (H1.out.1.alloc (.cells #[.int .i64 1,.int .i64 0,.int .i64 5,.string (zae [97,98,99])] TCk)) ((H1.out.2.alloc (.cells #[.int .i64 1,.int .i64 0,.int .i64 5,.string (zae [97,98,99])] TCk)).perm (show _=zac SH p (zsg.new kC)*(pts w3.heap.size (.cells #[.int .i64 1,.int .i64 0,.int .i64 5,.string (zae [97,98,99])] TCk (0,0))*F) from by ac_rfl)));change Code.wp _ _ _ _ (w3.alloc (.cells #[.int .i64 1,.int .i64 0,.int .i64 5,.string (zae [97,98,99])] TCk));generalize w3.alloc (.cells #[.int .i64 1,.int .i64 0,.int .i64 5,.string (zae [97,98,99])] TCk)=w4 at H1 ⊢
 generalize w3.heap.size=B2 at H1 ⊢;have q0:=zab H1.out.2.right.block 0;have q1:=zab H1.out.2.right.block 1;have q2:=zab H1.out.2.right.block 2;have q3:=zab H1.out.2.right.block 3;go_upto_region 7 with (go_at_call 10;refine (HSV.out p w4 _ H1.out.2).mono ?_;rintro e w5 ⟨rfl,h2⟩;replace H1:=(zt H1 h2);clear h2 q0 q1 q2 q3)
 go_upto_region 8 with (go_at_call 14;refine (HLD2.out p w5 _ H1.out.2).mono ?_;rintro e w6 ⟨rfl,h2⟩;replace H1:=(zd (H1.out.1.trans h2.1) h2.2);clear h2);replace H1:=(zd (H1.out.1.alloc (.cells #[.int .i64 1,.int .i64 0,.int .i64 5,.string (zae [97,98,99])] TCk)) ((H1.out.2.alloc (.cells #[.int .i64 1,.int .i64 0,.int .i64 5,.string (zae [97,98,99])] TCk)).perm (show _=zac SH p S'*(pts B2 (.cells #[.int .i64 1,.int .i64 0,.int .i64 5,.string (zae [97,98,99])] TCk (0,0))*(pts w6.heap.size (.cells #[.int .i64 1,.int .i64 0,.int .i64 5,.string (zae [97,98,99])] TCk (0,0))*F)) from by ac_rfl)))
 generalize w6.alloc (.cells #[.int .i64 1,.int .i64 0,.int .i64 5,.string (zae [97,98,99])] TCk)=w7 at H1 ⊢;generalize w6.heap.size=B3 at H1 ⊢;have q0:=zab H1.out.2.right.block 0;have q1:=zab H1.out.2.right.block 1;have q2:=zab H1.out.2.right.block 2;have q3:=zab H1.out.2.right.block 3;have r0:=zab H1.out.2.right.right.block 0;have r1:=zab H1.out.2.right.right.block 1;have r2:=zab H1.out.2.right.right.block 2;have r3:=zab H1.out.2.right.right.block 3
 go_wp2_with (first
  | (go_at_call 26;refine (HCF.out p w7 _ H1.out.2).mono ?_;rintro e w8 ⟨rfl,hb⟩;replace H1:=(zd (H1.out.1.below hb) (H1.out.2.below hb));clear hb)
  | (go_at_call 22;refine (HCA.out w8).mono ?_;rintro e w9 ⟨rfl,hb⟩;replace H1:=(zd (H1.out.1.below hb) (H1.out.2.below hb));clear hb))
 go_ret;exact⟨rfl,H1.out.1,H1.out.2.right.right.right⟩
def zjM (p:Nat)(S':zsg)(F:zsi)(w:World)(e:Ending)(w':World):Prop:=e = .returned (.tuple #[])∧Hid (Same w w'∧Sat w' (zac SH p S'*F))
theorem zoM (p:Nat)(S:zsg)(F:zsi)(o:OpN)(pv:Value)(w:World)(hS:Sat w (zac SH p S*F))(hpk:∀ w',Sat w' F→IntsC w' pv o.picks)(hpl:o.picks.length≤9223372036854775807)(hil:S.images.length≤1000000)(hn:o.n<9223372036854775808):
  Calls prog 12 #[.pointer (some ⟨p,0,none⟩),.agg (opN o pv)] w (zjM p (doN S o).1 F w):=by
 have HPK:=zh hpk;have H1:=(zd ((Same.refl w).alloc (.cells (opN o pv) TOp)) (hS.alloc (.cells (opN o pv) TOp)));clear hS hpk;obtain⟨Z,hdm⟩:∃ Z,doN S o=Z:=⟨_,rfl⟩;rw[hdm];have HDM:=zh hdm;clear hdm;go_enter func12,ntmps12;go_upto_region 1 with (fail)
 generalize w.alloc (.cells (opN o pv) TOp)=w1 at H1 ⊢;generalize w.heap.size=B at H1 ⊢;obtain⟨⟨k0,k1,k2,k3⟩,⟨k4,k5,k6,k7⟩,k10,kra⟩:=zgw H1.out.2;replace H1:=(zd H1.out.1 (H1.out.2.perm (show _=zac SH p S*(pts B (.cells (opN o pv) TOp (0,0))*F) from by ac_rfl)))
 have FIN:=zh (show ∀ (w2:World) (S':zsg),Hid (Same w1 w2∧Sat w2 (zac SH p S'*(pts B (.cells (opN o pv) TOp (0,0))*F)))→Z.1=S'→zjM p Z.1 F w (.returned (.tuple #[])) w2 from by
  rintro w2 S' h rfl
  exact⟨rfl,H1.out.1.trans h.out.1,(h.out.2.perm (show _=pts B (.cells (opN o pv) TOp (0,0))*(zac SH p Z.1*F) from by ac_rfl)).right⟩)
 have HDM:=HDM.out;unfold doN at HDM;generalize hkd:o.kind=kd at k0 HDM;clear hkd
 by_cases q3:kd=3
 ·subst q3
  have HZ:=zh (show Z.1=(S.flush o.at_.disk).1 by rw[← HDM];simp);have hc:=zhY p S _ o.at_.disk w1 H1.out.2;have HC:=zh hc;clear hc HDM;go_wp2_with (go_at_call 45;refine HC.out.mono ?_;rintro e w2 ⟨rfl,h2⟩;clear HC)
  first|go_end0|go_ret
  exact FIN.out _ _ h2 HZ.out
 by_cases q4:kd=4
 ·subst q4
  have HZ:=zh (show Z.1=S.flushAll.1 by rw[← HDM];simp);have hc:=ziY p S _ w1 H1.out.2;have HC:=zh hc;clear hc HDM;go_wp2_with (go_at_call 46;refine HC.out.mono ?_;rintro e w2 ⟨rfl,h2⟩;clear HC)
  first|go_end0|go_ret
  exact FIN.out _ _ h2 HZ.out
 by_cases q5:kd=5
 ·subst q5
  have HZ:=zh (show Z.1=S.fuse o.n by rw[← HDM];simp);have hc:=zoV p S _ o.n w1 H1.out.2 hn;have HC:=zh hc;clear hc HDM;go_wp2_with (go_at_call 47;refine HC.out.mono ?_;rintro e w2 ⟨rfl,h2⟩;clear HC)
  first|go_end0|go_ret
  exact FIN.out _ _ h2 HZ.out
 by_cases q6:kd=6
 ·subst q6
  have HZ:=zh (show Z.1=S.mount o.picks by rw[← HDM];simp);have hc:=znm p S _ pv o.picks w1 H1.out.2 (fun w' h=>HPK.out w' h.right) hpl;have HC:=zh hc;clear hc HDM;go_wp2_with (go_at_call 48;refine HC.out.mono ?_;rintro e w2 ⟨rfl,h2⟩;clear HC)
  first|go_end0|go_ret
  exact FIN.out _ _ h2 HZ.out
 by_cases q7:kd=7
 ·subst q7
  have HZ:=zh (show Z.1=(S.kill o.at_.disk).1 by rw[← HDM];simp);have hc:=zo1 p S _ o.at_.disk w1 H1.out.2;have HC:=zh hc;clear hc HDM;go_wp2_with (go_at_call 49;refine HC.out.mono ?_;rintro e w2 ⟨rfl,h2⟩;clear HC)
  first|go_end0|go_ret
  exact FIN.out _ _ h2 HZ.out
 by_cases q8:kd=8
 ·subst q8
  have HZ:=zh (show Z.1=(S.remove o.at_.disk).1 by rw[← HDM];simp);have hc:=zl6 p S _ o.at_.disk w1 H1.out.2 hil;unfold zkA at hc;have HC:=zh hc;clear hc HDM;go_wp2_with (go_at_call 50;refine HC.out.mono ?_;rintro e w2 ⟨rfl,h2⟩;clear HC)
  first|go_end0|go_ret
  exact FIN.out _ _ (zh h2) HZ.out
 by_cases q9:kd=9
 ·subst q9
  have HZ:=zh (show Z.1=(S.insert o.at_.disk o.n).1 by rw[← HDM];simp);have hc:=zlM p S _ o.at_.disk o.n w1 H1.out.2;have HC:=zh hc;clear hc HDM;go_wp2_with (go_at_call 51;refine HC.out.mono ?_;rintro e w2 ⟨rfl,h2⟩;clear HC)
  first|go_end0|go_ret
  exact FIN.out _ _ h2 HZ.out
 by_cases q10:kd=10
 ·subst q10
  have HZ:=zh (show Z.1=(S.replace o.at_.disk).1 by rw[← HDM];simp);have hc:=zkg p S _ o.at_.disk w1 H1.out.2;have HC:=zh hc;clear hc HDM;go_wp2_with (go_at_call 52;refine HC.out.mono ?_;rintro e w2 ⟨rfl,h2⟩;clear HC)
  first|go_end0|go_ret
  exact FIN.out _ _ h2 HZ.out
 by_cases q11:kd=11
 ·subst q11
  have HZ:=zh (show Z.1=(S.rot o.at_ o.n).1 by rw[← HDM];simp);have hc:=zpI p S _ o.at_ o.n w1 H1.out.2;have HC:=zh hc;clear hc HDM;go_wp2_with (go_at_call 53;refine HC.out.mono ?_;rintro e w2 ⟨rfl,h2⟩;clear HC)
  first|go_end0|go_ret
  exact FIN.out _ _ h2 HZ.out
 by_cases q12:kd=12
 ·subst q12
  have HZ:=zh (show Z.1=(S.lose o.at_).1 by rw[← HDM];simp);have hc:=znZ p S _ o.at_ w1 H1.out.2;have HC:=zh hc;clear hc HDM;go_wp2_with (go_at_call 54;refine HC.out.mono ?_;rintro e w2 ⟨rfl,h2⟩;clear HC)
  first|go_end0|go_ret
  exact FIN.out _ _ h2 HZ.out
 by_cases q13:kd=13
 ·subst q13
  have HZ:=zh (show Z.1=(S.misdirect o.at_ o.dst).1 by rw[← HDM];simp);have hc:=zpF p S _ o.at_ o.dst w1 H1.out.2;have HC:=zh hc;clear hc HDM;go_wp2_with (go_at_call 55;refine HC.out.mono ?_;rintro e w2 ⟨rfl,h2⟩;clear HC)
  first|go_end0|go_ret
  exact FIN.out _ _ h2 HZ.out
 by_cases q1:kd=1
 ·subst q1
  have HZ:=zh (show Z.1=(S.write o.at_ o.text).1 by rw[← HDM];simp);clear HDM;go_upto_region 3 with (fail)
  have hS0:(w1.drew.cell? ⟨B,1,none⟩=some (.int .i64 o.at_.disk)∧w1.drew.cell? ⟨B,2,none⟩=some (.int .i64 o.at_.area)∧w1.drew.cell? ⟨B,3,none⟩=some (.int .i64 o.at_.index))∧w1.drew.rangeAt B 0 (opN o pv).toList:=⟨⟨k1,k2,k3⟩,kra⟩
  refine zah (fun w'=>(w'.cell? ⟨B,1,none⟩=some (.int .i64 o.at_.disk)∧w'.cell? ⟨B,2,none⟩=some (.int .i64 o.at_.area)∧w'.cell? ⟨B,3,none⟩=some (.int .i64 o.at_.index))∧w'.rangeAt B 0 (opN o pv).toList) (by kernel_rfl) ?_
  (apply zaa 0 rfl rfl (by kernel_rfl) rfl);(rintro w' ⟨⟨h1,h2,h3⟩,h4⟩;go_simp;rfl);exact hS0;simp only[zq];(apply zaa 1 rfl rfl (by kernel_rfl) rfl);(rintro w' ⟨⟨h1,h2,h3⟩,h4⟩;go_simp;rfl);exact hS0;simp only[zq];(apply zaa 2 rfl rfl (by kernel_rfl) rfl);(rintro w' ⟨⟨h1,h2,h3⟩,h4⟩;go_simp;rfl);exact hS0;simp only[zq]
  refine zaa 3 (v:=.agg (opN o pv)) rfl rfl (by kernel_rfl) rfl (fun w' h=>zbC rfl rfl (run_loadAt_mid w' B 0 TOp (opN o pv).toList _ h.2 underlying40 rfl (by rw[zj0 o pv];rfl))) hS0 ?_;simp only[zq]
  refine zan 4 rfl rfl (by kernel_rfl) rfl (f:=44) (args:=#[.agg (opN o pv)]) (R:=fun v w'=>v = .string (zae o.text)∧Hid (Below w1.heap.size w1 w')) (by kernel_rfl) ((zli o pv w1.drew).mono fun e w' h=>⟨_,h.1,rfl,⟨h.2.out.os,h.2.out.tape,h.2.out.output,h.2.out.size,h.2.out.block⟩⟩) ?_;rintro _ wt ⟨rfl,hbt⟩;have HT:=zh (H1.out.2.below hbt.out)
  have hcs:∀ (w':World) (Sx:zsg),Sat w' (zac SH p Sx*(pts B (.cells (opN o pv) TOp (0,0))*F))→(w'.cell? ⟨B,1,none⟩=some (.int .i64 o.at_.disk)∧w'.cell? ⟨B,2,none⟩=some (.int .i64 o.at_.area)∧w'.cell? ⟨B,3,none⟩=some (.int .i64 o.at_.index))∧w'.rangeAt B 0 (opN o pv).toList:=by
   intro w' Sx h;obtain⟨⟨j0,j1,j2,j3⟩,_,_,jr⟩:=zgw h.right;exact⟨⟨j1,j2,j3⟩,jr⟩
  have hS1:=hcs wt S HT.out;refine⟨hS1,?_⟩;simp only[zq]
  refine zan 5 rfl rfl (by kernel_rfl) rfl (f:=43) (args:=#[.pointer (some ⟨p,0,none⟩),.agg (plA o.at_),.string (zae o.text)]) (R:=fun v w'=>v = .int .i64 (S.write o.at_ o.text).2∧Hid (Same w1 w'∧Sat w' (zac SH p (S.write o.at_ o.text).1*(pts B (.cells (opN o pv) TOp (0,0))*F)))) (by kernel_rfl)
   ((zh4 p S _ o.at_ o.text wt HT.out).mono fun e w' h=>⟨_,h.1,rfl,((Same.refl w1).below hbt.out).trans h.2.out.1,h.2.out.2⟩) ?_
  rintro _ w2 ⟨rfl,h2⟩;have hS2:=hcs w2 _ h2.out.2;refine⟨hS2,?_⟩;simp only[zq];refine zar (by kernel_rfl) ?_;clear hS0 hS1 hS2 hcs HT hbt k0 k1 k2 k3 k4 k5 k6 k7 k10 kra;go_wp2
  first|go_end0|go_ret
  exact FIN.out _ _ h2 HZ.out
 have HZ:=zh (show Z.1=S by rw[← HDM];by_cases q2:kd=2 <;> simp[q1,q2,q3,q4,q5,q6,q7,q8,q9,q10,q11,q12,q13])
 have r1:(kd==1)=false:=by simpa using q1
 have r3:(kd==3)=false:=by simpa using q3
 have r4:(kd==4)=false:=by simpa using q4
 have r5:(kd==5)=false:=by simpa using q5
 have r6:(kd==6)=false:=by simpa using q6
 have r7:(kd==7)=false:=by simpa using q7
 have r8:(kd==8)=false:=by simpa using q8
 have r9:(kd==9)=false:=by simpa using q9
 have r10:(kd==10)=false:=by simpa using q10
 have r11:(kd==11)=false:=by simpa using q11
 have r12:(kd==12)=false:=by simpa using q12
 have r13:(kd==13)=false:=by simpa using q13
 clear q1 q3 q4 q5 q6 q7 q8 q9 q10 q11 q12 q13 HDM;go_wp2
 first|go_end0|go_ret
 exact FIN.out _ _ (zh ⟨Same.refl w1,H1.out.2⟩) HZ.out
structure zgr where
 op:OpN
 pv:Value
 save:Bool
 c:CkM
abbrev zp5:TypeId:=46
def stC (s:zgr):List Value:=(opN s.op s.pv).toList++[.bool s.save,.int .i64 s.c.gen.epoch,.int .i64 s.c.gen.count,.int .i64 s.c.seq,.string (zae s.c.image)]
structure zrK (s:zgr):Prop where
 op:zrD s.op
 seq:s.c.seq<9223372036854775808
 image:s.c.image.length≤9223372036854775807
theorem zn4 (s:ByteArray):∃ r:List UInt8,zae r=s∧r.length=s.size:=⟨s.data.toList,rfl,(zap s.data.toList).symm⟩
theorem zpq {w:World}{cs:List Value}(h:Rd prog w zam cs):∃ a b:Int,cs=[.int .i64 a,.int .i64 b]:=by
 obtain⟨hl,hf⟩:=Rd.struct underlying42 h;rw[show prog.cellsOf zam=2 by kernel_rfl] at hl
 have k1:prog.cellsOf 3=1:=by kernel_rfl
 match cs,hl with
 | [a0,a1],_ =>
  simp only[List.mem_cons,List.not_mem_nil,or_false,forall_eq_or_imp,forall_eq,k1,List.drop_zero,List.drop_succ_cons,List.take_succ_cons,List.take_zero] at hf;obtain⟨h0,h1⟩:=hf;obtain⟨n0,e0,_⟩:=Rd.int underlying3 h0;obtain⟨n1,e1,_⟩:=Rd.int underlying3 h1;simp at e0 e1;subst e0 e1;exact⟨n0,n1,rfl⟩
theorem zqu {w:World}{cs:List Value}(h:Rd prog w TCk cs):∃ c:CkM,cs=[.int .i64 c.gen.epoch,.int .i64 c.gen.count,.int .i64 c.seq,.string (zae c.image)]∧c.seq<9223372036854775808∧c.image.length≤9223372036854775807:=by
 obtain⟨hl,hf⟩:=Rd.struct underlying44 h;rw[show prog.cellsOf TCk=4 by kernel_rfl] at hl
 have k1:prog.cellsOf 3=1:=by kernel_rfl
 have k2:prog.cellsOf zam=2:=by kernel_rfl
 have k3:prog.cellsOf 9=1:=by kernel_rfl
 match cs,hl with
 | [a0,a1,a2,a3],_ =>
  simp only[List.mem_cons,List.not_mem_nil,or_false,forall_eq_or_imp,forall_eq,k1,k2,k3,List.drop_zero,List.drop_succ_cons,List.take_succ_cons,List.take_zero] at hf;obtain⟨h0,h1,h2⟩:=hf;obtain⟨x,y,e0⟩:=zpq h0;obtain⟨n1,e1,w1⟩:=Rd.int underlying3 h1;obtain⟨s,e2,hs⟩:=Rd.string underlying9 h2;obtain⟨im,rfl,him⟩:=zn4 s;simp at e0 e1 e2;obtain⟨rfl,rfl⟩:=e0;subst e1 e2;exact⟨⟨⟨x,y⟩,n1,im⟩,rfl,zpU w1,by show im.length≤_;unfold maxLen at hs;omega⟩
theorem znH {w:World}{cs:List Value}(h:Rd prog w zp5 cs):∃ s:zgr,cs=stC s∧IntsC w s.pv s.op.picks∧zrK s:=by
 obtain⟨hl,hf⟩:=Rd.struct underlying46 h;rw[show prog.cellsOf zp5=16 by kernel_rfl] at hl
 have k1:prog.cellsOf 4=1:=by kernel_rfl
 have k2:prog.cellsOf TOp=11:=by kernel_rfl
 have k3:prog.cellsOf TCk=4:=by kernel_rfl
 match cs,hl with
 | [a0,a1,a2,a3,a4,a5,a6,a7,a8,a9,a10,a11,a12,a13,a14,a15],_ =>
  simp only[List.mem_cons,List.not_mem_nil,or_false,forall_eq_or_imp,forall_eq,k1,k2,k3,List.drop_zero,List.drop_succ_cons,List.take_succ_cons,List.take_zero] at hf;obtain⟨h0,h1,h2⟩:=hf;obtain⟨o,v,e0,hi,hwo⟩:=zrR h0;obtain⟨b,e1⟩:=Rd.bool underlying4 h1;obtain⟨c,e2,hq,him⟩:=zqu h2;refine⟨⟨o,v,b,c⟩,?_,hi,⟨hwo,hq,him⟩⟩;simp at e1;subst e1;have e3:[a0,a1,a2,a3,a4,a5,a6,a7,a8,a9,a10,.bool b,a12,a13,a14,a15]=[a0,a1,a2,a3,a4,a5,a6,a7,a8,a9,a10]++([.bool b]++[a12,a13,a14,a15]):=rfl;rw[e3,e0,e2]
  rfl
def ScrQ (w:World)(v:Value)(l:List zgr):Prop:=∃ ao cap,v = .slice ao l.length cap∧(l≠[]→∃ b off,ao=some ⟨b,off,none⟩∧∀ j s,l[j]?=some s→zrK s∧w.rangeAt b (off+j*16) (stC s)∧IntsC w s.pv s.op.picks)
theorem zkb {w:World}{cs:List Value}(h:Rd prog w 24 cs):∃ v l,cs=[v]∧ScrQ w v l:=by
 obtain⟨ao,len,cap,rfl,hm,hc⟩:=Rd.slice (sz:=16) underlying24 (by kernel_rfl) (by decide) h
 by_cases h0:len=0
 ·subst h0
  exact⟨_,[],rfl,⟨ao,cap,rfl,fun h=>absurd rfl h⟩⟩
 ·obtain⟨b,off,rfl,hi⟩:=hc (by omega)
  obtain⟨l,hl,hp⟩:=zj2 (p:=fun j (s:zgr)=>zrK s∧w.rangeAt b (off+j*16) (stC s)∧IntsC w s.pv s.op.picks) len (by
   intro i hlt;obtain⟨es,_,hr,hcell⟩:=hi i hlt;obtain⟨s,rfl,hio,hwo⟩:=znH hr
   exact⟨s,hwo,hcell,hio⟩)
  subst hl
  exact⟨_,l,rfl,⟨some ⟨b,off,none⟩,cap,rfl,fun _=>⟨b,off,rfl,hp⟩⟩⟩
theorem ScrQ.old {w w':World}{v:Value}{l:List zgr}{P:zsi}(h:ScrQ w v l)(hs:Sat w' (P*Sl.old w)):ScrQ w' v l:=by
 have hk:=hs.of_old
 have hcell:∀ (a:Addr) u,w.cell? a=some u→w'.cell? a=some u:=fun a u hu=>(World.cell?_of_block (hk a.block (World.block_lt_of_cell? _ _ hu))).trans hu
 obtain⟨ao,cap,rfl,hc⟩:=h;refine⟨ao,cap,rfl,fun hne=>?_⟩;obtain⟨b,off,rfl,hp⟩:=hc hne;refine⟨b,off,rfl,fun j o hj=>?_⟩;obtain⟨hwo,h1,h2⟩:=hp j o hj;exact⟨hwo,fun i u hu=>hcell _ _ (h1 i u hu),IntsC.old h2 hs⟩
theorem ze5 {w:World}{b o:Nat}{s:zgr}(h:w.rangeAt b o (stC s)):
  w.rangeAt b o (opN s.op s.pv).toList∧w.cell? ⟨b,o+11,none⟩=some (.bool s.save)∧w.cell? ⟨b,o+12,none⟩=some (.int .i64 s.c.gen.epoch)∧w.cell? ⟨b,o+13,none⟩=some (.int .i64 s.c.gen.count)∧w.cell? ⟨b,o+14,none⟩=some (.int .i64 s.c.seq)∧w.cell? ⟨b,o+15,none⟩=some (.string (zae s.c.image)):=by
 refine⟨fun j u hu=>h j u ?_,h 11 _ rfl,h 12 _ rfl,h 13 _ rfl,h 14 _ rfl,h 15 _ rfl⟩;unfold stC;rw[List.getElem?_append_left (List.getElem?_eq_some_iff.1 hu).1];exact hu
def zqo (s:zgr):Bool:=decide (s.c.image.length≤600)&&decide (s.c.gen.epoch<1048576)
def zeI (c:zsl)(l:List zgr):Bool:=zhZ c&&decide (l.length≤50)&&l.all zqo
structure zsa (w:World)(l:List zgr)(F:zsi)(i:Value)(wr:World):Prop where
 st:∃ k:Nat,k≤l.length∧i = .int .i64 (k:Int)∧(∀ j s,j<k→l[j]?=some s→zqo s=true)∧Same w wr∧Sat wr F
theorem zko (c:zsl)(v:Value)(l:List zgr)(F:zsi)(w:World)(hF:Sat w F)(hscr:∀ w',Sat w' F→ScrQ w' v l):
  Calls prog 6 #[.agg (za8 c),v] w fun e w'=>e = .returned (.bool (zeI c l))∧Hid (Same w w'∧Sat w' F):=by
 obtain⟨ao,cap,rfl,_⟩:=hscr w hF;have H1:=(zd ((Same.refl w).alloc (.cells (za8 c) zcC)) (hF.alloc (.cells (za8 c) zcC)));have HSC:=zh hscr;have hsm:=zh (zn0 c (w.alloc (.cells (za8 c) zcC)));clear hF hscr
 cases h1:zhZ c with
 | false =>
  rw[h1] at hsm;have HR:=zh (show zeI c l=false from by unfold zeI;rw[h1];rfl);clear h1;go_enter func6,ntmps6;go_wp2_with (go_at_call 27;refine hsm.out.mono ?_;rintro e w1 ⟨rfl,hb⟩;replace H1:=(zd (H1.out.1.below hb.out) (H1.out.2.below hb.out));clear hb hsm);go_ret;exact⟨by rw[HR.out];rfl,H1.out.1,H1.out.2.right⟩
 | true =>
 rw[h1] at hsm
 by_cases hl:l.length≤50
 case neg =>
  have HR:=zh (show zeI c l=false from by unfold zeI;rw[decide_eq_false hl,Bool.and_false];rfl);have hld:decide ((50:Int)<(l.length:Int))=true:=decide_eq_true (by omega);have hld2:decide (50<l.length)=true:=decide_eq_true (by omega);clear h1 hl;go_enter func6,ntmps6;go_wp2_with (go_at_call 27;refine hsm.out.mono ?_;rintro e w1 ⟨rfl,hb⟩;replace H1:=(zd (H1.out.1.below hb.out) (H1.out.2.below hb.out));clear hb hsm);go_ret;exact⟨by rw[HR.out];rfl,H1.out.1,H1.out.2.right⟩
 case pos =>
 have hld:decide ((50:Int)<(l.length:Int))=false:=decide_eq_false (by omega);have hld2:decide (50<l.length)=false:=decide_eq_false (by omega);have HR:=zh (show zeI c l=l.all zqo from by unfold zeI;rw[h1,decide_eq_true hl];rfl);have HL:=zh hl;obtain⟨ti,hti,hts⟩:=Option.map_eq_some_iff.1 (show (prog.info? zp5).map (·.size)=some 16 by kernel_rfl);clear h1 hl;go_enter func6,ntmps6;go_upto_region 4 with (go_at_call 27;refine hsm.out.mono ?_;rintro e w1 ⟨rfl,hb⟩;replace H1:=(zd (H1.out.1.below hb.out) (H1.out.2.below hb.out).right);clear hb hsm)
 clear hld hld2
 go_loopw [5] (fun i wr=>zsa w l F i wr) (fun i _=>l.length - (intOf i).toNat)
 case atStart=>exact⟨0,Nat.zero_le _,rfl,fun j s hj=>by omega,H1.out.1,H1.out.2⟩
 case round =>
  clear H1;obtain⟨k,hk,rfl,hall,hsm2,hs⟩:=hrel.st;clear hrel;have H1:=(zd hsm2 hs);have HALL:=zh hall;clear hall hsm2 hs
  have hk50:(k:Int)≤50:=by have:=HL.out;omega
  by_cases hlt:k<l.length
  case neg =>
   have hltd:decide ((k:Int)<(l.length:Int))=false:=decide_eq_false (by omega);have hltn:decide (k<l.length)=false:=decide_eq_false hlt
   have HB:=zh (show zeI c l=true from by
    rw[HR.out,List.all_eq_true];intro s hs;obtain⟨j,hj⟩:=List.mem_iff_getElem?.1 hs
    exact HALL.out j s (by have:=(List.getElem?_eq_some_iff.1 hj).1;omega) hj)
   clear hlt hk;go_wp2;go_ret;exact⟨by rw[HB.out];rfl,H1.out.1,H1.out.2⟩
  case pos =>
   have hltd:decide ((k:Int)<(l.length:Int))=true:=decide_eq_true (by omega);have hltn:decide (k<l.length)=true:=decide_eq_true hlt
   have hkn:(k:Int)<(l.length:Int):=by omega
   have hk0:(0:Int)≤(k:Int):=by omega
   obtain⟨s,hs⟩:∃ s,l[k]?=some s:=⟨_,List.getElem?_eq_getElem hlt⟩;obtain⟨ao',cap',hv,hcell⟩:=HSC.out wr H1.out.2;simp only[Value.slice.injEq,true_and] at hv;obtain⟨rfl,rfl⟩:=hv;obtain⟨b,off,rfl,hc⟩:=hcell (by rintro rfl;simp at hlt);obtain⟨hwf,hrg,-⟩:=hc k s hs;obtain⟨-,-,q12,-,-,q15⟩:=ze5 hrg;have hsz:(zae s.c.image).size=s.c.image.length:=zap s.c.image;obtain⟨im,him⟩:∃ im,s.c.image=im:=⟨_,rfl⟩;obtain⟨ge,hge⟩:∃ ge,s.c.gen.epoch=ge:=⟨_,rfl⟩;rw[him] at q15 hsz;rw[hge] at q12;have HS:=zh (show l[k]?=some s∧zqo s=(decide (im.length≤600)&&decide (ge<1048576)) from⟨hs,by unfold zqo;rw[him,hge]⟩)
   have HK:=zh hlt;clear hs hwf hrg hc hcell him hge hlt hk
   have HBAD:=zh (show zqo s=false→zeI c l=false from fun h=>by
    rw[HR.out,Bool.eq_false_iff];intro h2;rw[List.all_eq_true] at h2;rw[h2 s (List.mem_of_getElem? HS.out.1)] at h
    cases h)
   by_cases hi6:im.length≤600
   case neg =>
    have hd1:decide ((600:Int)<(im.length:Int))=true:=decide_eq_true (by omega);have hd2:decide (600<im.length)=true:=decide_eq_true (by omega);have HB:=zh (HBAD.out (by rw[HS.out.2,decide_eq_false hi6];rfl));clear hi6;go_wp2;go_ret;exact⟨by rw[HB.out];rfl,H1.out.1,H1.out.2⟩
   case pos =>
    have hd1:decide ((600:Int)<(im.length:Int))=false:=decide_eq_false (by omega);have hd2:decide (600<im.length)=false:=decide_eq_false (by omega)
    by_cases he:ge<1048576
    case neg =>
     have hd3:decide ((1048576:Int)≤ge)=true:=decide_eq_true (by omega);have HB:=zh (HBAD.out (by rw[HS.out.2,decide_eq_false he,Bool.and_false]));clear he hi6;go_wp2;go_ret;exact⟨by rw[HB.out];rfl,H1.out.1,H1.out.2⟩
    case pos =>
     have hd3:decide ((1048576:Int)≤ge)=false:=decide_eq_false (by omega);have HG:=zh (show zqo s=true from by rw[HS.out.2,decide_eq_true he,decide_eq_true hi6];rfl);clear he hi6;go_wp2
     exact⟨⟨k+1,HK.out,rfl,fun j t hj ht=>by
      rcases Nat.lt_or_ge j k with h|h
      ·exact HALL.out j t h ht
      ·obtain rfl:j=k:=by omega
       have:=HS.out.1;rw[ht] at this
       injection this with this
       rw[this];exact HG.out,H1.out.1,H1.out.2⟩,by have:=HK.out;simp only[intOf];omega⟩
theorem zk7 {p:Nat}{S:zsg}{F:zsi}{w:World}{k g gs n capb caps:Nat}{vi:Value}{ps qs:List Nat}{q:Nat}{R:zsi}{D:zsh}(ho:zfe S k ps qs q R)(q':Nat)(D':zsh)(st:Int)(hn:S.bays.length=n)(hwf:(S.setBay k ⟨D',st⟩).WF)
  (h:Sat w (zha p S (.slice (some ⟨g,0,none⟩) n capb) (.slice (some ⟨gs,0,none⟩) n caps) vi ps qs q D R (zbF RT q' D'*F))):
  Sat ((w.setCell ⟨g,k,none⟩ (zaB q')).setCell ⟨gs,k,none⟩ (.int .i64 st)) (zad RS p (S.setBay k ⟨D',st⟩)*(zbF RT q D*F)):=by
 have hk:=(List.getElem?_eq_some_iff.1 ho.bay).1
 have e1:(S.setBay k ⟨D',st⟩).bays=S.bays.set k ⟨D',st⟩:=by unfold zsg.setBay;rw[Int.toNat_natCast]
 have e2:(S.setBay k ⟨D',st⟩).bays.map zsk.disk=(S.bays.map zsk.disk).set k D':=by rw[e1,List.map_set]
 have e3:(S.setBay k ⟨D',st⟩).bays.map stV=(S.bays.map stV).set k (.int .i64 st):=by rw[e1,List.map_set];rfl
 have e4:(S.setBay k ⟨D',st⟩).bays.length=S.bays.length:=by rw[e1,List.length_set]
 have e5:(ps.set k q').map zaB=(ps.map zaB).set k (zaB q'):=by rw[List.map_set]
 refine za9.2 ⟨.slice (some ⟨g,0,none⟩) n capb,.slice (some ⟨gs,0,none⟩) n caps,vi,ps.set k q',qs,⟨hwf,by rw[e4,List.length_set];exact ho.lb,ho.li⟩,?_⟩;rw[e2,e3,e4,e5];rw[show RS.rf=RT from rfl,ho.set q' D',zax];unfold zha at h
 have h1:=zby (h.perm (show _=zaf TRp 1 (.slice (some ⟨g,0,none⟩) n capb) S.bays.length (ps.map zaB)*(pts p (.cells (rsC S.cfg (.slice (some ⟨g,0,none⟩) n capb) (.slice (some ⟨gs,0,none⟩) n caps) vi (!S.off) S.rleft) ze9 (0,0))*(zaf 3 1 (.slice (some ⟨gs,0,none⟩) n caps) S.bays.length (S.bays.map stV)*(zaf TRp 1 vi S.images.length (qs.map zaB) *
  (zbF RT q D*(R*(zbA RT qs S.images*(zbF RT q' D'*F))))))) from by ac_rfl)) (by omega) (g:=g) (cap:=capb) (by rw[hn]) (j:=k) (zaB q')
 have h2:=zby (h1.perm (show _=zaf 3 1 (.slice (some ⟨gs,0,none⟩) n caps) S.bays.length (S.bays.map stV)*(pts p (.cells (rsC S.cfg (.slice (some ⟨g,0,none⟩) n capb) (.slice (some ⟨gs,0,none⟩) n caps) vi (!S.off) S.rleft) ze9 (0,0))*(zaf TRp 1 (.slice (some ⟨g,0,none⟩) n capb) S.bays.length ((ps.map zaB).set k (zaB q'))*(zaf TRp 1 vi S.images.length (qs.map zaB) *
  (zbF RT q D*(R*(zbA RT qs S.images*(zbF RT q' D'*F))))))) from by ac_rfl)) (by omega) (g:=gs) (cap:=caps) (by rw[hn]) (j:=k) (.int .i64 st)
 exact h2.perm (show _=pts p (.cells (rsC S.cfg (.slice (some ⟨g,0,none⟩) n capb) (.slice (some ⟨gs,0,none⟩) n caps) vi (!S.off) S.rleft) ze9 (0,0))*(zaf TRp 1 (.slice (some ⟨g,0,none⟩) n capb) S.bays.length ((ps.map zaB).set k (zaB q'))*(zaf 3 1 (.slice (some ⟨gs,0,none⟩) n caps) S.bays.length ((S.bays.map stV).set k (.int .i64 st))*(zaf TRp 1 vi S.images.length (qs.map zaB) *
  (zbF RT q' D'*(R*(zbA RT qs S.images*(zbF RT q D*F))))))) from by ac_rfl)
end Go.Proofs.YtmcclbiaoeilkaaGreat
end
