import Derived.RangeFuncKeeps
import Derived.RangeFuncBound
import Derived.RangeFuncLeaves
import Derived.RangeFuncBox
import Derived.Test.YtmcclbiaoeilkaaGreatQ38
import Derived.Test.YtmcclbiaoeilkaaGreatQ36
set_option maxHeartbeats 4000000
set_option maxRecDepth 100000
/- Part 39 of a proof;the last part says what is proved. -/
section
namespace Go.Proofs.YtmcclbiaoeilkaaGreat
open Go.Proofs.Tryz Go.RowKit Go.Sl Go.ChangeMaps Go.Shelf
attribute [local go_sem] Oper.semAt_some
abbrev zmx:TypeId:=28
def zfO (a:Act)(t1 t2 p1 p2:Tmp)(u v:Value):Act:={ tmps:=(((a.tmps.setIfInBounds t1 u).setIfInBounds t2 v).setIfInBounds p1 u).setIfInBounds p2 v,defers:=[] }
theorem zfb {α:Type}{F:Fence}{n:Nat}{P:Program}{g:Operand}{t1 t2 p1 p2:Tmp}{u v:α→Value}{assign body:Code}{Q:Exit→Act→World→Prop}{a:Act}{w:World}
  (hro:F.round=none) (h1:1≤n) {gf:Nat} {lb:Array Value} (hg:a.eval g = .func (.func gf) #[] lb) (hFg:F.fn gf) (eg:∀ args w,(callFunc gf args).run P w = .ok (.enter gf args) w)
  {xs:List α} {Bx:zsi} {w0:World} (hseq:zmw F (n - 1) P gf lb (fun x=>#[u x,v x]) xs Bx w0)
  (R:Nat→zsi) (Rx:Code→zsi) (hsm:Same w0 w) (h0:Sat w (R 0*Bx))
  (hassign:∀ (l:Nat) (x:α) (W:World) (K:Act→World→Prop),K (zfO a t1 t2 p1 p2 (u x) (v x)) W→assign.wpIn (F.inRound l) (n - 1 - 1) P (Exit.then K (fun _ _ _=>False)) { tmps:=(a.tmps.setIfInBounds t1 (u x)).setIfInBounds t2 (v x),defers:=[] } W)
  (hbody:∀ (l i:Nat) (x:α) (G:zsi) (W:World),xs[i]?=some x→Same w0 W→Sat W (R i*G)→body.wpIn (F.inRound l) (n - 1 - 1) P (znT w0 (R (i+1)) Rx G) (zfO a t1 t2 p1 p2 (u x) (v x)) W)
  (hdone:∀ (D:Nat) (W:World),Same w0 W→Sat W (R xs.length*(pts D (.deferred (some []))*Bx))→Q .normal { a with defers:={ target:=.collected D,args:=#[] }::a.defers } W)
  (hstop:∀ (D:Nat) (c:Code) (W:World),Same w0 W→Sat W (Rx c*(pts D (.deferred (some []))*Bx))→c.wpIn F n P Q { a with defers:={ target:=.collected D,args:=#[] }::a.defers } W):
  (Code.rangeFunc g #[t1,t2] assign body).wpIn F n P Q a w:=
 zfV hro h1 hg hFg eg hseq (fun _=>rfl) R Rx hsm h0 (fun x=>zfO a t1 t2 p1 p2 (u x) (v x)) (fun l x W K hK=>by
  have h:=hassign l x W K hK
  simpa using h) hbody hdone hstop
theorem zdU {P:Program}{tmps:Array Value}{w:World}{fn:Func}{r1:ResultVar}{v1:Value}(h:fn.results=#[r1])(h1:ResIs P tmps w r1 v1):(results fn tmps).run P w = .ok v1 w:=by
 cases h1 <;> simp_all [results,asAddr]
def wrA (d area:Int)(c:CkM)(S:zsg):Nat→zsg×Int
 | 0=>(S,0)
 | k+1=>if (wrA d area c S k).2≠0 then wrA d area c S k else (wrA d area c S k).1.write ⟨d,area,k⟩ (zbX ⟨d,area,k⟩ c.gen (zcs c k))
theorem ziF {d area:Int}{c:CkM}{S:zsg}{k:Nat}(h:(wrA d area c S k).2=0):wrA d area c S (k+1)=(wrA d area c S k).1.write ⟨d,area,k⟩ (zbX ⟨d,area,k⟩ c.gen (zcs c k)):=by
 show (if _ then _ else _)=_;rw[if_neg (by rw[h];simp)]
theorem zgB {d area:Int}{c:CkM}{S:zsg}{k:Nat}(h:(wrA d area c S k).2≠0):∀ m,wrA d area c S (k+m)=wrA d area c S k
 | 0=>rfl
 | m+1=>by
  have e:=zgB h m;show (if (wrA d area c S (k+m)).2≠0 then wrA d area c S (k+m) else _)=_;rw[e,if_pos h]
theorem zln {d area:Int}{c:CkM}{S:zsg}:∀ (k j:Nat),(wrA d area c S j).2=0→zd0 d area c (wrA d area c S j).1 j k=if (wrA d area c S (j+k)).2≠0 then wrA d area c S (j+k) else (wrA d area c S (j+k)).1.flush d
 | 0,j,h=>by rw[Nat.add_zero,if_neg (by rw[h];simp)];rfl
 | k+1,j,h=>by
  have e:=ziF h;show (if _ then _ else _)=_;rw[← e]
  by_cases h2:(wrA d area c S (j+1)).2=0
  ·rw[if_neg (by rw[h2];simp),zln k (j+1) h2,show j+1+k=j+(k+1) by omega]
  ·rw[if_pos h2,show j+(k+1)=j+1+k by omega,zgB h2 k,if_pos h2]
theorem ze8 (d area:Int)(c:CkM)(S:zsg):zbH S d area c=if (wrA d area c S (zaR c+1)).2≠0 then wrA d area c S (zaR c+1) else (wrA d area c S (zaR c+1)).1.flush d:=by
 have h:=zln (d:=d) (area:=area) (c:=c) (S:=S) (zaR c+1) 0 rfl;rw[Nat.zero_add] at h;exact h
def wrF (sB dB aB cB eB p:Nat)(d area:Int)(c:CkM)(e:Int)(X:zsi):zsi:=pts sB (.cells #[.pointer (some ⟨p,0,none⟩)] ziH (0,0))*(pts dB (.cells #[d] zbP (0,0))*(pts aB (.cells #[area] zbP (0,0))*(pts cB (.cells (ckA c) TCk (0,0))*(pts eB (.cells #[e] zmx (0,0))*X))))
theorem ze7 {sB dB aB cB eB p:Nat}{d area e ge gc:Int}{sq:Int}{im:List UInt8}{X:zsi}{w:World}(h:Sat w (wrF sB dB aB cB eB p d area ⟨⟨ge,gc⟩,sq,im⟩ e X)):
  (w.cell? ⟨sB,0,none⟩=some (.pointer (some ⟨p,0,none⟩))∧w.cell? ⟨dB,0,none⟩=some (.int .i64 d)∧w.cell? ⟨aB,0,none⟩=some (.int .i64 area))∧(w.cell? ⟨cB,0,none⟩=some (.int .i64 ge)∧w.cell? ⟨cB,1,none⟩=some (.int .i64 gc)∧w.cell? ⟨cB,2,none⟩=some (.int .i64 sq)∧w.cell? ⟨cB,3,none⟩=some (.string (zae im)))∧(w.cell? ⟨eB,0,none⟩=some (.int .i64 e)∧w.frozen? ⟨eB,0,none⟩=false)∧sB<w.heap.size∧dB<w.heap.size∧aB<w.heap.size∧cB<w.heap.size∧eB<w.heap.size:=by
 unfold wrF at h;have h2:=h.right;have h3:=h2.right;have h4:=h3.right;have h5:=h4.right;exact⟨⟨zab h.block 0,zab h2.block 0,zab h3.block 0⟩,⟨zab h4.block 0,zab h4.block 1,zab h4.block 2,zab h4.block 3⟩,⟨zab h5.block 0,zaj h5.block 0⟩,h.lt,h2.lt,h3.lt,h4.lt,h5.lt⟩
theorem zeK (sB dB aB cB eB p:Nat)(d area:Int)(c:CkM)(e:Int)(X G:zsi):wrF sB dB aB cB eB p d area c e X*G=wrF sB dB aB cB eB p d area c e (X*G):=by unfold wrF;ac_rfl
theorem zrr (sB dB aB cB eB p:Nat)(d area:Int)(c:CkM)(e:Int)(X Y D Z:zsi):wrF sB dB aB cB eB p d area c e (X*(Y*(D*Z)))=D*wrF sB dB aB cB eB p d area c e (X*(Y*Z)):=by unfold wrF;ac_rfl
theorem zlm {sB dB aB cB eB p:Nat}{d area e:Int}{c:CkM}{X:zsi}{w:World}(h:Sat w (wrF sB dB aB cB eB p d area c e X)):Sat w X:=by unfold wrF at h;exact h.right.right.right.right.right
theorem zlo {w:World}{sB dB aB cB eB p:Nat}{d area e:Int}{c:CkM}{X:zsi}(h:Sat w (wrF sB dB aB cB eB p d area c e X))(e2:Int):Sat (w.setCell ⟨eB,0,none⟩ (.int .i64 e2)) (wrF sB dB aB cB eB p d area c e2 X):=by
 unfold wrF at h ⊢;exact ((h.perm (show _=pts eB (.cells #[e] zmx (0,0))*(pts sB (.cells #[.pointer (some ⟨p,0,none⟩)] ziH (0,0))*(pts dB (.cells #[d] zbP (0,0))*(pts aB (.cells #[area] zbP (0,0))*(pts cB (.cells (ckA c) TCk (0,0))*X)))) from by ac_rfl)).setCell (i:=0) (.int .i64 e2)).perm (by ac_rfl)
theorem zp3 {w:World}{sB dB aB cB eB p:Nat}{d area e:Int}{c:CkM}{X:zsi}(h:Sat w (wrF sB dB aB cB eB p d area c e X)){tmps:Array Value}(h8:tmps.getD 8 undef = .pointer (some ⟨eB,0,none⟩)):
  (results Tryz.f37 tmps).run prog w = .ok (.int .i64 e) w:=by
 unfold wrF at h;have h6:=zab h.right.right.right.right.block;refine zdU results37 (.cell h8 ?_);have h60:=h6 0;simp at h60;simp[loadVar,go_sem,h60]
def wrR (S:zsg)(p sB dB aB cB eB:Nat)(d area:Int)(c:CkM)(F:zsi)(i:Nat):zsi:=lift ((wrA d area c S i).2=0)*wrF sB dB aB cB eB p d area c 0 (zac SH p (wrA d area c S i).1*F)
def wrX (S:zsg)(p sB dB aB cB eB:Nat)(d area:Int)(c:CkM)(F:zsi)(x:Code):zsi:=match x with
 | .ret=>lift ((wrA d area c S (zaR c+1)).2≠0)*wrF sB dB aB cB eB p d area c (wrA d area c S (zaR c+1)).2 (zac SH p (wrA d area c S (zaR c+1)).1*F)
 | _=>lift False
def zjQ (p:Nat)(S:zsg)(F:zsi)(d area:Int)(c:CkM)(w:World)(e:Ending)(w':World):Prop:=e = .returned (.int .i64 (zbH S d area c).2)∧Hid (Same w w'∧Sat w' (zac SH p (zbH S d area c).1*F))
theorem zlZ {w:World}{B:Nat}{x y z:Int}{X:zsi}(h:Sat w (pts B (.cells #[x,y,z] TPl (0,0))*X)):w.cell? ⟨B,0,none⟩=some (.int .i64 x)∧w.cell? ⟨B,1,none⟩=some (.int .i64 y)∧w.cell? ⟨B,2,none⟩=some (.int .i64 z)∧B<w.heap.size:=
 ⟨zab h.block 0,zab h.block 1,zab h.block 2,h.lt⟩
theorem zlw (F':Fence)(hF:Free F' prog)(n:Nat)(hn3:3≤n)(p:Nat)(S:zsg)(F:zsi)(d area ge gc:Int)(sq:Nat)(im:List UInt8)(hsq:sq<9223372036854775808)(him:im.length≤2621440)(hseal:∀ k:Nat,k<zaR ⟨⟨ge,gc⟩,(sq:Int),im⟩+1→zdr ⟨d,area,(k:Int)⟩ ⟨ge,gc⟩ (zcs ⟨⟨ge,gc⟩,(sq:Int),im⟩ k)=true)(w:World)(hS:Sat w (zac SH p S*F)):
  CallsIn F' n prog 37 #[.pointer (some ⟨p,0,none⟩),d,area,.agg #[ge,gc,(sq:Int),.string (zae im)]] w (zjQ p S F d area ⟨⟨ge,gc⟩,(sq:Int),im⟩ w):=by
 have hdd:∀ k:Nat,(F'.depth.isSome=true→1≤k):=hF.ask;have hro:=hF.round;have hfn:=hF.fn
 have h1n:1≤n:=by omega
 have hA:=((((hS.alloc (.cells #[.pointer (some ⟨p,0,none⟩)] ziH)).alloc (.cells #[d] zbP)).alloc (.cells #[area] zbP)).alloc (.cells #[ge,gc,(sq:Int),.string (zae im)] TCk)).alloc (.cells #[.int .i64 0] zmx);simp only[World.size_alloc] at hA
 have H1:=zh (show Same w (((((w.alloc (.cells #[.pointer (some ⟨p,0,none⟩)] ziH)).alloc (.cells #[d] zbP)).alloc (.cells #[area] zbP)).alloc (.cells #[ge,gc,(sq:Int),.string (zae im)] TCk)).alloc (.cells #[.int .i64 0] zmx))∧Sat (((((w.alloc (.cells #[.pointer (some ⟨p,0,none⟩)] ziH)).alloc (.cells #[d] zbP)).alloc (.cells #[area] zbP)).alloc (.cells #[ge,gc,(sq:Int),.string (zae im)] TCk)).alloc (.cells #[.int .i64 0] zmx)) (wrF w.heap.size (w.heap.size+1) (w.heap.size+1+1) (w.heap.size+1+1+1) (w.heap.size+1+1+1+1) p d area ⟨⟨ge,gc⟩,(sq:Int),im⟩ 0 (zac SH p S*F)) from⟨(((((Same.refl w).alloc _).alloc _).alloc _).alloc _).alloc _,hA.perm (by unfold wrF;ac_rfl)⟩)
 have HPY:=zh (show ∀ (W:World) (X:zsi),Sat W X→Calls prog 86 #[.agg #[ge,gc,(sq:Int),.string (zae im)]] W _ from fun W X h=>zmH ⟨⟨ge,gc⟩,(sq:Int),im⟩ X W h);have HSEAL:=zh hseal;clear hA hS hseal;obtain⟨⟨s0,d0,a0⟩,⟨k0,k1,k2,k3⟩,⟨e0,e1⟩,l1,l2,l3,l4,l5⟩:=ze7 H1.out.2;refine callsIn_of_wp_marks func37 rfl (hF.fn _) ?_ hF.round;simp only[ntmps37,List.size_toArray,List.length_cons,List.length_nil,Nat.reduceAdd,Nat.reduceSub,Array.replicate_succ,Array.replicate_zero,List.push_toArray,List.append_toArray,List.nil_append,List.cons_append]
 gi_wp2_with ((try refine⟨hdd _,?_⟩);gi_at_call 86;(with_reducible refine (hF.calls _ _ _ _ _ (HPY.out _ _ H1.out.2)).mono ?_);rintro e w7 ⟨B,rfl,h7⟩)
 replace H1:=(zt H1 h7);clear s0 d0 a0 k0 k1 k2 k3 e0 e1 l1 l2 l3 l4 l5 h7;generalize w.heap.size+1+1+1+1=eB at H1 ⊢;generalize w.heap.size+1+1+1=cB at H1 ⊢;generalize w.heap.size+1+1=aB at H1 ⊢;generalize w.heap.size+1=dB at H1 ⊢;generalize w.heap.size=sB at H1 ⊢;refine zfb (w0:=w) (t1:=16) (t2:=17) (p1:=9) (p2:=10) (u:=fun x:Nat×List UInt8=>.int .i64 (x.1:Int)) (v:=fun x=>.string (zae x.2)) hro h1n (gf:=132) (lb:=#[.pointer (some ⟨B,0,none⟩)]) rfl (hfn _) (enters_of func132 (by kernel_rfl) rfl)
  (xs:=zqS ⟨⟨ge,gc⟩,(sq:Int),im⟩) (Bx:=pyB B ⟨⟨ge,gc⟩,(sq:Int),im⟩) (zmI F' hF (n - 1) B ⟨ge,gc⟩ sq im hsq him w) (wrR S p sB dB aB cB eB d area ⟨⟨ge,gc⟩,(sq:Int),im⟩ F) (wrX S p sB dB aB cB eB d area ⟨⟨ge,gc⟩,(sq:Int),im⟩ F) H1.out.1 ?h0 ?assign ?body ?done ?stop
 case h0 =>
  unfold wrR;rw[zax];exact Sat.lift.2 ⟨rfl,H1.out.2.perm (zcf _ _)⟩
 case assign =>
  intro l x W K hK;unfold zfO at hK;simp only[zq] at hK ⊢;gi_wp2;exact hK
 case body =>
  intro l i x G W hx hsm hs
  have hil:i<zaR ⟨⟨ge,gc⟩,(sq:Int),im⟩+1:=by
   have:=(List.getElem?_eq_some_iff.1 hx).1
   rwa [zin] at this
  rw[znG hil] at hx;cases hx;unfold wrR at hs;rw[zax] at hs;obtain⟨hw0,hs⟩:=Sat.lift.1 hs;rw[zeK,zax] at hs;have hsucc:=ziF hw0;have hRI:wrR S p sB dB aB cB eB d area ⟨⟨ge,gc⟩,(sq:Int),im⟩ F (i+1)=lift ((wrA d area ⟨⟨ge,gc⟩,(sq:Int),im⟩ S (i+1)).2=0)*wrF sB dB aB cB eB p d area ⟨⟨ge,gc⟩,(sq:Int),im⟩ 0 (zac SH p (wrA d area ⟨⟨ge,gc⟩,(sq:Int),im⟩ S (i+1)).1*F):=rfl
  have hXI:(wrA d area ⟨⟨ge,gc⟩,(sq:Int),im⟩ S (i+1)).2≠0→wrX S p sB dB aB cB eB d area ⟨⟨ge,gc⟩,(sq:Int),im⟩ F .ret=lift ((wrA d area ⟨⟨ge,gc⟩,(sq:Int),im⟩ S (i+1)).2≠0)*wrF sB dB aB cB eB p d area ⟨⟨ge,gc⟩,(sq:Int),im⟩ (wrA d area ⟨⟨ge,gc⟩,(sq:Int),im⟩ S (i+1)).2 (zac SH p (wrA d area ⟨⟨ge,gc⟩,(sq:Int),im⟩ S (i+1)).1*F):=fun h=>by
   have e:=zgB h (zaR ⟨⟨ge,gc⟩,(sq:Int),im⟩ - i);rw[show i+1+(zaR ⟨⟨ge,gc⟩,(sq:Int),im⟩ - i)=zaR ⟨⟨ge,gc⟩,(sq:Int),im⟩+1 by omega] at e;unfold wrX;simp only[e]
  have hok:=HSEAL.out i hil;simp only at hsucc;generalize zcs ⟨⟨ge,gc⟩,(sq:Int),im⟩ i=pay at hsucc hok ⊢;generalize (wrA d area ⟨⟨ge,gc⟩,(sq:Int),im⟩ S i).1=SI at hs hsucc
  have HSE:=zh (show ∀ W' X,Sat W' X→Calls prog 87 #[.agg #[d,area,(i:Int)],.agg #[ge,gc],.string (zae pay)] W' fun e w'=>e = .returned (.tuple #[.string (zae (zbX ⟨d,area,(i:Int)⟩ ⟨ge,gc⟩ pay)),.int .i64 0])∧Hid (Same W' w'∧Sat w' X) from fun W' X h=>zpz ⟨d,area,(i:Int)⟩ ⟨ge,gc⟩ pay hok X W' h)
  generalize zbX ⟨d,area,(i:Int)⟩ ⟨ge,gc⟩ pay=sec at hsucc HSE;obtain⟨⟨S2,k⟩,hsk⟩:∃ x,SI.write ⟨d,area,(i:Int)⟩ sec=x:=⟨_,rfl⟩
  have HWRI:=zh (show ∀ W' X Y,Sat W' (X*wrF sB dB aB cB eB p d area ⟨⟨ge,gc⟩,(sq:Int),im⟩ 0 (zac SH p SI*Y))→Calls prog 43 #[.pointer (some ⟨p,0,none⟩),.agg #[d,area,(i:Int)],.string (zae sec)] W' fun e w'=>e = .returned (.int .i64 k)∧Hid (Same W' w'∧Sat w' (X*wrF sB dB aB cB eB p d area ⟨⟨ge,gc⟩,(sq:Int),im⟩ 0 (zac SH p S2*Y))) from fun W' X Y h=>by
   have h2:=zh4 p SI (X*wrF sB dB aB cB eB p d area ⟨⟨ge,gc⟩,(sq:Int),im⟩ 0 Y) ⟨d,area,(i:Int)⟩ sec W' (h.perm (by unfold wrF;ac_rfl));rw[hsk] at h2
   exact h2.mono fun e w' h'=>⟨h'.1,h'.2.out.1,h'.2.out.2.perm (by unfold wrF;ac_rfl)⟩)
  rw[hsk] at hsucc;rw[hsucc] at hXI hRI;simp only at hXI hRI;have HXI:=(zd hXI hRI);clear hXI hRI hsucc hok hsk hw0;replace H1:=(zd hsm hs);clear hsm hs;obtain⟨⟨s0,d0,a0⟩,⟨k0,k1,k2,k3⟩,⟨e0,e1⟩,l1,l2,l3,l4,l5⟩:=ze7 H1.out.2;unfold zfO;simp only[zq];have H2:=(zd (H1.out.1.alloc (.cells #[d,area,(i:Int)] TPl)) (H1.out.2.alloc (.cells #[d,area,(i:Int)] TPl)))
  gi_wp2_with ((try refine⟨hdd _,?_⟩);gi_at_call 87;(with_reducible refine (hF.callsR l _ (HSE.out _ _ H2.out.2)).mono ?_);rintro e w8 ⟨rfl,h8⟩;replace H2:=(zd (H2.out.1.trans h8.out.1) h8.out.2);clear h8;clear s0 d0 a0 k0 k1 k2 k3 e0 e1 l1 l2 l3 l4 l5;obtain⟨⟨s0,d0,a0⟩,⟨k0,k1,k2,k3⟩,⟨e0,e1⟩,l1,l2,l3,l4,l5⟩:=ze7 H2.out.2.right;obtain⟨pc0,pc1,pc2,plt⟩:=zlZ H2.out.2)
  (try refine⟨hdd _,?_⟩);refine (hF.callsR l _ (HWRI.out _ _ _ H2.out.2)).mono ?_;rintro e w9 ⟨rfl,h9⟩;replace H2:=(zd (H2.out.1.trans h9.out.1) h9.out.2);clear s0 d0 a0 k0 k1 k2 k3 e0 e1 l1 l2 l3 l4 l5;clear h9 pc0 pc1 pc2 plt
  by_cases hk:k=0
  ·have hkb:(k != 0)=false:=by simp[hk]
   have HK:=zh hk;clear hk;dsimp only;gi_wp2;refine⟨H2.out.1,?_⟩;rw[HXI.out.2,zax,zeK,zax];exact Sat.lift.2 ⟨HK.out,H2.out.2.right⟩
  ·have hkb:(k != 0)=true:=by simp[hk]
   have HK:=zh hk;clear hk;obtain⟨⟨s0,d0,a0⟩,⟨k0,k1,k2,k3⟩,⟨e0,e1⟩,l1,l2,l3,l4,l5⟩:=ze7 H2.out.2.right;dsimp only;gi_wp2;refine⟨H2.out.1.setCell _ _,?_⟩;rw[HXI.out.1 HK.out,zax,zeK,zax];exact Sat.lift.2 ⟨HK.out,zlo H2.out.2.right k⟩
 case done =>
  intro D W hsm hs;rw[zin] at hs;unfold wrR at hs;rw[zax] at hs;obtain⟨hw0,hs⟩:=Sat.lift.1 hs;rw[zeK,zax] at hs;have hwm:=ze8 d area ⟨⟨ge,gc⟩,(sq:Int),im⟩ S;rw[if_neg (by rw[hw0];simp)] at hwm;generalize (wrA d area ⟨⟨ge,gc⟩,(sq:Int),im⟩ S (zaR ⟨⟨ge,gc⟩,(sq:Int),im⟩+1)).1=SN at hs hwm;obtain⟨⟨S2,k⟩,hsk⟩:∃ x,SN.flush d=x:=⟨_,rfl⟩
  have HFL:=zh (show ∀ W' Y,Sat W' (wrF sB dB aB cB eB p d area ⟨⟨ge,gc⟩,(sq:Int),im⟩ 0 (zac SH p SN*Y))→Calls prog 45 #[.pointer (some ⟨p,0,none⟩),d] W' fun e w'=>e = .returned (.int .i64 k)∧Hid (Same W' w'∧Sat w' (wrF sB dB aB cB eB p d area ⟨⟨ge,gc⟩,(sq:Int),im⟩ 0 (zac SH p S2*Y))) from fun W' Y h=>by
   have h2:=zhY p SN (wrF sB dB aB cB eB p d area ⟨⟨ge,gc⟩,(sq:Int),im⟩ 0 Y) d W' (h.perm (by unfold wrF;ac_rfl));rw[hsk] at h2
   exact h2.mono fun e w' h'=>⟨h'.1,h'.2.out.1,h'.2.out.2.perm (by unfold wrF;ac_rfl)⟩)
  rw[hsk] at hwm;have HWM:=zh hwm;replace H1:=(zd hsm hs);clear hsm hs hw0 hwm hsk;obtain⟨⟨s0,d0,a0⟩,⟨k0,k1,k2,k3⟩,⟨e0,e1⟩,l1,l2,l3,l4,l5⟩:=ze7 H1.out.2
  gi_wp2_with ((try refine⟨hdd _,?_⟩);gi_at_call 45;(with_reducible refine (hF.calls _ _ _ _ _ (HFL.out _ _ H1.out.2)).mono ?_);rintro e w8 ⟨rfl,h8⟩;replace H1:=(zt H1 h8);clear h8;clear s0 d0 a0 k0 k1 k2 k3 e0 e1 l1 l2 l3 l4 l5;obtain⟨⟨s0,d0,a0⟩,⟨k0,k1,k2,k3⟩,⟨e0,e1⟩,l1,l2,l3,l4,l5⟩:=ze7 H1.out.2)
  have hp:=(zlo H1.out.2 k).perm (zrr _ _ _ _ _ _ _ _ _ _ _ _ _ _);refine⟨by simp,.inl ⟨_,_,rfl,run_takeDeferred hp.block,?_⟩⟩;have hq:=(hp.putObj (o':=.deferred none)).right;refine⟨_,zp3 hq rfl,?_⟩;unfold zjQ;rw[HWM.out];refine⟨rfl,(H1.out.1.setCell _ _).putObj _ _,?_⟩;have hz:=zlm hq;rw[← zax] at hz;exact hz.left
 case stop =>
  intro D c W hsm hs
  cases c <;> (unfold wrX at hs) <;> (try exact ((Sat.lift.1 hs).1).elim)
  rw[zax] at hs;obtain⟨hw0,hs⟩:=Sat.lift.1 hs;rw[zeK,zax] at hs;gi_wp2;have hp:=hs.perm (zrr _ _ _ _ _ _ _ _ _ _ _ _ _ _);refine⟨by simp,.inl ⟨_,_,rfl,run_takeDeferred hp.block,?_⟩⟩;have hq:=(hp.putObj (o':=.deferred none)).right;refine⟨_,zp3 hq rfl,?_⟩;unfold zjQ;rw[ze8,if_pos hw0];refine⟨rfl,hsm.putObj _ _,?_⟩;have hz:=zlm hq;rw[← zax] at hz;exact hz.left
end Go.Proofs.YtmcclbiaoeilkaaGreat
end
section
namespace Go.Proofs.YtmcclbiaoeilkaaGreat
open Go.Proofs.Tryz Go.RowKit Go.Sl Go.ChangeMaps
abbrev TFd:TypeId:=62
abbrev fdA (r:Int×CkM×Int):Array Value:=#[.int .i64 r.1,.int .i64 r.2.1.gen.epoch,.int .i64 r.2.1.gen.count,.int .i64 r.2.1.seq,.string (zae r.2.1.image),.int .i64 r.2.2]
theorem zrt (w:World):(zeroValue TFd).run prog w = .ok (.agg #[.int .i64 0,.int .i64 0,.int .i64 0,.int .i64 0,.string ⟨#[]⟩,.int .i64 0]) w:=by kernel_rfl
theorem zi3 {c:Array Value}(h:c.size=6):(prog.info? TFd).map (·.size)=some c.size:=by rw[h];kernel_rfl
theorem ziV {w:World}{r:Nat}{a0 a1 a2 a3 a4 a5:Value}{X:zsi}(h:Sat w (pts r (.cells #[a0,a1,a2,a3,a4,a5] TFd (0,0))*X))(x y z u v t:Value):
  Sat ((((((w.setCell ⟨r,0,none⟩ x).setCell ⟨r,1,none⟩ y).setCell ⟨r,2,none⟩ z).setCell ⟨r,3,none⟩ u).setCell ⟨r,4,none⟩ v).setCell ⟨r,5,none⟩ t) (pts r (.cells #[x,y,z,u,v,t] TFd (0,0))*X):=
 (((((h.setCell (i:=0) x).setCell (i:=1) y).setCell (i:=2) z).setCell (i:=3) u).setCell (i:=4) v).setCell (i:=5) t
theorem zgK {w w0:World}{r:Nat}(h:Same w0 w)(x y z u v t:Value):Same w0 ((((((w.setCell ⟨r,0,none⟩ x).setCell ⟨r,1,none⟩ y).setCell ⟨r,2,none⟩ z).setCell ⟨r,3,none⟩ u).setCell ⟨r,4,none⟩ v).setCell ⟨r,5,none⟩ t):=(((((h.setCell _ _).setCell _ _).setCell _ _).setCell _ _).setCell _ _).setCell _ _
theorem zci {w:World}{B:Nat}{a0 a1 a2 a3 a4 a5:Value}{X:zsi}(h:Sat w (pts B (.cells #[a0,a1,a2,a3,a4,a5] TFd (0,0))*X)):
  (w.cell? ⟨B,0,none⟩=some a0∧w.cell? ⟨B,1,none⟩=some a1∧w.cell? ⟨B,2,none⟩=some a2∧w.cell? ⟨B,3,none⟩=some a3∧w.cell? ⟨B,4,none⟩=some a4∧w.cell? ⟨B,5,none⟩=some a5)∧w.frozen? ⟨B,0,none⟩=false∧w.frozen? ⟨B,1,none⟩=false∧w.frozen? ⟨B,2,none⟩=false∧w.frozen? ⟨B,3,none⟩=false∧w.frozen? ⟨B,4,none⟩=false∧w.frozen? ⟨B,5,none⟩=false:=
 ⟨⟨zab h.block 0,zab h.block 1,zab h.block 2,zab h.block 3,zab h.block 4,zab h.block 5⟩,zaj h.block 0,zaj h.block 1,zaj h.block 2,zaj h.block 3,zaj h.block 4,zaj h.block 5⟩
def zot (p:Nat)(S:zsg)(F:zsi)(r:Int×CkM×Int)(w:World)(e:Ending)(w':World):Prop:=e = .returned (.agg (fdA r))∧Hid (Same w w'∧Sat w' (zad RS p S*F))
theorem zeB (p:Nat)(S:zsg)(F:zsi)(d:Int)(w:World)(hS:Sat w (zad RS p S*F)):
  Calls prog 19 #[.pointer (some ⟨p,0,none⟩),d] w (zot p S F (zbs S d) w):=by
 have hnm:zbs S d=if (zaS S d 3).2=0∧((zaS S d 2).2≠0∨zcm (zaS S d 3).1.gen (zaS S d 2).1.gen=true) then (3,(zaS S d 3).1,0)
  else if (zaS S d 2).2=0 then (2,(zaS S d 2).1,0) else (0,ck0,(zaS S d 2).2):=rfl
 have HA:=zh (fun (W:World) (X:zsi) (h:Sat W (zad RS p S*X))=>ze1 p S X d 2 W h)
 have HB:=zh (fun (W:World) (X:zsi) (h:Sat W (zad RS p S*X))=>ze1 p S X d 3 W h)
 generalize zbs S d=N at hnm ⊢;generalize zaS S d 2=ra at hnm HA;generalize zaS S d 3=rb at hnm HB;obtain⟨⟨⟨ae,ac⟩,aq,ai⟩,e1⟩:=ra;obtain⟨⟨⟨be,bc⟩,bq,bi⟩,f1⟩:=rb;simp only at hnm;have HN:=zh hnm;clear hnm
 replace HA:=zh (show ∀ (W:World) (X:zsi),Sat W (zad RS p S*X)→Calls prog 21 #[.pointer (some ⟨p,0,none⟩),d,.int .i64 2] W fun e w'=>e = .returned (.tuple #[.agg #[ae,ac,aq,.string (zae ai)],e1])∧Hid (Same W w'∧Sat w' (zad RS p S*X)) from HA.out)
 replace HB:=zh (show ∀ (W:World) (X:zsi),Sat W (zad RS p S*X)→Calls prog 21 #[.pointer (some ⟨p,0,none⟩),d,.int .i64 3] W fun e w'=>e = .returned (.tuple #[.agg #[be,bc,bq,.string (zae bi)],f1])∧Hid (Same W w'∧Sat w' (zad RS p S*X)) from HB.out)
 have HNW:=zh (fun W=>zgV ⟨be,bc⟩ ⟨ae,ac⟩ W);have H1:=(zd ((Same.refl w).alloc (.cells #[.int .i64 0,.int .i64 0,.int .i64 0,.int .i64 0,.string ⟨#[]⟩,.int .i64 0] TFd)) ((hS.alloc (.cells #[.int .i64 0,.int .i64 0,.int .i64 0,.int .i64 0,.string ⟨#[]⟩,.int .i64 0] TFd)).perm (show _=zad RS p S*(pts w.heap.size (.cells #[.int .i64 0,.int .i64 0,.int .i64 0,.int .i64 0,.string ⟨#[]⟩,.int .i64 0] TFd (0,0))*F) from by ac_rfl)));clear hS;go_enter func19,ntmps19;go_upto_region 1 with ((with_reducible (refine zai ?_ TFd ?_ _ (zrt _) ?_));rfl;rfl)
 generalize w.alloc (.cells #[.int .i64 0,.int .i64 0,.int .i64 0,.int .i64 0,.string ⟨#[]⟩,.int .i64 0] TFd)=w1 at H1 ⊢;generalize w.heap.size=fB at H1 ⊢;go_upto_region 2 with (go_at_call 21;refine (HA.out w1 _ H1.out.2).mono ?_;rintro e w2 ⟨rfl,h2⟩;replace H1:=(zt H1 h2);clear h2)
 replace H1:=(zd (H1.out.1.alloc (.cells #[ae,ac,aq,.string (zae ai)] TCk)) ((H1.out.2.alloc (.cells #[ae,ac,aq,.string (zae ai)] TCk)).perm (show _=zad RS p S*(pts fB (.cells #[.int .i64 0,.int .i64 0,.int .i64 0,.int .i64 0,.string ⟨#[]⟩,.int .i64 0] TFd (0,0))*(pts w2.heap.size (.cells #[ae,ac,aq,.string (zae ai)] TCk (0,0))*F)) from by ac_rfl)));change Code.wp _ _ _ _ (w2.alloc (.cells #[ae,ac,aq,.string (zae ai)] TCk));generalize w2.alloc (.cells #[ae,ac,aq,.string (zae ai)] TCk)=w3 at H1 ⊢;generalize w2.heap.size=aB at H1 ⊢
 go_upto_region 3 with (go_at_call 21;refine (HB.out w3 _ H1.out.2).mono ?_;rintro e w4 ⟨rfl,h2⟩;replace H1:=(zt H1 h2);clear h2);replace H1:=(zd (H1.out.1.alloc (.cells #[be,bc,bq,.string (zae bi)] TCk)) ((H1.out.2.alloc (.cells #[be,bc,bq,.string (zae bi)] TCk)).perm (show _=pts fB (.cells #[.int .i64 0,.int .i64 0,.int .i64 0,.int .i64 0,.string ⟨#[]⟩,.int .i64 0] TFd (0,0))*(pts aB (.cells #[ae,ac,aq,.string (zae ai)] TCk (0,0))*(pts w4.heap.size (.cells #[be,bc,bq,.string (zae bi)] TCk (0,0))*(zad RS p S*F))) from by ac_rfl)))
 change Code.wp _ _ _ _ (w4.alloc (.cells #[be,bc,bq,.string (zae bi)] TCk));generalize w4.alloc (.cells #[be,bc,bq,.string (zae bi)] TCk)=w5 at H1 ⊢;generalize w4.heap.size=bB at H1 ⊢
 have HCL:=zh (show ∀ (W:World),Sat W (pts fB (.cells #[.int .i64 0,.int .i64 0,.int .i64 0,.int .i64 0,.string ⟨#[]⟩,.int .i64 0] TFd (0,0))*(pts aB (.cells #[ae,ac,aq,.string (zae ai)] TCk (0,0))*(pts bB (.cells #[be,bc,bq,.string (zae bi)] TCk (0,0))*(zad RS p S*F))))→(W.cell? ⟨aB,0,none⟩=some (.int .i64 ae)∧W.cell? ⟨aB,1,none⟩=some (.int .i64 ac)∧W.cell? ⟨aB,2,none⟩=some (.int .i64 aq)∧W.cell? ⟨aB,3,none⟩=some (.string (zae ai)))∧(W.cell? ⟨bB,0,none⟩=some (.int .i64 be)∧W.cell? ⟨bB,1,none⟩=some (.int .i64 bc)∧W.cell? ⟨bB,2,none⟩=some (.int .i64 bq)∧W.cell? ⟨bB,3,none⟩=some (.string (zae bi))) from fun W h=>⟨(zas h.right).1,(zas h.right.right).1⟩)
 by_cases he:e1=0
 case neg =>
  have hed:(e1 != 0)=true:=bne_iff_ne.2 he
  by_cases hf:f1=0
  case neg =>
   have hfd:(f1 != 0)=true:=bne_iff_ne.2 hf;have HR:=zh (show N=(0,ck0,e1) from by rw[HN.out,if_neg (fun h=>hf h.1),if_neg he]);clear he hf;obtain⟨⟨z0,z1,z2,z3,z4,z5⟩,y0,y1,y2,y3,y4,y5⟩:=zci H1.out.2;obtain⟨⟨p0,p1,p2,p3⟩,q0,q1,q2,q3⟩:=HCL.out _ H1.out.2;go_wp2_with (go_at_call 70;refine (HNW.out w5).mono ?_;rintro e w6 ⟨rfl,hb⟩;replace H1:=(zd (H1.out.1.below hb) (H1.out.2.below hb));clear hb z0 z1 z2 z3 z4 z5 y0 y1 y2 y3 y4 y5 p0 p1 p2 p3 q0 q1 q2 q3;obtain⟨⟨z0,z1,z2,z3,z4,z5⟩,y0,y1,y2,y3,y4,y5⟩:=zci H1.out.2;obtain⟨⟨p0,p1,p2,p3⟩,q0,q1,q2,q3⟩:=HCL.out _ H1.out.2)
   have H2:=(zd (zgK (r:=fB) H1.out.1 (.int .i64 0) (.int .i64 0) (.int .i64 0) (.int .i64 0) (.string ⟨#[]⟩) (.int .i64 e1)) (ziV H1.out.2 (.int .i64 0) (.int .i64 0) (.int .i64 0) (.int .i64 0) (.string ⟨#[]⟩) (.int .i64 e1)));refine bodyPost_ret (v:=.agg #[.int .i64 0,.int .i64 0,.int .i64 0,.int .i64 0,.string ⟨#[]⟩,e1]) (zdU results19 (ResIs.row rfl H2.out.2.block underlying62 rfl (zi3 rfl))) rfl ?_;exact⟨by rw[HR.out];rfl,H2.out.1,H2.out.2.right.right.right⟩
  case pos =>
   subst hf;have HR:=zh (show N=(3,⟨⟨be,bc⟩,bq,bi⟩,0) from by rw[HN.out,if_pos ⟨rfl,.inl he⟩]);clear he;obtain⟨⟨z0,z1,z2,z3,z4,z5⟩,y0,y1,y2,y3,y4,y5⟩:=zci H1.out.2;obtain⟨⟨p0,p1,p2,p3⟩,q0,q1,q2,q3⟩:=HCL.out _ H1.out.2;go_wp2_with (go_at_call 70;refine (HNW.out w5).mono ?_;rintro e w6 ⟨rfl,hb⟩;replace H1:=(zd (H1.out.1.below hb) (H1.out.2.below hb));clear hb z0 z1 z2 z3 z4 z5 y0 y1 y2 y3 y4 y5 p0 p1 p2 p3 q0 q1 q2 q3;obtain⟨⟨z0,z1,z2,z3,z4,z5⟩,y0,y1,y2,y3,y4,y5⟩:=zci H1.out.2;obtain⟨⟨p0,p1,p2,p3⟩,q0,q1,q2,q3⟩:=HCL.out _ H1.out.2)
   have H2:=(zd (zgK (r:=fB) H1.out.1 (.int .i64 3) (.int .i64 be) (.int .i64 bc) (.int .i64 bq) (.string (zae bi)) (.int .i64 0)) (ziV H1.out.2 (.int .i64 3) (.int .i64 be) (.int .i64 bc) (.int .i64 bq) (.string (zae bi)) (.int .i64 0)));refine bodyPost_ret (v:=.agg #[.int .i64 3,be,bc,bq,.string (zae bi),.int .i64 0]) (zdU results19 (ResIs.row rfl H2.out.2.block underlying62 rfl (zi3 rfl))) rfl ?_;exact⟨by rw[HR.out],H2.out.1,H2.out.2.right.right.right⟩
 case pos =>
  subst he
  by_cases hf:f1=0
  case neg =>
   have hfd:(f1==0)=false:=by simp[hf]
   have HR:=zh (show N=(2,⟨⟨ae,ac⟩,aq,ai⟩,0) from by rw[HN.out,if_neg (fun h=>hf h.1),if_pos rfl]);clear hf;obtain⟨⟨z0,z1,z2,z3,z4,z5⟩,y0,y1,y2,y3,y4,y5⟩:=zci H1.out.2;obtain⟨⟨p0,p1,p2,p3⟩,q0,q1,q2,q3⟩:=HCL.out _ H1.out.2;go_wp2_with (go_at_call 70;refine (HNW.out w5).mono ?_;rintro e w6 ⟨rfl,hb⟩;replace H1:=(zd (H1.out.1.below hb) (H1.out.2.below hb));clear hb z0 z1 z2 z3 z4 z5 y0 y1 y2 y3 y4 y5 p0 p1 p2 p3 q0 q1 q2 q3;obtain⟨⟨z0,z1,z2,z3,z4,z5⟩,y0,y1,y2,y3,y4,y5⟩:=zci H1.out.2;obtain⟨⟨p0,p1,p2,p3⟩,q0,q1,q2,q3⟩:=HCL.out _ H1.out.2)
   have H2:=(zd (zgK (r:=fB) H1.out.1 (.int .i64 2) (.int .i64 ae) (.int .i64 ac) (.int .i64 aq) (.string (zae ai)) (.int .i64 0)) (ziV H1.out.2 (.int .i64 2) (.int .i64 ae) (.int .i64 ac) (.int .i64 aq) (.string (zae ai)) (.int .i64 0)));refine bodyPost_ret (v:=.agg #[.int .i64 2,ae,ac,aq,.string (zae ai),.int .i64 0]) (zdU results19 (ResIs.row rfl H2.out.2.block underlying62 rfl (zi3 rfl))) rfl ?_;exact⟨by rw[HR.out],H2.out.1,H2.out.2.right.right.right⟩
  case pos =>
   subst hf
   cases hn:zcm ⟨be,bc⟩ ⟨ae,ac⟩ with
   | true =>
    have HR:=zh (show N=(3,⟨⟨be,bc⟩,bq,bi⟩,0) from by rw[HN.out,if_pos ⟨rfl,.inr hn⟩]);rw[hn] at HNW;clear hn;obtain⟨⟨z0,z1,z2,z3,z4,z5⟩,y0,y1,y2,y3,y4,y5⟩:=zci H1.out.2;obtain⟨⟨p0,p1,p2,p3⟩,q0,q1,q2,q3⟩:=HCL.out _ H1.out.2;go_wp2_with (go_at_call 70;refine (HNW.out w5).mono ?_;rintro e w6 ⟨rfl,hb⟩;replace H1:=(zd (H1.out.1.below hb) (H1.out.2.below hb));clear hb z0 z1 z2 z3 z4 z5 y0 y1 y2 y3 y4 y5 p0 p1 p2 p3 q0 q1 q2 q3;obtain⟨⟨z0,z1,z2,z3,z4,z5⟩,y0,y1,y2,y3,y4,y5⟩:=zci H1.out.2;obtain⟨⟨p0,p1,p2,p3⟩,q0,q1,q2,q3⟩:=HCL.out _ H1.out.2)
    have H2:=(zd (zgK (r:=fB) H1.out.1 (.int .i64 3) (.int .i64 be) (.int .i64 bc) (.int .i64 bq) (.string (zae bi)) (.int .i64 0)) (ziV H1.out.2 (.int .i64 3) (.int .i64 be) (.int .i64 bc) (.int .i64 bq) (.string (zae bi)) (.int .i64 0)));refine bodyPost_ret (v:=.agg #[.int .i64 3,be,bc,bq,.string (zae bi),.int .i64 0]) (zdU results19 (ResIs.row rfl H2.out.2.block underlying62 rfl (zi3 rfl))) rfl ?_;exact⟨by rw[HR.out],H2.out.1,H2.out.2.right.right.right⟩
   | false =>
    have HR:=zh (show N=(2,⟨⟨ae,ac⟩,aq,ai⟩,0) from by rw[HN.out,if_neg (fun h=>by rcases h.2 with h|h;exact h rfl;rw[hn] at h;cases h),if_pos rfl]);rw[hn] at HNW;clear hn;obtain⟨⟨z0,z1,z2,z3,z4,z5⟩,y0,y1,y2,y3,y4,y5⟩:=zci H1.out.2;obtain⟨⟨p0,p1,p2,p3⟩,q0,q1,q2,q3⟩:=HCL.out _ H1.out.2;go_wp2_with (go_at_call 70;refine (HNW.out w5).mono ?_;rintro e w6 ⟨rfl,hb⟩;replace H1:=(zd (H1.out.1.below hb) (H1.out.2.below hb));clear hb z0 z1 z2 z3 z4 z5 y0 y1 y2 y3 y4 y5 p0 p1 p2 p3 q0 q1 q2 q3;obtain⟨⟨z0,z1,z2,z3,z4,z5⟩,y0,y1,y2,y3,y4,y5⟩:=zci H1.out.2;obtain⟨⟨p0,p1,p2,p3⟩,q0,q1,q2,q3⟩:=HCL.out _ H1.out.2)
    have H2:=(zd (zgK (r:=fB) H1.out.1 (.int .i64 2) (.int .i64 ae) (.int .i64 ac) (.int .i64 aq) (.string (zae ai)) (.int .i64 0)) (ziV H1.out.2 (.int .i64 2) (.int .i64 ae) (.int .i64 ac) (.int .i64 aq) (.string (zae ai)) (.int .i64 0)));refine bodyPost_ret (v:=.agg #[.int .i64 2,ae,ac,aq,.string (zae ai),.int .i64 0]) (zdU results19 (ResIs.row rfl H2.out.2.block underlying62 rfl (zi3 rfl))) rfl ?_;exact⟨by rw[HR.out],H2.out.1,H2.out.2.right.right.right⟩
end Go.Proofs.YtmcclbiaoeilkaaGreat
end
