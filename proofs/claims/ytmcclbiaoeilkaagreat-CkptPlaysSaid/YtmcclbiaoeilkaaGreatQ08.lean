import Derived.Deep.DeepCutAuto
import Derived.Test.YtmcclbiaoeilkaaGreatQ07
set_option maxHeartbeats 2000000
/- Part 8 of a proof;the last part says what is proved. -/
section
namespace Go.Proofs.YtmcclbiaoeilkaaGreat
open Go.Proofs.Tryz Go.RowKit Go.Sl Go.ChangeMaps
abbrev zb8 (c:zsl):Array Value:=#[.int .i64 c.log,.int .i64 c.image,.int .i64 c.image,.int .i64 c.rows]
structure zou (w1:World)(c:zsl)(x:Int)(m:Nat)(n i:Value)(wr:World):Prop where
 st:wr=w1∧∃ k:Nat,k≤m∧i = .int .i64 k∧n = .int .i64 (x+zgi c k)
theorem zlS (p:Nat)(S:zsg)(F:zsi)(a:zsj)(w:World)(hS:Sat w (zac SH p S*F))(h:S.state a.disk=0∨a.area<1∨4<a.area):
  Calls prog 90 #[.pointer (some ⟨p,0,none⟩),.agg (plA a)] w fun e w'=>e = .returned (.int .i64 (-1))∧Below w.heap.size w w':=by
 have hst:=fun o=>zdY p S F a.disk (w.alloc o) (hS.allocKeep o)
 have HST:=zh (hst (.cells (plA a) TPl));clear hst hS
 generalize S.state a.disk=st at *
 by_cases h0:st=0
 ·subst h0
  clear h;go_enter func90,ntmps90;go_wp2_with (go_at_call 36;refine HST.out.mono ?_;rintro e w' ⟨rfl,rfl⟩);go_ret;exact⟨rfl,(Below.refl _ _).alloc (Nat.le_refl _) _⟩
 ·have hb:(st==0)=false:=by simp[h0]
  by_cases h1:a.area<1
  ·have hb1:decide (a.area<1)=true:=decide_eq_true h1
   clear h h0 h1;go_enter func90,ntmps90;go_wp2_with (go_at_call 36;refine HST.out.mono ?_;rintro e w' ⟨rfl,rfl⟩);go_ret;exact⟨rfl,(Below.refl _ _).alloc (Nat.le_refl _) _⟩
  ·have hb1:decide (a.area<1)=false:=decide_eq_false h1
   have hb2:decide (4<a.area)=true:=decide_eq_true (by omega);clear h h0 h1;go_enter func90,ntmps90;go_wp2_with (go_at_call 36;refine HST.out.mono ?_;rintro e w' ⟨rfl,rfl⟩);go_ret;exact⟨rfl,(Below.refl _ _).alloc (Nat.le_refl _) _⟩
theorem zj6 (p:Nat)(S:zsg)(F:zsi)(d ix:Int)(m:Nat)(hm:m<4)(w:World)(hS:Sat w (zac SH p S*F))(h:S.state d≠0):
  Calls prog 90 #[.pointer (some ⟨p,0,none⟩),.agg (plA ⟨d,(m:Int)+1,ix⟩)] w fun e w' =>
   e = .returned (.int .i64 (if ix<0∨S.cfg.size ((m:Int)+1)≤ix then -1 else ix+S.cfg.base ((m:Int)+1)))∧Below w.heap.size w w':=by
 have hwf:=zaE hS
 have hst:=fun o=>zdY p S F d (w.alloc o) (hS.allocKeep o)
 have HST:=zh (hst (.cells (plA ⟨d,(m:Int)+1,ix⟩) TPl));obtain⟨vb,vi,ps,qs,⟨_,h1,h2⟩,hs⟩:=zbJ.1 hS;obtain⟨⟨q6,q7,q8,q9,q10⟩,hp,hfp,hra⟩:=zaU hs;have c0:=hra 0 _ rfl;have c1:=hra 1 _ rfl;have c2:=hra 2 _ rfl;have c3:=hra 3 _ rfl;have c4:=hra 4 _ rfl;have c5:=hra 5 _ rfl;simp only[Nat.zero_add] at c0 c1 c2 c3 c4 c5;have hlog:=hwf.cfg.log;have himg:=hwf.cfg.image;have hrow:=hwf.cfg.rows
 have hb:(S.state d==0)=false:=by simp[h]
 generalize S.state d=st at *
 generalize S.cfg=c at *
 clear hs hS hfp hra h1 h2 q6 q7 q8 q9 q10 h hwf hst;rcases (show m=0∨m=1∨m=2∨m=3 by omega) with rfl|rfl|rfl|rfl
 ·have hsz:c.size ((0:Nat)+1:Int)=c.log:=rfl
  have hbs:c.base ((0:Nat)+1:Int)=0:=rfl;rw[hsz,hbs];clear hsz hbs
  by_cases hx:ix<0
  ·have hx1:decide (ix<0)=true:=decide_eq_true hx
   rw[if_pos (.inl hx)];clear hx;go_enter func90,ntmps90
   go_upto_region 4 with (first
    | (go_at_call 36;refine HST.out.mono ?_;rintro e w' ⟨rfl,rfl⟩)
    | (go_at_call 84;refine (zbT c _).mono ?_;rintro e w1 ⟨rfl,hb1⟩))
   have hA:=(((Sat.old w).alloc (.cells (plA ⟨d,1,ix⟩) TPl)).below hb1).alloc (.cells (zb8 c) 125);have hSm:=(((Same.refl w).alloc (.cells (plA ⟨d,1,ix⟩) TPl)).below hb1).alloc (.cells (zb8 c) 125);generalize w1.alloc (.cells (zb8 c) 125)=W at hA hSm ⊢;generalize w1.heap.size=B1 at hA ⊢;generalize w.heap.size=B0 at hA ⊢;clear hb1 c0 c1 c2 c3 c4 c5;have d0:W.cell? ⟨B0,0,none⟩=some (.int .i64 d):=zab hA.right.block 0;have d1:W.cell? ⟨B0,1,none⟩=some (.int .i64 1):=zab hA.right.block 1;have d2:W.cell? ⟨B0,2,none⟩=some (.int .i64 ix):=zab hA.right.block 2
   have e0:W.cell? ⟨B1,0,none⟩=some (.int .i64 c.log):=zab hA.block 0;have e1:W.cell? ⟨B1,1,none⟩=some (.int .i64 c.image):=zab hA.block 1;have e2:W.cell? ⟨B1,2,none⟩=some (.int .i64 c.image):=zab hA.block 2;have e3:W.cell? ⟨B1,3,none⟩=some (.int .i64 c.rows):=zab hA.block 3;have HA:=zh hA;have HSM:=zh hSm;clear hA hSm
   go_quiet (fail)
   go_wp2;go_ret;exact⟨rfl,(HSM.out.drewN _).below_of (HA.out.drewN _).right⟩
  ·have hx1:decide (ix<0)=false:=decide_eq_false hx
   by_cases hy:c.log≤ix
   ·have hy1:decide (c.log≤ix)=true:=decide_eq_true hy
    rw[if_pos (.inr hy)];clear hx hy;go_enter func90,ntmps90
    go_upto_region 4 with (first
     | (go_at_call 36;refine HST.out.mono ?_;rintro e w' ⟨rfl,rfl⟩)
     | (go_at_call 84;refine (zbT c _).mono ?_;rintro e w1 ⟨rfl,hb1⟩))
    have hA:=(((Sat.old w).alloc (.cells (plA ⟨d,1,ix⟩) TPl)).below hb1).alloc (.cells (zb8 c) 125);have hSm:=(((Same.refl w).alloc (.cells (plA ⟨d,1,ix⟩) TPl)).below hb1).alloc (.cells (zb8 c) 125);generalize w1.alloc (.cells (zb8 c) 125)=W at hA hSm ⊢;generalize w1.heap.size=B1 at hA ⊢;generalize w.heap.size=B0 at hA ⊢;clear hb1 c0 c1 c2 c3 c4 c5;have d0:W.cell? ⟨B0,0,none⟩=some (.int .i64 d):=zab hA.right.block 0;have d1:W.cell? ⟨B0,1,none⟩=some (.int .i64 1):=zab hA.right.block 1;have d2:W.cell? ⟨B0,2,none⟩=some (.int .i64 ix):=zab hA.right.block 2
    have e0:W.cell? ⟨B1,0,none⟩=some (.int .i64 c.log):=zab hA.block 0;have e1:W.cell? ⟨B1,1,none⟩=some (.int .i64 c.image):=zab hA.block 1;have e2:W.cell? ⟨B1,2,none⟩=some (.int .i64 c.image):=zab hA.block 2;have e3:W.cell? ⟨B1,3,none⟩=some (.int .i64 c.rows):=zab hA.block 3;have HA:=zh hA;have HSM:=zh hSm;clear hA hSm
    go_quiet (fail)
    go_wp2;go_ret;exact⟨rfl,(HSM.out.drewN _).below_of (HA.out.drewN _).right⟩
   ·have hy1:decide (c.log≤ix)=false:=decide_eq_false hy
    rw[if_neg (by rintro (h|h);exact hx h;exact hy h)]
    have hx2:0≤ix:=by omega
    have hy2:ix≤65536:=by omega
    clear hx hy;go_enter func90,ntmps90
    go_upto_region 4 with (first
     | (go_at_call 36;refine HST.out.mono ?_;rintro e w' ⟨rfl,rfl⟩)
     | (go_at_call 84;refine (zbT c _).mono ?_;rintro e w1 ⟨rfl,hb1⟩))
    have hA:=(((Sat.old w).alloc (.cells (plA ⟨d,1,ix⟩) TPl)).below hb1).alloc (.cells (zb8 c) 125);have hSm:=(((Same.refl w).alloc (.cells (plA ⟨d,1,ix⟩) TPl)).below hb1).alloc (.cells (zb8 c) 125);generalize w1.alloc (.cells (zb8 c) 125)=W at hA hSm ⊢;generalize w1.heap.size=B1 at hA ⊢;generalize w.heap.size=B0 at hA ⊢;clear hb1 c0 c1 c2 c3 c4 c5;have d0:W.cell? ⟨B0,0,none⟩=some (.int .i64 d):=zab hA.right.block 0;have d1:W.cell? ⟨B0,1,none⟩=some (.int .i64 1):=zab hA.right.block 1;have d2:W.cell? ⟨B0,2,none⟩=some (.int .i64 ix):=zab hA.right.block 2
    have e0:W.cell? ⟨B1,0,none⟩=some (.int .i64 c.log):=zab hA.block 0;have e1:W.cell? ⟨B1,1,none⟩=some (.int .i64 c.image):=zab hA.block 1;have e2:W.cell? ⟨B1,2,none⟩=some (.int .i64 c.image):=zab hA.block 2;have e3:W.cell? ⟨B1,3,none⟩=some (.int .i64 c.rows):=zab hA.block 3;have HA:=zh hA;have HSM:=zh hSm;clear hA hSm
    go_quiet (fail)
    go_wp2
    go_loopw [6,8,49] (fun n _ i wr=>zou (W.drewN nq) c ix 0 n i wr) (fun _ _ i _=>0 - (intOf i).toNat)
    case atStart=>exact⟨rfl,0,by omega,rfl,by simp[zgi]⟩
    case round =>
     obtain⟨rfl,k,hk,rfl,rfl⟩:=hrel.st;clear hrel;rcases (show k=0 by omega) with rfl
     ·have hps:zgi c 0=0:=rfl
      rw[hps];clear hps;go_wp2;go_ret;exact⟨rfl,(HSM.out.drewN _).below_of (HA.out.drewN _).right⟩
 ·have hsz:c.size ((1:Nat)+1:Int)=c.image:=rfl
  have hbs:c.base ((1:Nat)+1:Int)=c.log:=rfl;rw[hsz,hbs];clear hsz hbs
  by_cases hx:ix<0
  ·have hx1:decide (ix<0)=true:=decide_eq_true hx
   rw[if_pos (.inl hx)];clear hx;go_enter func90,ntmps90
   go_upto_region 4 with (first
    | (go_at_call 36;refine HST.out.mono ?_;rintro e w' ⟨rfl,rfl⟩)
    | (go_at_call 84;refine (zbT c _).mono ?_;rintro e w1 ⟨rfl,hb1⟩))
   have hA:=(((Sat.old w).alloc (.cells (plA ⟨d,2,ix⟩) TPl)).below hb1).alloc (.cells (zb8 c) 125);have hSm:=(((Same.refl w).alloc (.cells (plA ⟨d,2,ix⟩) TPl)).below hb1).alloc (.cells (zb8 c) 125);generalize w1.alloc (.cells (zb8 c) 125)=W at hA hSm ⊢;generalize w1.heap.size=B1 at hA ⊢;generalize w.heap.size=B0 at hA ⊢;clear hb1 c0 c1 c2 c3 c4 c5;have d0:W.cell? ⟨B0,0,none⟩=some (.int .i64 d):=zab hA.right.block 0;have d1:W.cell? ⟨B0,1,none⟩=some (.int .i64 2):=zab hA.right.block 1;have d2:W.cell? ⟨B0,2,none⟩=some (.int .i64 ix):=zab hA.right.block 2
   have e0:W.cell? ⟨B1,0,none⟩=some (.int .i64 c.log):=zab hA.block 0;have e1:W.cell? ⟨B1,1,none⟩=some (.int .i64 c.image):=zab hA.block 1;have e2:W.cell? ⟨B1,2,none⟩=some (.int .i64 c.image):=zab hA.block 2;have e3:W.cell? ⟨B1,3,none⟩=some (.int .i64 c.rows):=zab hA.block 3;have HA:=zh hA;have HSM:=zh hSm;clear hA hSm
   go_quiet (fail)
   go_wp2;go_ret;exact⟨rfl,(HSM.out.drewN _).below_of (HA.out.drewN _).right⟩
  ·have hx1:decide (ix<0)=false:=decide_eq_false hx
   by_cases hy:c.image≤ix
   ·have hy1:decide (c.image≤ix)=true:=decide_eq_true hy
    rw[if_pos (.inr hy)];clear hx hy;go_enter func90,ntmps90
    go_upto_region 4 with (first
     | (go_at_call 36;refine HST.out.mono ?_;rintro e w' ⟨rfl,rfl⟩)
     | (go_at_call 84;refine (zbT c _).mono ?_;rintro e w1 ⟨rfl,hb1⟩))
    have hA:=(((Sat.old w).alloc (.cells (plA ⟨d,2,ix⟩) TPl)).below hb1).alloc (.cells (zb8 c) 125);have hSm:=(((Same.refl w).alloc (.cells (plA ⟨d,2,ix⟩) TPl)).below hb1).alloc (.cells (zb8 c) 125);generalize w1.alloc (.cells (zb8 c) 125)=W at hA hSm ⊢;generalize w1.heap.size=B1 at hA ⊢;generalize w.heap.size=B0 at hA ⊢;clear hb1 c0 c1 c2 c3 c4 c5;have d0:W.cell? ⟨B0,0,none⟩=some (.int .i64 d):=zab hA.right.block 0;have d1:W.cell? ⟨B0,1,none⟩=some (.int .i64 2):=zab hA.right.block 1;have d2:W.cell? ⟨B0,2,none⟩=some (.int .i64 ix):=zab hA.right.block 2
    have e0:W.cell? ⟨B1,0,none⟩=some (.int .i64 c.log):=zab hA.block 0;have e1:W.cell? ⟨B1,1,none⟩=some (.int .i64 c.image):=zab hA.block 1;have e2:W.cell? ⟨B1,2,none⟩=some (.int .i64 c.image):=zab hA.block 2;have e3:W.cell? ⟨B1,3,none⟩=some (.int .i64 c.rows):=zab hA.block 3;have HA:=zh hA;have HSM:=zh hSm;clear hA hSm
    go_quiet (fail)
    go_wp2;go_ret;exact⟨rfl,(HSM.out.drewN _).below_of (HA.out.drewN _).right⟩
   ·have hy1:decide (c.image≤ix)=false:=decide_eq_false hy
    rw[if_neg (by rintro (h|h);exact hx h;exact hy h)]
    have hx2:0≤ix:=by omega
    have hy2:ix≤65536:=by omega
    clear hx hy;go_enter func90,ntmps90
    go_upto_region 4 with (first
     | (go_at_call 36;refine HST.out.mono ?_;rintro e w' ⟨rfl,rfl⟩)
     | (go_at_call 84;refine (zbT c _).mono ?_;rintro e w1 ⟨rfl,hb1⟩))
    have hA:=(((Sat.old w).alloc (.cells (plA ⟨d,2,ix⟩) TPl)).below hb1).alloc (.cells (zb8 c) 125);have hSm:=(((Same.refl w).alloc (.cells (plA ⟨d,2,ix⟩) TPl)).below hb1).alloc (.cells (zb8 c) 125);generalize w1.alloc (.cells (zb8 c) 125)=W at hA hSm ⊢;generalize w1.heap.size=B1 at hA ⊢;generalize w.heap.size=B0 at hA ⊢;clear hb1 c0 c1 c2 c3 c4 c5;have d0:W.cell? ⟨B0,0,none⟩=some (.int .i64 d):=zab hA.right.block 0;have d1:W.cell? ⟨B0,1,none⟩=some (.int .i64 2):=zab hA.right.block 1;have d2:W.cell? ⟨B0,2,none⟩=some (.int .i64 ix):=zab hA.right.block 2
    have e0:W.cell? ⟨B1,0,none⟩=some (.int .i64 c.log):=zab hA.block 0;have e1:W.cell? ⟨B1,1,none⟩=some (.int .i64 c.image):=zab hA.block 1;have e2:W.cell? ⟨B1,2,none⟩=some (.int .i64 c.image):=zab hA.block 2;have e3:W.cell? ⟨B1,3,none⟩=some (.int .i64 c.rows):=zab hA.block 3;have HA:=zh hA;have HSM:=zh hSm;clear hA hSm
    go_quiet (fail)
    go_wp2
    go_loopw [6,8,49] (fun n _ i wr=>zou (W.drewN nq) c ix 1 n i wr) (fun _ _ i _=>1 - (intOf i).toNat)
    case atStart=>exact⟨rfl,0,by omega,rfl,by simp[zgi]⟩
    case round =>
     obtain⟨rfl,k,hk,rfl,rfl⟩:=hrel.st;clear hrel;rcases (show k=0∨k=1 by omega) with rfl|rfl
     ·have hps:zgi c 0=0:=rfl
      rw[hps];clear hps
      try simp only[Int.add_zero]
      go_wp2
      go_roundw
      case rel=>exact⟨rfl,1,by omega,rfl,by show _=Value.int .i64 (ix+(c.log));first|rfl|(congr 1;omega)⟩
      case measure=>simp[intOf]
     ·have hps:zgi c 1=c.log:=rfl
      rw[hps];clear hps;go_wp2;go_ret;exact⟨rfl,(HSM.out.drewN _).below_of (HA.out.drewN _).right⟩
 ·have hsz:c.size ((2:Nat)+1:Int)=c.image:=rfl
  have hbs:c.base ((2:Nat)+1:Int)=c.log+c.image:=rfl;rw[hsz,hbs];clear hsz hbs
  by_cases hx:ix<0
  ·have hx1:decide (ix<0)=true:=decide_eq_true hx
   rw[if_pos (.inl hx)];clear hx;go_enter func90,ntmps90
   go_upto_region 4 with (first
    | (go_at_call 36;refine HST.out.mono ?_;rintro e w' ⟨rfl,rfl⟩)
    | (go_at_call 84;refine (zbT c _).mono ?_;rintro e w1 ⟨rfl,hb1⟩))
   have hA:=(((Sat.old w).alloc (.cells (plA ⟨d,3,ix⟩) TPl)).below hb1).alloc (.cells (zb8 c) 125);have hSm:=(((Same.refl w).alloc (.cells (plA ⟨d,3,ix⟩) TPl)).below hb1).alloc (.cells (zb8 c) 125);generalize w1.alloc (.cells (zb8 c) 125)=W at hA hSm ⊢;generalize w1.heap.size=B1 at hA ⊢;generalize w.heap.size=B0 at hA ⊢;clear hb1 c0 c1 c2 c3 c4 c5;have d0:W.cell? ⟨B0,0,none⟩=some (.int .i64 d):=zab hA.right.block 0;have d1:W.cell? ⟨B0,1,none⟩=some (.int .i64 3):=zab hA.right.block 1;have d2:W.cell? ⟨B0,2,none⟩=some (.int .i64 ix):=zab hA.right.block 2
   have e0:W.cell? ⟨B1,0,none⟩=some (.int .i64 c.log):=zab hA.block 0;have e1:W.cell? ⟨B1,1,none⟩=some (.int .i64 c.image):=zab hA.block 1;have e2:W.cell? ⟨B1,2,none⟩=some (.int .i64 c.image):=zab hA.block 2;have e3:W.cell? ⟨B1,3,none⟩=some (.int .i64 c.rows):=zab hA.block 3;have HA:=zh hA;have HSM:=zh hSm;clear hA hSm
   go_quiet (fail)
   go_wp2;go_ret;exact⟨rfl,(HSM.out.drewN _).below_of (HA.out.drewN _).right⟩
  ·have hx1:decide (ix<0)=false:=decide_eq_false hx
   by_cases hy:c.image≤ix
   ·have hy1:decide (c.image≤ix)=true:=decide_eq_true hy
    rw[if_pos (.inr hy)];clear hx hy;go_enter func90,ntmps90
    go_upto_region 4 with (first
     | (go_at_call 36;refine HST.out.mono ?_;rintro e w' ⟨rfl,rfl⟩)
     | (go_at_call 84;refine (zbT c _).mono ?_;rintro e w1 ⟨rfl,hb1⟩))
    have hA:=(((Sat.old w).alloc (.cells (plA ⟨d,3,ix⟩) TPl)).below hb1).alloc (.cells (zb8 c) 125);have hSm:=(((Same.refl w).alloc (.cells (plA ⟨d,3,ix⟩) TPl)).below hb1).alloc (.cells (zb8 c) 125);generalize w1.alloc (.cells (zb8 c) 125)=W at hA hSm ⊢;generalize w1.heap.size=B1 at hA ⊢;generalize w.heap.size=B0 at hA ⊢;clear hb1 c0 c1 c2 c3 c4 c5;have d0:W.cell? ⟨B0,0,none⟩=some (.int .i64 d):=zab hA.right.block 0;have d1:W.cell? ⟨B0,1,none⟩=some (.int .i64 3):=zab hA.right.block 1;have d2:W.cell? ⟨B0,2,none⟩=some (.int .i64 ix):=zab hA.right.block 2
    have e0:W.cell? ⟨B1,0,none⟩=some (.int .i64 c.log):=zab hA.block 0;have e1:W.cell? ⟨B1,1,none⟩=some (.int .i64 c.image):=zab hA.block 1;have e2:W.cell? ⟨B1,2,none⟩=some (.int .i64 c.image):=zab hA.block 2;have e3:W.cell? ⟨B1,3,none⟩=some (.int .i64 c.rows):=zab hA.block 3;have HA:=zh hA;have HSM:=zh hSm;clear hA hSm
    go_quiet (fail)
    go_wp2;go_ret;exact⟨rfl,(HSM.out.drewN _).below_of (HA.out.drewN _).right⟩
   ·have hy1:decide (c.image≤ix)=false:=decide_eq_false hy
    rw[if_neg (by rintro (h|h);exact hx h;exact hy h)]
    have hx2:0≤ix:=by omega
    have hy2:ix≤65536:=by omega
    clear hx hy;go_enter func90,ntmps90
    go_upto_region 4 with (first
     | (go_at_call 36;refine HST.out.mono ?_;rintro e w' ⟨rfl,rfl⟩)
     | (go_at_call 84;refine (zbT c _).mono ?_;rintro e w1 ⟨rfl,hb1⟩))
    have hA:=(((Sat.old w).alloc (.cells (plA ⟨d,3,ix⟩) TPl)).below hb1).alloc (.cells (zb8 c) 125);have hSm:=(((Same.refl w).alloc (.cells (plA ⟨d,3,ix⟩) TPl)).below hb1).alloc (.cells (zb8 c) 125);generalize w1.alloc (.cells (zb8 c) 125)=W at hA hSm ⊢;generalize w1.heap.size=B1 at hA ⊢;generalize w.heap.size=B0 at hA ⊢;clear hb1 c0 c1 c2 c3 c4 c5;have d0:W.cell? ⟨B0,0,none⟩=some (.int .i64 d):=zab hA.right.block 0;have d1:W.cell? ⟨B0,1,none⟩=some (.int .i64 3):=zab hA.right.block 1;have d2:W.cell? ⟨B0,2,none⟩=some (.int .i64 ix):=zab hA.right.block 2
    have e0:W.cell? ⟨B1,0,none⟩=some (.int .i64 c.log):=zab hA.block 0;have e1:W.cell? ⟨B1,1,none⟩=some (.int .i64 c.image):=zab hA.block 1;have e2:W.cell? ⟨B1,2,none⟩=some (.int .i64 c.image):=zab hA.block 2;have e3:W.cell? ⟨B1,3,none⟩=some (.int .i64 c.rows):=zab hA.block 3;have HA:=zh hA;have HSM:=zh hSm;clear hA hSm
    go_quiet (fail)
    go_wp2
    go_loopw [6,8,49] (fun n _ i wr=>zou (W.drewN nq) c ix 2 n i wr) (fun _ _ i _=>2 - (intOf i).toNat)
    case atStart=>exact⟨rfl,0,by omega,rfl,by simp[zgi]⟩
    case round =>
     obtain⟨rfl,k,hk,rfl,rfl⟩:=hrel.st;clear hrel;rcases (show k=0∨k=1∨k=2 by omega) with rfl|rfl|rfl
     ·have hps:zgi c 0=0:=rfl
      rw[hps];clear hps
      try simp only[Int.add_zero]
      go_wp2
      go_roundw
      case rel=>exact⟨rfl,1,by omega,rfl,by show _=Value.int .i64 (ix+(c.log));first|rfl|(congr 1;omega)⟩
      case measure=>simp[intOf]
     ·have hps:zgi c 1=c.log:=rfl
      rw[hps];clear hps
      try simp only[Int.add_zero]
      go_wp2
      go_roundw
      case rel=>exact⟨rfl,2,by omega,rfl,by show _=Value.int .i64 (ix+(c.log+c.image));first|rfl|(congr 1;omega)⟩
      case measure=>simp[intOf]
     ·have hps:zgi c 2=c.log+c.image:=rfl
      rw[hps];clear hps;go_wp2;go_ret;exact⟨rfl,(HSM.out.drewN _).below_of (HA.out.drewN _).right⟩
 ·have hsz:c.size ((3:Nat)+1:Int)=c.rows:=rfl
  have hbs:c.base ((3:Nat)+1:Int)=c.log+c.image+c.image:=rfl;rw[hsz,hbs];clear hsz hbs
  by_cases hx:ix<0
  ·have hx1:decide (ix<0)=true:=decide_eq_true hx
   rw[if_pos (.inl hx)];clear hx;go_enter func90,ntmps90
   go_upto_region 4 with (first
    | (go_at_call 36;refine HST.out.mono ?_;rintro e w' ⟨rfl,rfl⟩)
    | (go_at_call 84;refine (zbT c _).mono ?_;rintro e w1 ⟨rfl,hb1⟩))
   have hA:=(((Sat.old w).alloc (.cells (plA ⟨d,4,ix⟩) TPl)).below hb1).alloc (.cells (zb8 c) 125);have hSm:=(((Same.refl w).alloc (.cells (plA ⟨d,4,ix⟩) TPl)).below hb1).alloc (.cells (zb8 c) 125);generalize w1.alloc (.cells (zb8 c) 125)=W at hA hSm ⊢;generalize w1.heap.size=B1 at hA ⊢;generalize w.heap.size=B0 at hA ⊢;clear hb1 c0 c1 c2 c3 c4 c5;have d0:W.cell? ⟨B0,0,none⟩=some (.int .i64 d):=zab hA.right.block 0;have d1:W.cell? ⟨B0,1,none⟩=some (.int .i64 4):=zab hA.right.block 1;have d2:W.cell? ⟨B0,2,none⟩=some (.int .i64 ix):=zab hA.right.block 2
   have e0:W.cell? ⟨B1,0,none⟩=some (.int .i64 c.log):=zab hA.block 0;have e1:W.cell? ⟨B1,1,none⟩=some (.int .i64 c.image):=zab hA.block 1;have e2:W.cell? ⟨B1,2,none⟩=some (.int .i64 c.image):=zab hA.block 2;have e3:W.cell? ⟨B1,3,none⟩=some (.int .i64 c.rows):=zab hA.block 3;have HA:=zh hA;have HSM:=zh hSm;clear hA hSm
   go_quiet (fail)
   go_wp2;go_ret;exact⟨rfl,(HSM.out.drewN _).below_of (HA.out.drewN _).right⟩
  ·have hx1:decide (ix<0)=false:=decide_eq_false hx
   by_cases hy:c.rows≤ix
   ·have hy1:decide (c.rows≤ix)=true:=decide_eq_true hy
    rw[if_pos (.inr hy)];clear hx hy;go_enter func90,ntmps90
    go_upto_region 4 with (first
     | (go_at_call 36;refine HST.out.mono ?_;rintro e w' ⟨rfl,rfl⟩)
     | (go_at_call 84;refine (zbT c _).mono ?_;rintro e w1 ⟨rfl,hb1⟩))
    have hA:=(((Sat.old w).alloc (.cells (plA ⟨d,4,ix⟩) TPl)).below hb1).alloc (.cells (zb8 c) 125);have hSm:=(((Same.refl w).alloc (.cells (plA ⟨d,4,ix⟩) TPl)).below hb1).alloc (.cells (zb8 c) 125);generalize w1.alloc (.cells (zb8 c) 125)=W at hA hSm ⊢;generalize w1.heap.size=B1 at hA ⊢;generalize w.heap.size=B0 at hA ⊢;clear hb1 c0 c1 c2 c3 c4 c5;have d0:W.cell? ⟨B0,0,none⟩=some (.int .i64 d):=zab hA.right.block 0;have d1:W.cell? ⟨B0,1,none⟩=some (.int .i64 4):=zab hA.right.block 1;have d2:W.cell? ⟨B0,2,none⟩=some (.int .i64 ix):=zab hA.right.block 2
    have e0:W.cell? ⟨B1,0,none⟩=some (.int .i64 c.log):=zab hA.block 0;have e1:W.cell? ⟨B1,1,none⟩=some (.int .i64 c.image):=zab hA.block 1;have e2:W.cell? ⟨B1,2,none⟩=some (.int .i64 c.image):=zab hA.block 2;have e3:W.cell? ⟨B1,3,none⟩=some (.int .i64 c.rows):=zab hA.block 3;have HA:=zh hA;have HSM:=zh hSm;clear hA hSm
    go_quiet (fail)
    go_wp2;go_ret;exact⟨rfl,(HSM.out.drewN _).below_of (HA.out.drewN _).right⟩
   ·have hy1:decide (c.rows≤ix)=false:=decide_eq_false hy
    rw[if_neg (by rintro (h|h);exact hx h;exact hy h)]
    have hx2:0≤ix:=by omega
    have hy2:ix≤65536:=by omega
    clear hx hy;go_enter func90,ntmps90
    go_upto_region 4 with (first
     | (go_at_call 36;refine HST.out.mono ?_;rintro e w' ⟨rfl,rfl⟩)
     | (go_at_call 84;refine (zbT c _).mono ?_;rintro e w1 ⟨rfl,hb1⟩))
    have hA:=(((Sat.old w).alloc (.cells (plA ⟨d,4,ix⟩) TPl)).below hb1).alloc (.cells (zb8 c) 125);have hSm:=(((Same.refl w).alloc (.cells (plA ⟨d,4,ix⟩) TPl)).below hb1).alloc (.cells (zb8 c) 125);generalize w1.alloc (.cells (zb8 c) 125)=W at hA hSm ⊢;generalize w1.heap.size=B1 at hA ⊢;generalize w.heap.size=B0 at hA ⊢;clear hb1 c0 c1 c2 c3 c4 c5;have d0:W.cell? ⟨B0,0,none⟩=some (.int .i64 d):=zab hA.right.block 0;have d1:W.cell? ⟨B0,1,none⟩=some (.int .i64 4):=zab hA.right.block 1;have d2:W.cell? ⟨B0,2,none⟩=some (.int .i64 ix):=zab hA.right.block 2
    have e0:W.cell? ⟨B1,0,none⟩=some (.int .i64 c.log):=zab hA.block 0;have e1:W.cell? ⟨B1,1,none⟩=some (.int .i64 c.image):=zab hA.block 1;have e2:W.cell? ⟨B1,2,none⟩=some (.int .i64 c.image):=zab hA.block 2;have e3:W.cell? ⟨B1,3,none⟩=some (.int .i64 c.rows):=zab hA.block 3;have HA:=zh hA;have HSM:=zh hSm;clear hA hSm
    go_quiet (fail)
    go_wp2
    go_loopw [6,8,49] (fun n _ i wr=>zou (W.drewN nq) c ix 3 n i wr) (fun _ _ i _=>3 - (intOf i).toNat)
    case atStart=>exact⟨rfl,0,by omega,rfl,by simp[zgi]⟩
    case round =>
     obtain⟨rfl,k,hk,rfl,rfl⟩:=hrel.st;clear hrel;rcases (show k=0∨k=1∨k=2∨k=3 by omega) with rfl|rfl|rfl|rfl
     ·have hps:zgi c 0=0:=rfl
      rw[hps];clear hps
      try simp only[Int.add_zero]
      go_wp2
      go_roundw
      case rel=>exact⟨rfl,1,by omega,rfl,by show _=Value.int .i64 (ix+(c.log));first|rfl|(congr 1;omega)⟩
      case measure=>simp[intOf]
     ·have hps:zgi c 1=c.log:=rfl
      rw[hps];clear hps
      try simp only[Int.add_zero]
      go_wp2
      go_roundw
      case rel=>exact⟨rfl,2,by omega,rfl,by show _=Value.int .i64 (ix+(c.log+c.image));first|rfl|(congr 1;omega)⟩
      case measure=>simp[intOf]
     ·have hps:zgi c 2=c.log+c.image:=rfl
      rw[hps];clear hps
      try simp only[Int.add_zero]
      go_wp2
      go_roundw
      case rel=>exact⟨rfl,3,by omega,rfl,by show _=Value.int .i64 (ix+(c.log+c.image+c.image));first|rfl|(congr 1;omega)⟩
      case measure=>simp[intOf]
     ·have hps:zgi c 3=c.log+c.image+c.image:=rfl
      rw[hps];clear hps;go_wp2;go_ret;exact⟨rfl,(HSM.out.drewN _).below_of (HA.out.drewN _).right⟩
theorem zdf (p:Nat)(S:zsg)(F:zsi)(a:zsj)(w:World)(hS:Sat w (zac SH p S*F)):
  Calls prog 90 #[.pointer (some ⟨p,0,none⟩),.agg (plA a)] w fun e w'=>e = .returned (.int .i64 (S.number a))∧Hid (Below w.heap.size w w'):=by
 by_cases h:S.state a.disk=0∨a.area<1∨4<a.area
 ·have e:S.number a = -1:=by unfold zsg.number;rw[if_pos (by rcases h with h|h|h;exact .inl h;exact .inr (.inl h);exact .inr (.inr (.inl h)))]
  rw[e];exact zlS p S F a w hS h
 ·obtain⟨d,ar,ix⟩:=a
  simp only at h;obtain⟨m,hm⟩:=Int.eq_ofNat_of_zero_le (show 0≤ar - 1 by omega)
  obtain rfl:ar=(m:Int)+1:=by omega
  have e:S.number ⟨d,(m:Int)+1,ix⟩=if ix<0∨S.cfg.size ((m:Int)+1)≤ix then -1 else ix+S.cfg.base ((m:Int)+1):=by
   unfold zsg.number
   by_cases hx:ix<0∨S.cfg.size ((m:Int)+1)≤ix
   ·rw[if_pos hx,if_pos (.inr (.inr (.inr hx)))]
   ·rw[if_neg hx,if_neg (by simp only;omega)]
  rw[e];exact zj6 p S F d ix m (by omega) w hS (by omega)
end Go.Proofs.YtmcclbiaoeilkaaGreat
end
section
namespace Go.Sl
open Go Go.RowKit
section
variable {P:Program} {ops:Array Oper} {rest:List Oper} {o:Oper} {a:Act} {w:World} {Q:Exit→Act→World→Prop}
theorem zca {e:TypeId}(ho:o.op = .alloc e)(z:Array Value)(hz:(zeroValue e).run P w = .ok (.agg z) w):
  (execOp a.eval o).run P w = .ok (.value (.pointer (some ⟨w.heap.size,0,none⟩))) (w.alloc (.cells z e)):=by
 unfold execOp;simp[ho,Instr.alloc,hz,newVar,newRow,Value.cells]
theorem zb0 {ty:TypeId}{x y:Operand}(ho:o.op = .store ty x y)(T:TypeId)(old new:Array Value)
  (hx:a.eval x = .pointer (some ⟨w.heap.size,0,none⟩)) (hy:a.eval y = .agg new) (hi:(P.info? ty).map (·.size)=some new.size) (hs:new.size=old.size) (h1:∀ v ∈ new.toList,v.oneCell'=true):
  (execOp a.eval o).run P (w.alloc (.cells old T)) = .ok .skip (w.alloc (.cells new T)):=by
 refine zdN ho hx hy ?_;have hb:(w.alloc (.cells old T)).heap[w.heap.size]?=some (.cells old T (0,0)):=heap_alloc_new w _;have h:=run_storeAt_mid (P:=P) (w.alloc (.cells old T)) w.heap.size 0 ty new ?_ hi (Array.all_eq_true_iff_forall_mem.2 (fun v hv=>h1 v (by simpa using hv)))
 ·rw[h]
  rw[zdK w T new.toList 0 old (by simp;omega)]
  have:(old.toList.take 0++new.toList++old.toList.drop (0+new.toList.length)).toArray=new:=by
   simp only[List.take_zero,List.nil_append,Nat.zero_add,Array.length_toList,hs];rw[List.drop_of_length_le (by simp)];simp
  rw[this]
 ·intro j hj
  simp only[Nat.zero_add];refine⟨?_,zaj hb j⟩;rw[zab hb j];simp;omega
theorem zdH {ty:TypeId}{x y:Operand}(ho:o.op = .store ty x y){b off:Nat}{new:Array Value}(hx:a.eval x = .pointer (some ⟨b,off,none⟩))(hy:a.eval y = .agg new)
  (hi:(P.info? ty).map (·.size)=some new.size) (ht:w.there b off new.size) (h1:∀ v ∈ new.toList,v.oneCell'=true):
  (execOp a.eval o).run P w = .ok .skip (w.setCells b off new.toList):=
 zdN ho hx hy (run_storeAt_mid (P:=P) w b off ty new ht hi (Array.all_eq_true_iff_forall_mem.2 (fun v hv=>h1 v (by simpa using hv))))
theorem zbc {x y:Operand}{t:TypeId}{v u v':Value}{w':World}(ho:o.op = .call { callee:=.builtin .append,args:=#[x,y],argTypes:=#[t,t] })(hx:a.eval x=v)(hy:a.eval y=u)
  (h:(Builtin.append_ #[t,t] o.type #[v,u]).run P w = .ok v' w'):(execOp a.eval o).run P w = .ok (.value v') w':=by
 unfold execOp;simp only[ho,resolve,invoke,builtin,Sem.run_bind,Sem.run_pure,Result.andThen_ok,List.map_toArray,List.map_cons,List.map_nil,hx,hy,h]
end
def IntsC (w:World)(v:Value)(l:List Int):Prop:=∃ ao cap,v = .slice ao l.length cap∧l.length≤cap∧(l≠[]→∃ b off,ao=some ⟨b,off,none⟩∧∀ j x,l[j]?=some x→w.cell? ⟨b,off+j*1,none⟩=some (.int .i64 x))
theorem IntsC.at {w:World}{v:Value}{l:List Int}(h:IntsC w v l):IntsAt w v l:=by
 obtain⟨ao,cap,rfl,_,h⟩:=h;exact⟨ao,cap,rfl,h⟩
theorem IntsC.nil (w:World):IntsC w (.slice none 0 0) []:=⟨none,0,rfl,Nat.le_refl _,fun h=>absurd rfl h⟩
theorem IntsC.drop {w:World}{ao:Option Addr}{cap m:Nat}{l:List Int}(h:IntsC w (.slice ao l.length cap) l)(hm:m≤l.length):
  IntsC w (.slice (if cap=m then ao else ao.map fun x=>x.add m) (l.length - m) (cap - m)) (l.drop m):=by
 obtain⟨ao',cap',he',hc,h3⟩:=h;simp only[Value.slice.injEq,true_and] at he';obtain⟨rfl,rfl⟩:=he';refine⟨_,_,by rw[List.length_drop],by rw[List.length_drop];omega,fun hne=>?_⟩
 have hlt:m<l.length:=by
  rcases Nat.lt_or_ge m l.length with h|h
  ·exact h
  ·exact absurd (List.drop_eq_nil_of_le h) hne
 have hne2:l≠[]:=by rintro rfl;simp at hlt
 obtain⟨b,off,rfl,hcell⟩:=h3 hne2;refine⟨b,off+m,?_,fun j x hj=>?_⟩
 ·rw[if_neg (by omega)];simp[Addr.add_mid]
 ·rw[List.getElem?_drop] at hj
  have:=hcell (m+j) x hj;rw[show off+m+j*1=off+(m+j)*1 by omega];exact this
section
variable {P:Program} {v:Value} {l:List Int} {w0:World} {T e:TypeId}
theorem zlc (h:IntsC w0 v l){m:Nat}(hm:m≤l.length)(hT:P.underlying T=some (.slice e))(he:(P.info? e).map (·.size)=some 1):
  ∃ v',(∀ w,(Instr.sliceAt T v none (some (.int .i64 (m:Int))) none).run P w = .ok v' w)∧∀ w',IntsC w' v l→IntsC w' v' (l.take m):=by
 obtain⟨ao,cap,rfl,hc,_⟩:=h;obtain⟨ti,hti,hts⟩:=Option.map_eq_some_iff.1 he
 have hmc:m≤cap:=by omega
 refine⟨.slice (if cap=0 then ao else ao.map (·.add (0*1))) m cap,fun w=>?_,fun w' h'=>?_⟩
 ·simp[Instr.sliceAt,Instr.slice,run_underlying hT,Instr.sliceBounds,Instr.sliceBound,asIntOf,sizeOf,typeInfo,hti,hmc]
 ·obtain⟨ao',cap',he',_,h3⟩:=h'
  simp only[Value.slice.injEq,true_and] at he';obtain⟨rfl,rfl⟩:=he';refine⟨_,_,by rw[List.length_take,Nat.min_eq_left hm],by rw[List.length_take];omega,fun hne=>?_⟩
  have hne2:l≠[]:=by rintro rfl;simp at hne
  obtain⟨b,off,rfl,hcell⟩:=h3 hne2;refine⟨b,off,?_,fun j x hj=>hcell j x ?_⟩
  ·split
   ·rfl
   ·simp[Addr.add_mid]
  ·rw[List.getElem?_take] at hj
   split at hj
   ·exact hj
   ·cases hj
variable {ops:Array Oper} {rest:List Oper} {o:Oper} {a:Act} {w:World} {Q:Exit→Act→World→Prop}
theorem zfc {x:Operand}{lo hi:Option Operand}{p v':Value}(ho:o.op = .slice T x lo hi none)(hx:a.eval x=p)(h:(Instr.sliceAt T p (lo.map a.eval) (hi.map a.eval) none).run P w = .ok v' w):(execOp a.eval o).run P w = .ok (.value v') w:=by
 unfold execOp;simp[ho,hx,h]
end
end Go.Sl
end
