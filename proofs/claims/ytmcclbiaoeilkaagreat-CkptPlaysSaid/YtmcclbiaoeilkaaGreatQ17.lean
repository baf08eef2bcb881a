import Derived.Scope
import Derived.Test.YtmcclbiaoeilkaaGreatQ16
set_option maxHeartbeats 4000000
set_option maxRecDepth 20000
/- Part 17 of a proof;the last part says what is proved. -/
namespace Go.Proofs.YtmcclbiaoeilkaaGreat
open Go.Proofs.Tryz Go.RowKit Go.Sl Go.ChangeMaps
theorem ziD {ops:Array Oper}{rest:List Oper}{o:Oper}{a:Act}{w:World}{Q:Exit→Act→World→Prop}(hw:Region.wanted o (yielded ops a.tmps)=true)(h:∀ K:Act→World→Prop,(∀ a w,wpList prog ops Q rest a w→K a w)→o.wp prog a w K Q):wpList prog ops Q (o::rest) a w:=
 wpList_step fun K hK=>by rw[if_pos hw];exact h K hK
theorem zag {ops:Array Oper}{rest:List Oper}{o:Oper}{a:Act}{w:World}{Q:Exit→Act→World→Prop}(hw:Region.wanted o (yielded ops a.tmps)=true){v:Value}{w':World}(h:(execOp a.eval o).run prog w = .ok (.value v) w')(k:wpList prog ops Q rest (a.put o.dst v) w'):wpList prog ops Q (o::rest) a w:=by
 refine ziD hw fun K hK=>?_
 unfold Oper.wp;rw[h];exact hK _ _ k
theorem zkv (t:TypeId)(a j:Nat)(s:Int)(hs:s=8*(j:Int))(h1:j≤7):binOp .shr t (.int .u64 (a:Int)) (.int .i64 s)=pure (.int .u64 ((a / 256 ^ j:Nat):Int)):=by
 obtain rfl:s=((8*j:Nat):Int):=by omega
 rw[binOp_shr,shift_shr_any _ _ _ _ (by omega),show min (((8*j:Nat):Int)).toNat IntKind.u64.bits=8*j by show min ((8*j:Nat):Int).toNat 64=8*j;omega];rw[show (256:Nat) ^ j=2 ^ (8*j) by rw[show (256:Nat)=2 ^ 8 from rfl,← Nat.pow_mul]];congr 2
theorem zqM (t:TypeId)(a b c:Int)(h:a*b=c)(h1 : -9223372036854775808≤c)(h2:c<9223372036854775808):binOp .mul t (.int .i64 a) (.int .i64 b)=pure (.int .i64 c):=by
 show (pure (Value.int .i64 (IntKind.i64.wrap (a*b))):Sem Value)=_;rw[h,IntWalk.i64_in _ (by omega)]
theorem zrU (t:TypeId)(a b c:Int)(h:a - b=c)(h1 : -9223372036854775808≤c)(h2:c<9223372036854775808):binOp .sub t (.int .i64 a) (.int .i64 b)=pure (.int .i64 c):=by
 show (pure (Value.int .i64 (IntKind.i64.wrap (a - b))):Sem Value)=_;rw[h,IntWalk.i64_in _ (by omega)]
theorem zmR {m k:Nat}(h:0<m / 256 ^ k):zkG m (k+1)=k+1:=by show (if _ then _ else _)=_;rw[if_pos h]
theorem zmQ {m k:Nat}(h:¬ 0<m / 256 ^ k):zkG m (k+1)=zkG m k:=by show (if _ then _ else _)=_;rw[if_neg h]
theorem zrs (x:Nat)(h:x<256):bits .xor .u8 (x:Int) 0=(x:Int):=by
 rw[show (0:Int)=((0:Nat):Int) from rfl,u8_xor_nat _ _ h (by omega),Nat.xor_zero]
theorem zp1 (x:Nat)(w:World):(convert 175 5 (.int .u64 (x:Int))).run prog w = .ok (.int .u8 (((UInt8.ofNat x).toNat:Nat):Int)) w:=by
 have h1:prog.underlying 175=some (.int .u64):=underlying175;have h2:prog.underlying 5=some (.int .u8):=underlying5
 have h3:IntKind.u8.wrap (x:Int)=(((UInt8.ofNat x).toNat:Nat):Int):=by
  rw[UInt8.toNat_ofNat'];simp[IntKind.wrap,IntKind.bits,IntKind.signed]
 simp[convert,run_underlying h1,run_underlying h2,h3,go_sem]
structure WnS (w:World)(m:Nat)(iv:Value)(wr:World):Prop where
 st:∃ k:Nat,k≤8∧zcB m=zkG m k∧iv = .int .i64 (k:Int)∧wr=w
structure WoS (w:World)(m:Nat)(F:zsi)(ov iv:Value)(wr:World):Prop where
 st:∃ (j:Nat) (l:List UInt8),j≤zcB m∧l++zc5 m j=zb9 m∧l.length+j=zcB m+1∧iv = .int .i64 ((j:Int) - 1)∧Hid (Same w wr∧Sat wr (zbu ov l*F))
theorem zjF (m:Nat)(hm:m<9223372036854775808)(F:zsi)(w:World)(hF:Sat w F):
  Calls prog 133 #[(m:Int)] w fun e w'=>∃ v,e = .returned v∧Hid (Same w w'∧Sat w' (zbu v (zb9 m)*F)):=by
 obtain⟨ti,hti,hz0,hts,hz2⟩:=info_parts zdz;have HF:=zh hF;have h0:decide ((m:Int)<0)=false:=decide_eq_false (by omega);have HM:=zh hm;clear hF;go_enter func133,ntmps133;go_wp2;refine wp_scope_straight ?_;go_wp2;refine wp_label ?_;go_wp2;clear hm h0
 go_loopw [5] (fun iv wr=>WnS w m iv wr) (fun iv _=>(intOf iv).toNat)
 case atStart=>exact⟨⟨8,by omega,rfl,rfl,rfl⟩⟩
 case round =>
  obtain⟨k,hk8,hd,rfl,rfl⟩:=hrel.st;clear hrel
  obtain rfl|⟨q,rfl⟩:k=0∨∃ q,k=q+1:=by
   cases k with
   | zero=>exact .inl rfl
   | succ q=>exact .inr ⟨q,rfl⟩
  ·have HD:=zh (show zcB m=0 from hd)
   clear hd hk8;obtain⟨z,hz⟩:∃ z:Int,((0:Nat):Int)=z:=⟨_,rfl⟩;rw[hz];have HZ:=zh hz;have hp0:decide (0<z)=false:=decide_eq_false (by omega)
   have hz0':0≤z:=by omega
   have hz8:z≤8:=by omega
   clear hz;obtain⟨N,hN⟩:∃ N,0=N:=⟨_,rfl⟩;rw[hN] at HD HZ;have hzN:=HZ.out;clear hN;go_upto_region 8 with (fail)
   go_wp2
   have hx:bits .xor .u8 (128+z) 0=(((UInt8.ofNat (128+N)).toNat:Nat):Int):=by
    rw[show (128:Int)+z=((128+N:Nat):Int) by omega,zrs _ (by omega),UInt8.toNat_ofNat',Nat.mod_eq_of_lt (by omega)]
   obtain⟨xh,hxh⟩:∃ xh,(UInt8.ofNat (128+N)).toNat=xh:=⟨_,rfl⟩;rw[hx,hxh]
   have H0:=zh (show WoS wr m F (.slice (some ⟨wr.heap.size,0,none⟩) 1 1) (.int .i64 (z - 1)) (wr.alloc (.cells #[.int .u8 (xh:Int)] zaM)) from
    ⟨N,[UInt8.ofNat (128+N)],by rw[HD.out];exact Nat.le_refl _,by rw[show zb9 m=UInt8.ofNat (128+zcB m)::zc5 m (zcB m) from rfl,HD.out];rfl,by rw[HD.out];simp;try omega,by congr 1;try omega,(Same.refl wr).alloc _,
     za4.2 (.inr ⟨_,_,_,⟨rfl,Nat.le_refl _,by unfold maxLen;omega,by simp,by rw[← hxh];simp[zaY,zb4],by simp[zaY]⟩,HF.out.alloc _⟩)⟩)
   generalize wr.alloc (.cells #[.int .u8 (xh:Int)] zaM)=w1 at H0 ⊢;generalize wr.heap.size=g1 at H0 ⊢;clear hx hxh;obtain⟨wo,rfl⟩:∃ wo:World,wo=wr:=⟨_,rfl⟩
   go_loopw [6,7] (fun ov iv wr=>WoS wo m F ov iv wr) (fun _ iv _=>(intOf iv+1).toNat)
   case atStart=>exact H0.out
   case round =>
    clear H0;obtain⟨j,l,hj,hl,hlen,rfl,H1⟩:=hrel.st;clear hrel;obtain⟨ao,cap,rfl⟩:=zal H1.out.2;have hj8:j≤8:=Nat.le_trans hj (zd5 m 8)
    have hl9:l.length≤9:=by have:=zd5 m 8;unfold zcB at hlen;omega
    cases j with
    | zero =>
     have HL:=zh (show l=zb9 m by rw[← hl];simp[zc5]);clear hl hj hlen hj8 hl9;go_wp2
     try rw[Exit.noGoto_ret]
     go_ret;have h:=H1.out;rw[HL.out] at h;exact⟨_,rfl,by rw[HL.out];exact h⟩
    | succ j =>
     rw[show (((j+1:Nat):Int) - 1)=(j:Int) by omega];have HL:=(zd hl (And.intro hj hlen))
     have hj7:(j:Int)≤7:=by omega
     have hj0:(0:Int)≤(j:Int):=by omega
     have HL9:=zh hl9;obtain⟨z8j,hz8j⟩:∃ z:Int,8*(j:Int)=z:=⟨_,rfl⟩;obtain⟨mj,hmj⟩:∃ mj,m / 256 ^ j=mj:=⟨_,rfl⟩;have HMJ:=zh hmj;have hw:IntKind.i64.wrap ((j:Int) - 1)=(j:Int) - 1:=IntWalk.i64_in _ (by omega);clear hl hj hlen hl9;go_upto_region 12 with (fail)
     refine wp_region_lit ?_;(apply zag rfl);(go_simp;first|rfl|exact⟨rfl,rfl⟩);simp only[Act.put,zq];(apply zag rfl);(go_simp;first|rfl|exact⟨rfl,rfl⟩);simp only[Act.put,zq];(apply zag rfl);(go_simp;first|rfl|exact⟨rfl,rfl⟩);simp only[Act.put,zq];refine zag (v:=.int .i64 z8j) rfl (zau (vx:=.int .i64 8) (vy:=.int .i64 (j:Int)) rfl rfl rfl rfl (by rw[zqM _ 8 (j:Int) z8j hz8j (by omega) (by omega)];rfl)) ?_;simp only[Act.put,zq];refine zag (v:=.int .u64 (mj:Int)) rfl (zau (vx:=.int .u64 (m:Int)) (vy:=.int .i64 z8j) rfl rfl rfl rfl (by rw[zkv _ m j z8j hz8j.symm (by omega),hmj];rfl)) ?_;simp only[Act.put,zq]
     refine zag (v:=.int .u8 (((UInt8.ofNat mj).toNat:Nat):Int)) rfl (zaD rfl rfl (zp1 mj _)) ?_;simp only[Act.put,zq];have hxl:=(UInt8.ofNat mj).toNat_lt;have HXB:=zh (show zaY (l++[UInt8.ofNat mj])=zaY l++[.int .u8 (((UInt8.ofNat mj).toNat:Nat):Int)] by simp[zaY,zb4]);have hx0:=zrs _ hxl;obtain⟨xb,hxb⟩:∃ xb,(UInt8.ofNat mj).toNat=xb:=⟨_,rfl⟩;rw[hxb] at hx0 hxl HXB ⊢;clear hmj hxb hj8 hz8j;(apply zag rfl);(go_simp;first|rfl|exact⟨rfl,rfl⟩);simp only[Act.put,zq];(apply zag rfl);(go_simp;first|rfl|exact⟨rfl,rfl⟩);simp only[Act.put,zq]
     go_wp2_with (at_builtin;refine zaq (F:=F) rfl _ _ 69 zaM rfl ti _ underlying69 hti hz0 hts hz2 rfl (H1.out.2.allocKeep _) [.int .u8 (xb:Int)] rfl rfl rfl ?_ (by simp[Value.oneCell']) (by have:=HL9.out;unfold maxLen;omega) (by have:=HL9.out;omega) ?_)
     ·intro j' u hu
      match j',hu with
      | 0,hu=>rw[Addr.add_mid,zab (heap_alloc_new _ _)];simpa using hu
     intro v' w2 h2;go_wp2
     go_roundw
     case rel =>
      refine⟨⟨j,l++[UInt8.ofNat mj],by have:=HL.out.2.1;omega,?_,by have:=HL.out.2.2;rw[List.length_append];simp;omega,rfl,(H1.out.1.alloc _).trans h2.out.1,?_⟩⟩
      ·rw[← HL.out.1,List.append_assoc];congr 1;show [UInt8.ofNat mj]++zc5 m j=UInt8.ofNat (m / 256 ^ j)::zc5 m j;rw[HMJ.out];rfl
      ·unfold zbu;rw[HXB.out,List.length_append];exact h2.out.2
     case measure=>simp only[intOf];omega
  ·have hp:decide (0<((q+1:Nat):Int))=true:=decide_eq_true (by omega)
   have hp2:decide (0<q+1)=true:=decide_eq_true (by omega);obtain⟨z,hz⟩:∃ z:Int,((q+1:Nat):Int)=z:=⟨_,rfl⟩;rw[hz] at hp ⊢;obtain⟨z8q,hz8q⟩:∃ z:Int,8*(q:Int)=z:=⟨_,rfl⟩;obtain⟨mq,hmq⟩:∃ mq,m / 256 ^ q=mq:=⟨_,rfl⟩;go_upto_region 6 with (fail)
   refine wp_region_lit ?_;(apply zag rfl);(go_simp;first|rfl|exact⟨rfl,rfl⟩);simp only[Act.put,zq];(apply zag rfl);(go_simp;first|rfl|exact⟨rfl,rfl⟩);simp only[Act.put,zq];refine zag (v:=.int .i64 (q:Int)) rfl (zau (vx:=.int .i64 z) (vy:=.int .i64 1) rfl rfl rfl rfl (by rw[zrU _ z 1 (q:Int) (by omega) (by omega) (by omega)];rfl)) ?_;simp only[Act.put,zq];refine zag (v:=.int .i64 z8q) rfl (zau (vx:=.int .i64 8) (vy:=.int .i64 (q:Int)) rfl rfl rfl rfl (by rw[zqM _ 8 (q:Int) z8q hz8q (by omega) (by omega)];rfl)) ?_;simp only[Act.put,zq]
   refine zag (v:=.int .u64 (mq:Int)) rfl (zau (vx:=.int .u64 (m:Int)) (vy:=.int .i64 z8q) rfl rfl rfl rfl (by rw[zkv _ m q z8q hz8q.symm (by omega),hmq];rfl)) ?_;simp only[Act.put,zq];(apply zag rfl);(go_simp;first|rfl|exact⟨rfl,rfl⟩);simp only[Act.put,zq];refine wpList_nil ?_
   by_cases hq:0<mq
   ·have hqd:decide (0<mq)=true:=decide_eq_true hq
    have HD:=zh (show zcB m=q+1 from hd.trans (zmR (by rw[hmq];exact hq)))
    have hz1:1≤z:=by omega
    have hz8:z≤8:=by omega
    clear hd hk8 hp hp2 ;have HZ:=zh hz;clear hz;rw[hqd];clear hq hmq hqd hz8q;obtain⟨N,hN⟩:∃ N,q+1=N:=⟨_,rfl⟩;rw[hN] at HD HZ;have hzN:=HZ.out;clear hN;go_upto_region 8 with (fail)
    go_wp2
    have hx:bits .xor .u8 (128+z) 0=(((UInt8.ofNat (128+N)).toNat:Nat):Int):=by
     rw[show (128:Int)+z=((128+N:Nat):Int) by omega,zrs _ (by omega),UInt8.toNat_ofNat',Nat.mod_eq_of_lt (by omega)]
    obtain⟨xh,hxh⟩:∃ xh,(UInt8.ofNat (128+N)).toNat=xh:=⟨_,rfl⟩;rw[hx,hxh]
    have H0:=zh (show WoS wr m F (.slice (some ⟨wr.heap.size,0,none⟩) 1 1) (.int .i64 (z - 1)) (wr.alloc (.cells #[.int .u8 (xh:Int)] zaM)) from
     ⟨N,[UInt8.ofNat (128+N)],by rw[HD.out];exact Nat.le_refl _,by rw[show zb9 m=UInt8.ofNat (128+zcB m)::zc5 m (zcB m) from rfl,HD.out];rfl,by rw[HD.out];simp;try omega,by congr 1;try omega,(Same.refl wr).alloc _,
      za4.2 (.inr ⟨_,_,_,⟨rfl,Nat.le_refl _,by unfold maxLen;omega,by simp,by rw[← hxh];simp[zaY,zb4],by simp[zaY]⟩,HF.out.alloc _⟩)⟩)
    generalize wr.alloc (.cells #[.int .u8 (xh:Int)] zaM)=w1 at H0 ⊢;generalize wr.heap.size=g1 at H0 ⊢;clear hx hxh;obtain⟨wo,rfl⟩:∃ wo:World,wo=wr:=⟨_,rfl⟩
    go_loopw [6,7] (fun ov iv wr=>WoS wo m F ov iv wr) (fun _ iv _=>(intOf iv+1).toNat)
    case atStart=>exact H0.out
    case round =>
     clear H0;obtain⟨j,l,hj,hl,hlen,rfl,H1⟩:=hrel.st;clear hrel;obtain⟨ao,cap,rfl⟩:=zal H1.out.2;have hj8:j≤8:=Nat.le_trans hj (zd5 m 8)
     have hl9:l.length≤9:=by have:=zd5 m 8;unfold zcB at hlen;omega
     cases j with
     | zero =>
      have HL:=zh (show l=zb9 m by rw[← hl];simp[zc5]);clear hl hj hlen hj8 hl9;go_wp2
      try rw[Exit.noGoto_ret]
      go_ret;have h:=H1.out;rw[HL.out] at h;exact⟨_,rfl,by rw[HL.out];exact h⟩
     | succ j =>
      rw[show (((j+1:Nat):Int) - 1)=(j:Int) by omega];have HL:=(zd hl (And.intro hj hlen))
      have hj7:(j:Int)≤7:=by omega
      have hj0:(0:Int)≤(j:Int):=by omega
      have HL9:=zh hl9;obtain⟨z8j,hz8j⟩:∃ z:Int,8*(j:Int)=z:=⟨_,rfl⟩;obtain⟨mj,hmj⟩:∃ mj,m / 256 ^ j=mj:=⟨_,rfl⟩;have HMJ:=zh hmj;have hw:IntKind.i64.wrap ((j:Int) - 1)=(j:Int) - 1:=IntWalk.i64_in _ (by omega);clear hl hj hlen hl9;go_upto_region 12 with (fail)
      refine wp_region_lit ?_;(apply zag rfl);(go_simp;first|rfl|exact⟨rfl,rfl⟩);simp only[Act.put,zq];(apply zag rfl);(go_simp;first|rfl|exact⟨rfl,rfl⟩);simp only[Act.put,zq];(apply zag rfl);(go_simp;first|rfl|exact⟨rfl,rfl⟩);simp only[Act.put,zq];refine zag (v:=.int .i64 z8j) rfl (zau (vx:=.int .i64 8) (vy:=.int .i64 (j:Int)) rfl rfl rfl rfl (by rw[zqM _ 8 (j:Int) z8j hz8j (by omega) (by omega)];rfl)) ?_;simp only[Act.put,zq];refine zag (v:=.int .u64 (mj:Int)) rfl (zau (vx:=.int .u64 (m:Int)) (vy:=.int .i64 z8j) rfl rfl rfl rfl (by rw[zkv _ m j z8j hz8j.symm (by omega),hmj];rfl)) ?_;simp only[Act.put,zq]
      refine zag (v:=.int .u8 (((UInt8.ofNat mj).toNat:Nat):Int)) rfl (zaD rfl rfl (zp1 mj _)) ?_;simp only[Act.put,zq];have hxl:=(UInt8.ofNat mj).toNat_lt;have HXB:=zh (show zaY (l++[UInt8.ofNat mj])=zaY l++[.int .u8 (((UInt8.ofNat mj).toNat:Nat):Int)] by simp[zaY,zb4]);have hx0:=zrs _ hxl;obtain⟨xb,hxb⟩:∃ xb,(UInt8.ofNat mj).toNat=xb:=⟨_,rfl⟩;rw[hxb] at hx0 hxl HXB ⊢;clear hmj hxb hj8 hz8j;(apply zag rfl);(go_simp;first|rfl|exact⟨rfl,rfl⟩);simp only[Act.put,zq];(apply zag rfl);(go_simp;first|rfl|exact⟨rfl,rfl⟩);simp only[Act.put,zq]
      go_wp2_with (at_builtin;refine zaq (F:=F) rfl _ _ 69 zaM rfl ti _ underlying69 hti hz0 hts hz2 rfl (H1.out.2.allocKeep _) [.int .u8 (xb:Int)] rfl rfl rfl ?_ (by simp[Value.oneCell']) (by have:=HL9.out;unfold maxLen;omega) (by have:=HL9.out;omega) ?_)
      ·intro j' u hu
       match j',hu with
       | 0,hu=>rw[Addr.add_mid,zab (heap_alloc_new _ _)];simpa using hu
      intro v' w2 h2;go_wp2
      go_roundw
      case rel =>
       refine⟨⟨j,l++[UInt8.ofNat mj],by have:=HL.out.2.1;omega,?_,by have:=HL.out.2.2;rw[List.length_append];simp;omega,rfl,(H1.out.1.alloc _).trans h2.out.1,?_⟩⟩
       ·rw[← HL.out.1,List.append_assoc];congr 1;show [UInt8.ofNat mj]++zc5 m j=UInt8.ofNat (m / 256 ^ j)::zc5 m j;rw[HMJ.out];rfl
       ·unfold zbu;rw[HXB.out,List.length_append];exact h2.out.2
      case measure=>simp only[intOf];omega
   ·have hqd:decide (0<mq)=false:=decide_eq_false hq
    have hdn:=hd.trans (zmQ (by rw[hmq];exact hq));have hw:IntKind.i64.wrap (z - 1)=z - 1:=IntWalk.i64_in _ (by omega);rw[hqd];clear hmq hd hq hqd hz8q;go_wp2
    go_roundw
    case rel=>exact⟨⟨q,by omega,hdn,by rw[show z - 1=(q:Int) by omega],rfl⟩⟩
    case measure=>simp only[intOf];omega
end Go.Proofs.YtmcclbiaoeilkaaGreat
