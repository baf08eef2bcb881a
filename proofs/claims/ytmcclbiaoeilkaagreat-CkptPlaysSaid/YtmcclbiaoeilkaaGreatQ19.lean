import Derived.Test.YtmcclbiaoeilkaaGreatQ18
set_option maxHeartbeats 4000000
set_option maxRecDepth 20000
/- Part 19 of a proof;the last part says what is proved. -/
section
namespace Go.Proofs.YtmcclbiaoeilkaaGreat
open Go.Proofs.Tryz Go.RowKit Go.Sl Go.ChangeMaps
structure zqZ (w:World)(la lb:List UInt8)(i:Value)(wr:World):Prop where
 st:∃ k:Nat,k≤la.length∧i = .int .i64 k∧la.take k=lb.take k∧Below w.heap.size w wr
theorem zhX (va vb:Value)(la lb:List UInt8)(w:World)(ha:zd3 w va la)(hb:zd3 w vb lb)(hm:la.length≤4611686018427387904):
  Calls prog 126 #[va,vb] w fun e w'=>e = .returned (.bool (decide (la=lb)))∧Below w.heap.size w w':=by
 obtain⟨aa,ca,rfl,ha0⟩:=ha;obtain⟨ab,cb,rfl,hb0⟩:=hb
 by_cases hl:la.length=lb.length
 ·by_cases hne:la=[]
  ·have hne':lb=[]:=by apply List.eq_nil_of_length_eq_zero;rw[← hl,hne];rfl
   subst hne hne';clear ha0 hb0 hl;go_enter func126,ntmps126;go_wp2
   go_loopw [5] (fun i wr=>i = .int .i64 0∧wr=w) (fun i _=>0)
   case atStart=>exact⟨rfl,rfl⟩
   case round =>
    obtain⟨rfl,rfl⟩:=hrel;go_wp2;go_ret;exact⟨rfl,Below.refl _ _⟩
  obtain⟨ba,oa,rfl,ha⟩:=ha0 hne;obtain⟨bb,ob,rfl,hb⟩:=hb0 (by rintro rfl;apply hne;apply List.eq_nil_of_length_eq_zero;rw[hl];rfl)
  have hq:((la.length:Int) != (lb.length:Int))=false:=by simp;omega
  have HL:=zh hl;have HA:=zh ha;have HB:=zh hb;obtain⟨ti3,hti3,hz03,hts3,hz23⟩:=info_parts (show (prog.info? 5).map (fun i=>(i.zero,i.size,i.bytes))=some (some (.int .u8 0),1,1) from by kernel_rfl);clear ha0 hb0 ha hb hl hz03 hz23;go_enter func126,ntmps126;go_wp2
  go_loopw [5] (fun i wr=>zqZ w la lb i wr) (fun i _=>la.length - (intOf i).toNat)
  case atStart=>exact⟨⟨0,Nat.zero_le _,rfl,rfl,Below.refl _ _⟩⟩
  case round =>
   obtain⟨k,hk,rfl,htk,hbw⟩:=hrel.st;clear hrel;have HT:=zh htk;have HBW:=zh hbw
   by_cases hlt:k<la.length
   ·have hltd:decide ((k:Int)<(la.length:Int))=true:=decide_eq_true (by omega)
    have hl2:=HL.out
    have hki:(k:Int)≤4611686018427387904:=by omega
    obtain⟨x,hx⟩:∃ x,la[k]?=some x:=⟨_,List.getElem?_eq_getElem hlt⟩;obtain⟨y,hy⟩:∃ y,lb[k]?=some y:=⟨_,List.getElem?_eq_getElem (by omega)⟩
    have hlt2:k<lb.length:=by omega
    have c1:wr.cell? ⟨ba,oa+k*1,none⟩=some (.int .u8 (x.toNat:Int)):=by rw[Nat.mul_one];exact (hbw.cell (World.block_lt_of_cell? _ _ (HA.out k x hx))).trans (HA.out k x hx)
    have c2:wr.cell? ⟨bb,ob+k*1,none⟩=some (.int .u8 (y.toNat:Int)):=by rw[Nat.mul_one];exact (hbw.cell (World.block_lt_of_cell? _ _ (HB.out k y hy))).trans (HB.out k y hy)
    have HX:=zh hx;have HY:=zh hy;clear hx hy hl2 htk hbw
    by_cases hxy:x=y
    ·subst hxy
     have hn:((x.toNat:Int) != (x.toNat:Int))=false:=by simp
     go_upto_region 6 with (fail);have hS0:wr.drew.cell? ⟨ba,oa+k*1,none⟩=some (.int .u8 (x.toNat:Int))∧wr.drew.cell? ⟨bb,ob+k*1,none⟩=some (.int .u8 (x.toNat:Int)):=⟨c1,c2⟩
     refine zah (fun w'=>w'.cell? ⟨ba,oa+k*1,none⟩=some (.int .u8 (x.toNat:Int))∧w'.cell? ⟨bb,ob+k*1,none⟩=some (.int .u8 (x.toNat:Int))) (by kernel_rfl) ?_
     (apply zaa 0 rfl rfl (by kernel_rfl) rfl);(rintro w' ⟨h1,h2⟩;go_simp;rfl);exact hS0;simp only[zq];(apply zaa 1 rfl rfl (by kernel_rfl) rfl);(rintro w' ⟨h1,h2⟩;go_simp;rfl);exact hS0;simp only[zq];refine zaa 2 (v:=.pointer (some ⟨ba,oa+k*1,none⟩)) rfl rfl (by kernel_rfl) rfl (fun _ _=>zaw rfl rfl rfl underlying69 hti3 hts3 hlt) hS0 ?_;simp only[zq];refine zaa 3 (v:=.int .u8 (x.toNat:Int)) rfl rfl (by kernel_rfl) rfl (fun _ h=>zbl rfl rfl underlying5 rfl h.1) hS0 ?_;simp only[zq];(apply zaa 4 rfl rfl (by kernel_rfl) rfl);(rintro w' ⟨h1,h2⟩;go_simp;rfl);exact hS0;simp only[zq]
     (apply zaa 5 rfl rfl (by kernel_rfl) rfl);(rintro w' ⟨h1,h2⟩;go_simp;rfl);exact hS0;simp only[zq];refine zaa 6 (v:=.pointer (some ⟨bb,ob+k*1,none⟩)) rfl rfl (by kernel_rfl) rfl (fun _ _=>zaw rfl rfl rfl underlying69 hti3 hts3 hlt2) hS0 ?_;simp only[zq];refine zaa 7 (v:=.int .u8 (x.toNat:Int)) rfl rfl (by kernel_rfl) rfl (fun _ h=>zbl rfl rfl underlying5 rfl h.2) hS0 ?_;simp only[zq];(apply zaa 8 rfl rfl (by kernel_rfl) rfl);(rintro w' ⟨h1,h2⟩;go_simp;rfl);exact hS0;simp only[zq];refine zar (by kernel_rfl) ?_
     go_wp2
     go_roundw
     case rel =>
      refine⟨⟨k+1,hlt,rfl,?_,HBW.out.drew⟩⟩;rw[List.take_add_one,List.take_add_one,HT.out,HX.out,HY.out]
     case measure =>
      simp only[intOf];omega
    ·have hn:((x.toNat:Int) != (y.toNat:Int))=true:=bne_iff_ne.2 fun h=>hxy (UInt8.toNat_inj.1 (by omega))
     go_upto_region 6 with (fail);have hS0:wr.drew.cell? ⟨ba,oa+k*1,none⟩=some (.int .u8 (x.toNat:Int))∧wr.drew.cell? ⟨bb,ob+k*1,none⟩=some (.int .u8 (y.toNat:Int)):=⟨c1,c2⟩
     refine zah (fun w'=>w'.cell? ⟨ba,oa+k*1,none⟩=some (.int .u8 (x.toNat:Int))∧w'.cell? ⟨bb,ob+k*1,none⟩=some (.int .u8 (y.toNat:Int))) (by kernel_rfl) ?_
     (apply zaa 0 rfl rfl (by kernel_rfl) rfl);(rintro w' ⟨h1,h2⟩;go_simp;rfl);exact hS0;simp only[zq];(apply zaa 1 rfl rfl (by kernel_rfl) rfl);(rintro w' ⟨h1,h2⟩;go_simp;rfl);exact hS0;simp only[zq];refine zaa 2 (v:=.pointer (some ⟨ba,oa+k*1,none⟩)) rfl rfl (by kernel_rfl) rfl (fun _ _=>zaw rfl rfl rfl underlying69 hti3 hts3 hlt) hS0 ?_;simp only[zq];refine zaa 3 (v:=.int .u8 (x.toNat:Int)) rfl rfl (by kernel_rfl) rfl (fun _ h=>zbl rfl rfl underlying5 rfl h.1) hS0 ?_;simp only[zq];(apply zaa 4 rfl rfl (by kernel_rfl) rfl);(rintro w' ⟨h1,h2⟩;go_simp;rfl);exact hS0;simp only[zq]
     (apply zaa 5 rfl rfl (by kernel_rfl) rfl);(rintro w' ⟨h1,h2⟩;go_simp;rfl);exact hS0;simp only[zq];refine zaa 6 (v:=.pointer (some ⟨bb,ob+k*1,none⟩)) rfl rfl (by kernel_rfl) rfl (fun _ _=>zaw rfl rfl rfl underlying69 hti3 hts3 hlt2) hS0 ?_;simp only[zq];refine zaa 7 (v:=.int .u8 (y.toNat:Int)) rfl rfl (by kernel_rfl) rfl (fun _ h=>zbl rfl rfl underlying5 rfl h.2) hS0 ?_;simp only[zq];(apply zaa 8 rfl rfl (by kernel_rfl) rfl);(rintro w' ⟨h1,h2⟩;go_simp;rfl);exact hS0;simp only[zq];refine zar (by kernel_rfl) ?_
     go_wp2;go_ret;have hd:decide (la=lb)=false:=decide_eq_false (by rintro rfl;apply hxy;have h1:=HX.out;rw[HY.out] at h1;exact (Option.some.inj h1).symm);rw[hd];exact⟨rfl,HBW.out.drew⟩
   ·have hke:k=la.length:=by omega
    have hltd:decide ((k:Int)<(la.length:Int))=false:=decide_eq_false (by omega);clear htk hbw;go_wp2;go_ret;have hd:decide (la=lb)=true:=decide_eq_true (by have:=HT.out;rwa [hke,List.take_length,HL.out,List.take_length] at this);rw[hd];exact⟨rfl,HBW.out⟩
 ·have hq:((la.length:Int) != (lb.length:Int))=true:=by simp;omega
  have hd:decide (la=lb)=false:=decide_eq_false (by rintro rfl;exact hl rfl);rw[hd];clear hl ha0 hb0 hd;go_enter func126,ntmps126;go_wp2;go_ret;exact⟨rfl,Below.refl _ _⟩
def zms (n:Int):Nat:=if n<0 then (-1 - n).toNat else n.toNat
def zdQ (n:Int):List UInt8:=UInt8.ofNat (if n<0 then 127 - zcB (zms n) else 128+zcB (zms n))::(zc5 (zms n) (zcB (zms n))).map (zaC (decide (n<0)))
theorem zlN (m:Nat):zdQ (m:Int)=zb9 m:=by
 have h:¬ ((m:Int)<0):=by omega
 unfold zdQ zms zb9;rw[if_neg h,if_neg h,decide_eq_false h,zhJ,Int.toNat_natCast]
theorem zmS (m:Nat):∀ k,zc5 m k=(leL m k).reverse
 | 0=>rfl
 | k+1=>by rw[zeb,List.reverse_append,← zmS m k];rfl
theorem znh {m k i:Nat}(h:i<k):(leL m k)[i]?=some (leB m i):=by simp[leL,h]
theorem zjW {m k j:Nat}(h:j<k):(zc5 m k)[j]?=some (leB m (k - 1 - j)):=by
 rw[zmS,List.getElem?_reverse (by rw[zaK];exact h),zaK,znh (by omega)]
theorem zh9 {m k:Nat}(hm:m<9223372036854775808)(h0:m / 256 ^ k=0)(h1:k=0∨0<m / 256 ^ (k - 1)):k=zcB m:=by
 obtain⟨a1,a2⟩:=zfB m 8 (by omega);change m<256 ^ zcB m at a1;change 0<zcB m→0<m / 256 ^ (zcB m - 1) at a2
 have p:=fun k:Nat=>Nat.pow_pos (n:=k) (show 0<256 by decide)
 have b0:m<256 ^ k:=(Nat.div_eq_zero_iff_lt (p k)).1 h0;rcases Nat.lt_trichotomy k (zcB m) with h|h|h
 ·exfalso
  have h2:=a2 (by omega);have h3:m / 256 ^ (zcB m - 1)=0:=Nat.div_eq_of_lt (Nat.lt_of_lt_of_le b0 (Nat.pow_le_pow_right (by decide) (by omega)));omega
 ·exact h
 ·exfalso
  rcases h1 with h1|h1
  ·omega
  ·have h3:m / 256 ^ (k - 1)=0:=Nat.div_eq_of_lt (Nat.lt_of_lt_of_le a1 (Nat.pow_le_pow_right (by decide) (by omega)))
   omega
theorem zf2 (x:UInt8):(255:Int) - (x.toNat:Int)=((zaC true x).toNat:Int):=by
 have h:∀ y:Fin 256,255 - y.val=(zaC true (UInt8.ofNat y.val)).toNat:=by decide +kernel
 have h2:=h ⟨x.toNat,x.toNat_lt⟩;simp only[UInt8.ofNat_toNat] at h2;have:=x.toNat_lt;omega
theorem zcA {ops:Array Oper}{rest:List Oper}{o:Oper}{a:Act}{Q:Exit→Act→World→Prop}{F:zsi}{W:World}{t:TypeId}{v:Value}{L:List UInt8}{z:UInt8}(h:Sat W (zbu v L*F))(hgd:o.guard=none)(s x:Operand)
  (ho:o.op = .call { callee:=.builtin .append,args:=#[s,x],argTypes:=#[69,69] }) (hs:a.eval s=v) (hx:a.eval x = .slice (some ⟨W.heap.size,0,none⟩) 1 1)
  {zi:Int} (hz:zi=(z.toNat:Int)) (hn:L.length≤100000)
  (k:∀ v' w',Same W w'→Sat w' (zbu v' (L++[z])*F)→wpList prog ops Q rest (a.put o.dst v') w'):wpList prog ops Q (o::rest) a (W.alloc (.cells #[.int .u8 zi] t)):=by
 subst hz;obtain⟨i0,hi,hz0,hz1,hz2⟩:=info_parts zdz;refine zaq (F:=F) hgd s x 69 zaM ho i0 _ underlying69 hi hz0 hz1 hz2 rfl (h.allocKeep _) [.int .u8 (z.toNat:Int)] hs hx rfl ?_ (by simp[Value.oneCell']) (by unfold maxLen;omega) (by omega) ?_
 ·intro j u hu
  match j,hu with
  | 0,hu =>
   simp at hu;subst hu;rw[Addr.add_mid];unfold World.cell?;rw[show (W.alloc (.cells #[.int .u8 (z.toNat:Int)] t)).heap[W.heap.size]?=_ from World.alloc_heap_new W _];rfl
 ·intro v' w' h6
  refine k v' w' (((Same.refl W).alloc _).trans h6.out.1) ?_;have:=h6.out.2;unfold zbu
  have e:zaY (L++[z])=zaY L++[.int .u8 (z.toNat:Int)]:=by simp[zaY,zb4]
  rw[e,List.length_append];exact this
theorem zoz (t:TypeId)(a:Nat):binOp .quo t (.int .i64 (a:Int)) (.int .i64 256)=pure (.int .i64 (IntKind.i64.wrap ((a / 256:Nat):Int))):=by
 have hy0:¬ ((256:Int)=0):=by decide
 have e:(a:Int).tdiv 256=((a / 256:Nat):Int):=by rw[Int.natCast_ediv];exact Int.tdiv_eq_ediv_of_nonneg (by omega)
 have h0:binOp .quo t (.int .i64 (a:Int)) (.int .i64 256)=Op.intDiv .quo .i64 (a:Int) 256:=rfl;rw[h0];unfold Op.intDiv;rw[if_neg hy0,e]
theorem zoA (t:TypeId)(a:Nat):binOp .rem t (.int .i64 (a:Int)) (.int .i64 256)=pure (.int .i64 ((a%256:Nat):Int)):=by
 have hy0:¬ ((256:Int)=0):=by decide
 have e:(a:Int).tmod 256=((a%256:Nat):Int):=by rw[Int.natCast_emod];exact Int.tmod_eq_emod_of_nonneg (by omega)
 have h0:binOp .rem t (.int .i64 (a:Int)) (.int .i64 256)=Op.intDiv .rem .i64 (a:Int) 256:=rfl;rw[h0];unfold Op.intDiv;rw[if_neg hy0,e]
attribute [local go_sem high] zoz zoA
structure Dg1 (w:World)(m:Nat)(F:zsi)(x d:Value)(wr:World):Prop where
 st:∃ k:Nat,k≤8∧(k=0∨0<m / 256 ^ (k - 1))∧x = .int .i64 ((m / 256 ^ k:Nat):Int)∧Same w wr∧Sat wr (zbu d (leL m k)*F)
structure Dg2 (w:World)(h:UInt8)(neg:Bool)(m k:Nat)(R:zsi)(o i:Value)(wr:World):Prop where
 st:∃ (j:Nat) (z:Int),j≤k∧z+1+(j:Int)=(k:Int)∧i = .int .i64 z∧Same w wr∧Sat wr (zbu o (h::((zc5 m k).map (zaC neg)).take j)*R)
theorem znf (m:Nat)(hm:m<9223372036854775808)(F:zsi)(w:World)(hF:Sat w F):
  Calls prog 127 #[(m:Int)] w fun e w'=>∃ v,e = .returned v∧Hid (Same w w'∧Sat w' (zbu v (UInt8.ofNat (128+zcB m)::(zc5 m (zcB m)).map (zaC false))*F)):=by
 have H1:=(zd (Same.refl w) hF);have HM:=zh hm;have hz0:decide ((m:Int)<0)=false:=decide_eq_false (by omega);have hz1:decide (0≤(m:Int))=true:=decide_eq_true (by omega);obtain⟨ti,hti,hz3,hts,hz2⟩:=info_parts zdz;clear hF hm;go_enter func127,ntmps127;go_wp2
 go_loopw [3,4] (fun x d wr=>Dg1 w m F x d wr) (fun x _ _=>(intOf x).toNat)
 case atStart=>exact⟨0,by omega,.inl rfl,by simp,H1.out.1,zeY.2 H1.out.2⟩
 case round =>
  clear H1;obtain⟨k,hk,hkp,rfl,hsm,hs⟩:=hrel.st;clear hrel;have H1:=(zd hsm hs);obtain⟨ao,cap,rfl⟩:=zal hs;clear hsm hs
  by_cases hp:0<m / 256 ^ k
  case pos =>
   have hk8:k<8:=by
    rcases Nat.lt_or_ge k 8 with h|h
    ·exact h
    ·exfalso
     obtain rfl:k=8:=by omega
     have h2:m / 256 ^ 8=0:=Nat.div_eq_of_lt (by have:=HM.out;omega);omega
   have hml:m / 256 ^ k<9223372036854775808:=Nat.lt_of_le_of_lt (Nat.div_le_self _ _) HM.out;have HLB:=zh (zgT m k);have HSU:=zh (show m / 256 ^ k / 256=m / 256 ^ (k+1) by rw[Nat.div_div_eq_div_mul,Nat.pow_succ]);have HKP:=zh (show 0<m / 256 ^ (k+1 - 1) from hp);clear hkp;generalize m / 256 ^ k=y at hml HLB HSU hp ⊢
   have hm0:(0:Int)≤(y:Int):=by omega
   have hm1:(y:Int)<9223372036854775808:=by omega
   have hpd:decide ((0:Int)<(y:Int))=true:=decide_eq_true (by omega);have hqw:IntKind.i64.wrap ((y / 256:Nat):Int)=((y / 256:Nat):Int):=IntWalk.i64_in _ (by omega);have hpn:decide (0<y)=true:=decide_eq_true hp;have HWE:=zh (show wrap64 ((y:Int) / 256)=((y / 256:Nat):Int) from by unfold wrap64;omega);have HLT:=zh (show y / 256<y from Nat.div_lt_self hp (by decide));clear hml hp hm1;go_wp2_with (at_builtin;refine zcA (F:=F) (z:=leB m k) H1.out.2 rfl _ _ rfl rfl rfl ?_ ?_ ?_)
   ·exact HLB.out
   ·rw[zaK];omega
   intro v' w2 hsm2 h2;replace H1:=(zd (H1.out.1.trans hsm2) (by rw[← zeb] at h2;exact h2));clear hsm2 h2;go_wp2;rw[HWE.out];refine⟨⟨k+1,by omega,.inr HKP.out,by rw[← HSU.out],H1.out.1,H1.out.2⟩,by have:=HLT.out;simp only[intOf];omega⟩
  case neg =>
   have hy:m / 256 ^ k=0:=Nat.eq_zero_of_not_pos hp;have hkd:=zh9 HM.out hy hkp;rw[hy,show (((0:Nat):Nat):Int)=(0:Int) from rfl];have HQ:=zh hkd;clear hkd hy hp hkp;rw[zaK]
   have hq8:(k:Int)≤8:=by omega
   have hq0:0≤(k:Int):=by omega
   have HCL:=zh (show ∀ (W:World) (X:zsi) (i:Nat),i<k→Sat W (zbu (.slice ao (leL m k).length cap) (leL m k)*X)→∃ g,ao=some ⟨g,0,none⟩∧W.cell? ⟨g,i,none⟩=some (.int .u8 ((leB m i).toNat:Int)) from fun W X i hi h=>by
    obtain⟨g,gcap,hv,hcell⟩:=zbd h (by rw[zaK];omega)
    obtain⟨rfl,_,rfl⟩:ao=some ⟨g,0,none⟩∧True∧cap=gcap:=by simpa using hv
    refine⟨g,rfl,hcell i _ ?_⟩
    rw[zaY,List.getElem?_map,znh hi];rfl)
   obtain⟨h0,hh0⟩:∃ h,UInt8.ofNat (128+k)=h:=⟨_,rfl⟩
   have hv0:(h0.toNat:Int)=128+(k:Int):=by rw[← hh0,UInt8.toNat_ofNat'];omega
   have HH:=(zd hh0 hv0);clear hh0 hv0;go_wp2_with (at_builtin;refine zcA (L:=[]) (z:=h0) (zeY.2 H1.out.2) rfl _ _ rfl rfl rfl ?_ ?_ ?_)
   ·exact HH.out.2.symm
   ·simp
   intro v0 w2 hsm2 h2;replace H1:=(zd (H1.out.1.trans hsm2) h2);clear hsm2 h2;replace H1:=(zd H1.out.1 (show Sat w2 (zbu v0 [h0]*(zbu (.slice ao (leL m k).length cap) (leL m k)*F)) from H1.out.2));go_wp2;generalize hR:zbu (.slice ao (leL m k).length cap) (leL m k)*F=R at H1;have HR:=zh hR;clear hR
   go_loopw [6,7,8] (fun o i _ wq=>Dg2 w (h0) false m k R o i wq) (fun _ i _ _=>(intOf i+1).toNat)
   case atStart=>exact⟨0,(k:Int) - 1,Nat.zero_le _,by omega,rfl,H1.out.1,by rw[List.take_zero];exact H1.out.2⟩
   case round =>
    clear H1;obtain⟨j,z2,hj,hz4,rfl,hsm,hs⟩:=hrel.st;clear hrel;have H1:=(zd hsm hs);obtain⟨ao2,cap2,rfl⟩:=zal hs;clear hsm hs
    have hll:(h0::((zc5 m k).map (zaC false)).take j).length=j+1:=by
     rw[List.length_cons,List.length_take,List.length_map,zbi,Nat.min_eq_left hj]
    by_cases hlt:j<k
    case pos =>
     obtain rfl:z2=((k - 1 - j:Nat):Int):=by omega
     have HD:=zh (show (zc5 m k)[j]?=some (leB m (k - 1 - j)) from zjW hlt);obtain⟨g,rfl,cx⟩:=HCL.out wr (zbu (.slice ao2 (h0::((zc5 m k).map (zaC false)).take j).length cap2) (h0::((zc5 m k).map (zaC false)).take j)*F) (k - 1 - j) (by omega) (H1.out.2.perm (by rw[← HR.out];ac_rfl))
     have hi1:k - 1 - j<k:=by omega
     have HZ:=zh (show k - 1 - j<8 from by omega);have HJ:=zh (show (j+1≤k)∧((k - 1 - j:Nat):Int)+1+(j:Int)=(k:Int) from⟨hlt,by omega⟩);clear hz4 hlt;generalize k - 1 - j=i at cx hi1 HZ HJ HD ⊢;generalize leB m i=x at cx HD
     have hi2:0≤(i:Int):=by omega
     have hi3:(i:Int)<(k:Int):=by omega
     have hid:decide ((0:Int)≤(i:Int))=true:=decide_eq_true (by omega);have hxl:=x.toNat_lt;go_wp2_with (at_builtin;refine zcA (z:=zaC false x) H1.out.2 rfl _ _ rfl rfl rfl ?_ ?_ ?_)
     ·rfl
     ·rw[hll];omega
     intro v3 w3 hsm3 h3;replace H1:=(zd (H1.out.1.trans hsm3) h3);clear hsm3 h3;go_wp2;refine⟨⟨j+1,(i:Int) - 1,HJ.out.1,by have:=HJ.out.2;omega,rfl,H1.out.1,?_⟩,by simp only[intOf];omega⟩
     have e:((zc5 m k).map (zaC false)).take (j+1)=((zc5 m k).map (zaC false)).take j++[zaC false x]:=by
      rw[List.take_add_one,List.getElem?_map,HD.out];rfl
     rw[e];exact H1.out.2
    case neg =>
     obtain rfl:j=k:=by omega
     obtain rfl:z2 = -1:=by omega
     go_wp2;go_ret
     have e:h0::((zc5 m j).map (zaC false)).take j=UInt8.ofNat (128+zcB m)::(zc5 m (zcB m)).map (zaC false):=by
      rw[List.take_of_length_le (by rw[List.length_map,zbi];exact Nat.le_refl _),← HH.out.1,HQ.out]
     refine⟨.slice ao2 (h0::((zc5 m j).map (zaC false)).take j).length cap2,rfl,H1.out.1,?_⟩;have h:=H1.out.2;rw[← HR.out] at h;rw[← e];exact (h.perm (show _=zbu (.slice ao (leL m j).length cap) (leL m j)*(zbu (.slice ao2 (h0::((zc5 m j).map (zaC false)).take j).length cap2) (h0::((zc5 m j).map (zaC false)).take j)*F) from by ac_rfl)).right
theorem zne (m:Nat)(hm:m<9223372036854775808)(z:Int)(hz:z = -1 - (m:Int))(F:zsi)(w:World)(hF:Sat w F):
  Calls prog 127 #[z] w fun e w'=>∃ v,e = .returned v∧Hid (Same w w'∧Sat w' (zbu v (UInt8.ofNat (127 - zcB m)::(zc5 m (zcB m)).map (zaC true))*F)):=by
 have H1:=(zd (Same.refl w) hF);have HM:=zh hm;have hz0:decide (z<0)=true:=decide_eq_true (by omega);have hz1:decide (0≤z)=false:=decide_eq_false (by omega)
 have hzw:IntKind.i64.wrap (-1 - z)=(m:Int):=by rw[show -1 - z=(m:Int) by omega];exact IntWalk.i64_in _ (by omega)
 obtain⟨ti,hti,hz3,hts,hz2⟩:=info_parts zdz;clear hF hm hz;go_enter func127,ntmps127;go_wp2
 go_loopw [3,4] (fun x d wr=>Dg1 w m F x d wr) (fun x _ _=>(intOf x).toNat)
 case atStart=>exact⟨0,by omega,.inl rfl,by simp,H1.out.1,zeY.2 H1.out.2⟩
 case round =>
  clear H1;obtain⟨k,hk,hkp,rfl,hsm,hs⟩:=hrel.st;clear hrel;have H1:=(zd hsm hs);obtain⟨ao,cap,rfl⟩:=zal hs;clear hsm hs
  by_cases hp:0<m / 256 ^ k
  case pos =>
   have hk8:k<8:=by
    rcases Nat.lt_or_ge k 8 with h|h
    ·exact h
    ·exfalso
     obtain rfl:k=8:=by omega
     have h2:m / 256 ^ 8=0:=Nat.div_eq_of_lt (by have:=HM.out;omega);omega
   have hml:m / 256 ^ k<9223372036854775808:=Nat.lt_of_le_of_lt (Nat.div_le_self _ _) HM.out;have HLB:=zh (zgT m k);have HSU:=zh (show m / 256 ^ k / 256=m / 256 ^ (k+1) by rw[Nat.div_div_eq_div_mul,Nat.pow_succ]);have HKP:=zh (show 0<m / 256 ^ (k+1 - 1) from hp);clear hkp;generalize m / 256 ^ k=y at hml HLB HSU hp ⊢
   have hm0:(0:Int)≤(y:Int):=by omega
   have hm1:(y:Int)<9223372036854775808:=by omega
   have hpd:decide ((0:Int)<(y:Int))=true:=decide_eq_true (by omega);have hqw:IntKind.i64.wrap ((y / 256:Nat):Int)=((y / 256:Nat):Int):=IntWalk.i64_in _ (by omega);have hpn:decide (0<y)=true:=decide_eq_true hp;have HWE:=zh (show wrap64 ((y:Int) / 256)=((y / 256:Nat):Int) from by unfold wrap64;omega);have HLT:=zh (show y / 256<y from Nat.div_lt_self hp (by decide));clear hml hp hm1;go_wp2_with (at_builtin;refine zcA (F:=F) (z:=leB m k) H1.out.2 rfl _ _ rfl rfl rfl ?_ ?_ ?_)
   ·exact HLB.out
   ·rw[zaK];omega
   intro v' w2 hsm2 h2;replace H1:=(zd (H1.out.1.trans hsm2) (by rw[← zeb] at h2;exact h2));clear hsm2 h2;go_wp2;rw[HWE.out];refine⟨⟨k+1,by omega,.inr HKP.out,by rw[← HSU.out],H1.out.1,H1.out.2⟩,by have:=HLT.out;simp only[intOf];omega⟩
  case neg =>
   have hy:m / 256 ^ k=0:=Nat.eq_zero_of_not_pos hp;have hkd:=zh9 HM.out hy hkp;rw[hy,show (((0:Nat):Nat):Int)=(0:Int) from rfl];have HQ:=zh hkd;clear hkd hy hp hkp;rw[zaK]
   have hq8:(k:Int)≤8:=by omega
   have hq0:0≤(k:Int):=by omega
   have HCL:=zh (show ∀ (W:World) (X:zsi) (i:Nat),i<k→Sat W (zbu (.slice ao (leL m k).length cap) (leL m k)*X)→∃ g,ao=some ⟨g,0,none⟩∧W.cell? ⟨g,i,none⟩=some (.int .u8 ((leB m i).toNat:Int)) from fun W X i hi h=>by
    obtain⟨g,gcap,hv,hcell⟩:=zbd h (by rw[zaK];omega)
    obtain⟨rfl,_,rfl⟩:ao=some ⟨g,0,none⟩∧True∧cap=gcap:=by simpa using hv
    refine⟨g,rfl,hcell i _ ?_⟩
    rw[zaY,List.getElem?_map,znh hi];rfl)
   obtain⟨h0,hh0⟩:∃ h,UInt8.ofNat (127 - k)=h:=⟨_,rfl⟩
   have hv0:(h0.toNat:Int)=127 - (k:Int):=by rw[← hh0,UInt8.toNat_ofNat'];omega
   have HH:=(zd hh0 hv0);clear hh0 hv0;go_wp2_with (at_builtin;refine zcA (L:=[]) (z:=h0) (zeY.2 H1.out.2) rfl _ _ rfl rfl rfl ?_ ?_ ?_)
   ·exact HH.out.2.symm
   ·simp
   intro v0 w2 hsm2 h2;replace H1:=(zd (H1.out.1.trans hsm2) h2);clear hsm2 h2;replace H1:=(zd H1.out.1 (show Sat w2 (zbu v0 [h0]*(zbu (.slice ao (leL m k).length cap) (leL m k)*F)) from H1.out.2));go_wp2;generalize hR:zbu (.slice ao (leL m k).length cap) (leL m k)*F=R at H1;have HR:=zh hR;clear hR
   go_loopw [6,7,8] (fun o i _ wq=>Dg2 w (h0) true m k R o i wq) (fun _ i _ _=>(intOf i+1).toNat)
   case atStart=>exact⟨0,(k:Int) - 1,Nat.zero_le _,by omega,rfl,H1.out.1,by rw[List.take_zero];exact H1.out.2⟩
   case round =>
    clear H1;obtain⟨j,z2,hj,hz4,rfl,hsm,hs⟩:=hrel.st;clear hrel;have H1:=(zd hsm hs);obtain⟨ao2,cap2,rfl⟩:=zal hs;clear hsm hs
    have hll:(h0::((zc5 m k).map (zaC true)).take j).length=j+1:=by
     rw[List.length_cons,List.length_take,List.length_map,zbi,Nat.min_eq_left hj]
    by_cases hlt:j<k
    case pos =>
     obtain rfl:z2=((k - 1 - j:Nat):Int):=by omega
     have HD:=zh (show (zc5 m k)[j]?=some (leB m (k - 1 - j)) from zjW hlt);obtain⟨g,rfl,cx⟩:=HCL.out wr (zbu (.slice ao2 (h0::((zc5 m k).map (zaC true)).take j).length cap2) (h0::((zc5 m k).map (zaC true)).take j)*F) (k - 1 - j) (by omega) (H1.out.2.perm (by rw[← HR.out];ac_rfl))
     have hi1:k - 1 - j<k:=by omega
     have HZ:=zh (show k - 1 - j<8 from by omega);have HJ:=zh (show (j+1≤k)∧((k - 1 - j:Nat):Int)+1+(j:Int)=(k:Int) from⟨hlt,by omega⟩);clear hz4 hlt;generalize k - 1 - j=i at cx hi1 HZ HJ HD ⊢;generalize leB m i=x at cx HD
     have hi2:0≤(i:Int):=by omega
     have hi3:(i:Int)<(k:Int):=by omega
     have hid:decide ((0:Int)≤(i:Int))=true:=decide_eq_true (by omega);have hxl:=x.toNat_lt;go_wp2_with (at_builtin;refine zcA (z:=zaC true x) H1.out.2 rfl _ _ rfl rfl rfl ?_ ?_ ?_)
     ·have:=zf2 x;omega
     ·rw[hll];omega
     intro v3 w3 hsm3 h3;replace H1:=(zd (H1.out.1.trans hsm3) h3);clear hsm3 h3;go_wp2;refine⟨⟨j+1,(i:Int) - 1,HJ.out.1,by have:=HJ.out.2;omega,rfl,H1.out.1,?_⟩,by simp only[intOf];omega⟩
     have e:((zc5 m k).map (zaC true)).take (j+1)=((zc5 m k).map (zaC true)).take j++[zaC true x]:=by
      rw[List.take_add_one,List.getElem?_map,HD.out];rfl
     rw[e];exact H1.out.2
    case neg =>
     obtain rfl:j=k:=by omega
     obtain rfl:z2 = -1:=by omega
     go_wp2;go_ret
     have e:h0::((zc5 m j).map (zaC true)).take j=UInt8.ofNat (127 - zcB m)::(zc5 m (zcB m)).map (zaC true):=by
      rw[List.take_of_length_le (by rw[List.length_map,zbi];exact Nat.le_refl _),← HH.out.1,HQ.out]
     refine⟨.slice ao2 (h0::((zc5 m j).map (zaC true)).take j).length cap2,rfl,H1.out.1,?_⟩;have h:=H1.out.2;rw[← HR.out] at h;rw[← e];exact (h.perm (show _=zbu (.slice ao (leL m j).length cap) (leL m j)*(zbu (.slice ao2 (h0::((zc5 m j).map (zaC true)).take j).length cap2) (h0::((zc5 m j).map (zaC true)).take j)*F) from by ac_rfl)).right
theorem zfM (n:Int)(h1 : -9223372036854775808≤n)(h2:n<9223372036854775808)(F:zsi)(w:World)(hF:Sat w F):
  Calls prog 127 #[n] w fun e w'=>∃ v,e = .returned v∧Hid (Same w w'∧Sat w' (zbu v (zdQ n)*F)):=by
 unfold zdQ zms
 by_cases h:n<0
 ·rw[if_pos h,if_pos h,decide_eq_true h]
  exact zne (-1 - n).toNat (by omega) n (by omega) F w hF
 ·rw[if_neg h,if_neg h,decide_eq_false h]
  have:=znf n.toNat (by omega) F w hF
  rwa [Int.toNat_of_nonneg (by omega)] at this
end Go.Proofs.YtmcclbiaoeilkaaGreat
end
section
namespace Go.Proofs.YtmcclbiaoeilkaaGreat
open Go.Proofs.Tryz Go.RowKit Go.Sl Go.ChangeMaps
theorem zkC:∀ {l m:List UInt8},l.length=m.length→zbv l=zbv m→l=m
 | [],[],_,_=>rfl
 | [],_::_,h,_=>by cases h
 | _::_,[],h,_=>by cases h
 | x::l,y::m,h,e=>by
  rw[zes,zes] at e
  have hl:l.length=m.length:=by simpa using h
  have h1:=zf0 l;have h2:=zf0 m;rw[hl] at e h1;have hp:0<256 ^ m.length:=Nat.pow_pos (by decide)
  have hxy:x.toNat=y.toNat:=by
   have a:=congrArg (· / 256 ^ m.length) e;simp only[Nat.mul_comm _ (256 ^ m.length),Nat.mul_add_div hp,Nat.div_eq_of_lt h1,Nat.div_eq_of_lt h2,Nat.add_zero] at a;exact a
  have e2:zbv l=zbv m:=by rw[hxy] at e;omega
  rw[UInt8.toNat_inj.1 hxy,zkC hl e2]
theorem zoL (l:List UInt8):zc5 (zbv l) l.length=l:=
 zkC (zbi _ _) (by rw[zgF,Nat.mod_eq_of_lt (zf0 l)])
theorem ziX (f:Bool)(l:List UInt8):(l.map (zaC f)).map (zaC f)=l:=by
 rw[List.map_map]
 have:(zaC f ∘ zaC f)=id:=by
  funext x
  cases f
  ·rfl
  ·show (x ^^^ 255) ^^^ 255=x
   rw[UInt8.xor_assoc,UInt8.xor_self,UInt8.xor_zero]
 rw[this,List.map_id]
theorem ziQ (l:List UInt8){j:Nat}{y:UInt8}(h:l[j]?=some y):zbv (l.take (j+1))=zbv (l.take j)*256+y.toNat:=by
 rw[List.take_add_one,h];exact zgG _ _
theorem ziP (l:List UInt8)(j:Nat):zbv (l.take j)≤zbv l:=by
 have h:zbv l=zbv (l.take j)*256 ^ (l.drop j).length+zbv (l.drop j):=by
  have:=zkK (l.drop j) (zbv (l.take j));rw[← this];unfold zbv;rw[← List.foldl_append,List.take_append_drop]
 have hp:0<256 ^ (l.drop j).length:=Nat.pow_pos (by decide);have:=Nat.le_mul_of_pos_right (zbv (l.take j)) hp;omega
def sgn (x:UInt8):Bool:=decide (x<128)
def zdL (x:UInt8):Nat:=(zaC (sgn x) x).toNat - 128
theorem zlb {x:UInt8}(h:sgn x=true):(x.toNat:Int)<128∧(zdL x:Int)=127 - (x.toNat:Int):=by
 have h1:x<128:=of_decide_eq_true h;have h2:x.toNat<128:=h1;have:=zf2 x;unfold zdL;rw[h];omega
theorem zjy {x:UInt8}(h:sgn x=false):128≤(x.toNat:Int)∧(zdL x:Int)=(x.toNat:Int) - 128:=by
 have h1:¬ x<128:=of_decide_eq_false h;have h2:¬ x.toNat<128:=h1;unfold zdL;rw[h];show _∧((x.toNat - 128:Nat):Int)=_;omega
def zbb (x:UInt8)(r:List UInt8):List UInt8:=(r.take (zdL x)).map (zaC (sgn x))
def ziJ (x:UInt8)(r:List UInt8):Int:=if sgn x=true then -1 - (zbv (zbb x r):Int) else (zbv (zbb x r):Int)
theorem zfl (x:UInt8)(r:List UInt8):zey (x::r)=if 8<zdL x then none else if r.length<zdL x then none else if 0<zdL x∧zaC (sgn x) (r.getD 0 0)=0 then none else if 9223372036854775808≤zbv (zbb x r) then none else some (ziJ x r,zdL x+1):=by
 have hn:ziJ x r=(if x<128 then -1 - (zbv (zbb x r):Int) else (zbv (zbb x r):Int)):=by
  unfold ziJ sgn
  by_cases h:x<128
  ·rw[if_pos (decide_eq_true h),if_pos h]
  ·rw[if_neg (by simp[h]),if_neg h]
 rw[hn]
 rfl
theorem zet {x:UInt8}{r:List UInt8}(h:zdL x≤r.length):(zbb x r).length=zdL x:=by unfold zbb;rw[List.length_map,List.length_take];omega
theorem zpd {x:UInt8}{r:List UInt8}:zms (ziJ x r)=zbv (zbb x r)∧decide (ziJ x r<0)=sgn x:=by
 unfold ziJ zms;cases h:sgn x
 ·simp only[Bool.false_eq_true,if_false]
  rw[if_neg (by omega)];exact⟨Int.toNat_natCast _,decide_eq_false (by omega)⟩
 ·simp only[if_true]
  rw[if_pos (by omega)];exact⟨by omega,decide_eq_true (by omega)⟩
theorem zhK {x:UInt8}{r:List UInt8}(h8:zdL x≤8)(hr:zdL x≤r.length)(hm:zbv (zbb x r)<9223372036854775808):
  zdQ (ziJ x r)=(x::r).take (zdL x+1)↔¬ (0<zdL x∧zaC (sgn x) (r.getD 0 0)=0):=by
 obtain⟨e1,e2⟩:=@zpd x r
 have e3:(if ziJ x r<0 then 127 - zcB (zms (ziJ x r)) else 128+zcB (zms (ziJ x r)))=(if sgn x=true then 127 - zcB (zbv (zbb x r)) else 128+zcB (zbv (zbb x r))):=by
  rw[e1,← e2];simp
 unfold zdQ;rw[e3,e1,e2,List.take_succ_cons];have hbl:=zet hr;have hflip:(zbb x r).map (zaC (sgn x))=r.take (zdL x):=ziX _ _
 constructor
 ·intro h
  injection h with _ h
  rintro⟨h1,h2⟩;have hl:=congrArg List.length h;rw[List.length_map,zbi,List.length_take,Nat.min_eq_left hr] at hl;rw[hl] at h;obtain⟨q,hq⟩:∃ q,zdL x=q+1:=⟨zdL x - 1,by omega⟩;obtain⟨a1,a2⟩:=zfB (zbv (zbb x r)) 8 (by omega);change zbv (zbb x r)<256 ^ zcB (zbv (zbb x r)) at a1;change 0<zcB (zbv (zbb x r))→0<zbv (zbb x r) / 256 ^ (zcB (zbv (zbb x r)) - 1) at a2;rw[hl] at a1 a2;have a3:=a2 h1;have h0:=congrArg (fun l=>l[0]?) h;obtain⟨y,hy⟩:∃ y,r[0]?=some y:=⟨_,List.getElem?_eq_getElem (by omega)⟩;simp only[List.getElem?_map,zjW (show 0<zdL x from h1),List.getElem?_take,h1,if_true,hy,Option.map_some,Option.some.injEq] at h0
  have hgd:r.getD 0 0=y:=by simp[hy]
  rw[hgd,← h0] at h2
  have h4:leB (zbv (zbb x r)) (zdL x - 1 - 0)=0:=by
   have:=congrArg (zaC (sgn x)) h2
   have ff:∀ z,zaC (sgn x) (zaC (sgn x) z)=z:=fun z=>by
    have:=ziX (sgn x) [z];simpa using this
   rwa [ff] at h2
  have h5:=congrArg UInt8.toNat h4
  have h6:(leB (zbv (zbb x r)) (zdL x - 1 - 0)).toNat=zbv (zbb x r) / 256 ^ (zdL x - 1 - 0)%256:=by unfold leB;rw[UInt8.toNat_ofNat']
  rw[h6,Nat.sub_zero] at h5
  have h7:zbv (zbb x r) / 256 ^ (zdL x - 1)<256:=by
   rw[Nat.div_lt_iff_lt_mul (Nat.pow_pos (by decide))];rw[hq,Nat.pow_succ] at a1;rw[hq,Nat.add_sub_cancel];omega
  rw[Nat.mod_eq_of_lt h7] at h5;have h8:zbv (zbb x r) / 256 ^ (zdL x - 1)=0:=h5;omega
 ·intro h
  have hdn:zcB (zbv (zbb x r))=zdL x:=by
   refine (zh9 hm (Nat.div_eq_of_lt ?_) ?_).symm
   ·have:=zf0 (zbb x r);rwa [hbl] at this
   ·by_cases h1:zdL x=0
    ·exact .inl h1
    ·right
     obtain⟨q,hq⟩:∃ q,zdL x=q+1:=⟨zdL x - 1,by omega⟩;obtain⟨y,hy⟩:∃ y,r[0]?=some y:=⟨_,List.getElem?_eq_getElem (by omega)⟩
     have hgd:r.getD 0 0=y:=by simp[hy]
     have hne:zaC (sgn x) y≠0:=fun hz=>h ⟨by omega,by rw[hgd];exact hz⟩
     obtain⟨s,hs⟩:∃ s,zbb x r=zaC (sgn x) y::s:=by
      cases r with
      | nil=>simp at hy
      | cons a t =>
       simp at hy;subst hy;exact⟨(t.take q).map (zaC (sgn x)),by unfold zbb;rw[hq,List.take_succ_cons,List.map_cons]⟩
     have hsl:s.length=q:=by
      have:=hbl;rw[hs,hq,List.length_cons] at this;omega
     have hpos:0<(zaC (sgn x) y).toNat:=by
      rcases Nat.eq_zero_or_pos (zaC (sgn x) y).toNat with h0|h0
      ·exact absurd (UInt8.toNat_inj.1 h0) hne
      ·exact h0
     rw[hs,zes,hsl,hq,Nat.add_sub_cancel];have hp:0<256 ^ q:=Nat.pow_pos (by decide);refine Nat.div_pos ?_ hp;have:=Nat.le_mul_of_pos_left (256 ^ q) hpos;omega
  rw[hdn];refine List.cons_eq_cons.2 ⟨?_,?_⟩
  ·apply UInt8.toNat_inj.1
   rw[UInt8.toNat_ofNat'];cases hs:sgn x
   ·obtain⟨a,b⟩:=zjy hs
    have:=x.toNat_lt;rw[if_neg (by decide)];omega
   ·obtain⟨a,b⟩:=zlb hs
    rw[if_pos rfl];omega
  ·have:zc5 (zbv (zbb x r)) (zdL x)=zbb x r:=by
    have:=zoL (zbb x r)
    rwa [hbl] at this
   rw[this];exact hflip
def zrX (b:List UInt8)(n u er:Int):Prop:=(zey b=some (n,u.toNat)∧0≤u∧er=0)∨(zey b=none∧n=0∧u=0∧er≠0)
theorem zcI {b:List UInt8}{er:Int}(h:zey b=none)(he:er≠0):zrX b 0 0 er:=.inr ⟨h,rfl,rfl,he⟩
end Go.Proofs.YtmcclbiaoeilkaaGreat
end
