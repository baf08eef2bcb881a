import Derived.Test.YtmcclbiaoeilkaaGreatQ13
set_option maxHeartbeats 2000000
set_option maxRecDepth 100000
/- Part 14 of a proof;the last part says what is proved. -/
section
namespace Go.Proofs.YtmcclbiaoeilkaaGreat
open Go.Proofs.Tryz Go.RowKit Go.Sl Go.ChangeMaps
theorem zqq (r:UInt32):r &&& 1=0∨r &&& 1=1:=by
 have h:(r &&& 1).toNat=r.toNat%2:=by rw[UInt32.toNat_and];exact Nat.and_one_is_mod _
 rcases Nat.mod_two_eq_zero_or_one r.toNat with h2|h2
 ·left;apply UInt32.toNat_inj.1;rw[h,h2];rfl
 ·right;apply UInt32.toNat_inj.1;rw[h,h2];rfl
theorem zoH {r:UInt32}(h:r &&& 1=1):zmr r=(r >>> 1) ^^^ 2197175160:=by
 unfold zmr;rw[h];rfl
theorem zmN {r:UInt32}(h:r &&& 1=0):zmr r=r >>> 1:=by
 unfold zmr;rw[h];have:(2197175160:UInt32) &&& (0 - 0)=0:=rfl;rw[this,UInt32.xor_zero]
theorem zmM {h y:UInt32}(hh:h &&& 1=0):zmr (h ^^^ y)=(h >>> 1) ^^^ zmr y:=by
 have e:(h ^^^ y) &&& 1=y &&& 1:=by
  have hh2:=congrArg UInt32.toNat hh;rw[UInt32.toNat_and] at hh2
  have hh3:h.toNat%2=0:=by rw[← Nat.and_one_is_mod];exact hh2
  apply UInt32.toNat_inj.1;rw[UInt32.toNat_and,UInt32.toNat_and,UInt32.toNat_xor];show (h.toNat ^^^ y.toNat) &&& 1=y.toNat &&& 1;have h4:(h.toNat ^^^ y.toNat)%2 ^ 1=(h.toNat%2 ^ 1) ^^^ (y.toNat%2 ^ 1):=Nat.xor_mod_two_pow;rw[Nat.and_one_is_mod,Nat.and_one_is_mod];rw[show (2:Nat) ^ 1=2 from rfl,hh3,Nat.zero_xor] at h4;exact h4
 unfold zmr;rw[e,UInt32.shiftRight_xor,UInt32.xor_assoc]
theorem ziT {H y:UInt32}(hH:∃ m,H.toNat=m*256):∀ k,k≤8→ziI k (H ^^^ y)=(UInt32.ofNat (H.toNat / 2 ^ k)) ^^^ ziI k y
 | 0,_=>by simp[ziI]
 | k+1,hk=>by
  obtain⟨m,hm⟩:=hH;unfold ziI;rw[ziT ⟨m,hm⟩ k (by omega),zmM]
  ·congr 1
   apply UInt32.toNat_inj.1;have hlt:=H.toNat_lt;have h1:H.toNat / 2 ^ k<4294967296:=Nat.lt_of_le_of_lt (Nat.div_le_self _ _) hlt;rw[UInt32.toNat_shiftRight,UInt32.toNat_ofNat_of_lt' h1];have h2:H.toNat / 2 ^ (k+1)<4294967296:=Nat.lt_of_le_of_lt (Nat.div_le_self _ _) hlt;rw[UInt32.toNat_ofNat_of_lt' h2];show (H.toNat / 2 ^ k) >>> 1=_;rw[Nat.shiftRight_eq_div_pow,Nat.div_div_eq_div_mul,← Nat.pow_add]
  ·apply UInt32.toNat_inj.1
   have hlt:=H.toNat_lt;have h1:H.toNat / 2 ^ k<4294967296:=Nat.lt_of_le_of_lt (Nat.div_le_self _ _) hlt;rw[UInt32.toNat_and,UInt32.toNat_ofNat_of_lt' h1];show (H.toNat / 2 ^ k) &&& 1=0;rw[Nat.and_one_is_mod,hm]
   have:k=0∨k=1∨k=2∨k=3∨k=4∨k=5∨k=6∨k=7:=by omega
   rcases this with h|h|h|h|h|h|h|h <;> subst h <;> omega
theorem znn (n:Nat):(n / 256*256) ^^^ (n%256)=n:=by
 apply Nat.eq_of_testBit_eq;intro i;rw[Nat.testBit_xor,show n / 256*256=(n >>> 8) <<< 8 by rw[Nat.shiftRight_eq_div_pow,Nat.shiftLeft_eq],show (256:Nat)=2 ^ 8 from rfl,Nat.testBit_mod_two_pow,Nat.testBit_shiftLeft,Nat.testBit_shiftRight]
 by_cases h:i<8
 ·have h2:¬ 8≤i:=by omega
  simp[h,h2]
 ·have h2:8≤i:=by omega
  simp[h,h2]
theorem zoK (r:UInt32)(x:UInt8):ziI 8 (r ^^^ UInt32.ofNat x.toNat)=zhv r x:=by
 have hr:=r.toNat_lt;have hx:=x.toNat_lt
 have hl:(UInt8.ofNat r.toNat ^^^ x).toNat=(r.toNat%256) ^^^ x.toNat:=by rw[UInt8.toNat_xor,UInt8.toNat_ofNat']
 have hl2:=(UInt8.ofNat r.toNat ^^^ x).toNat_lt
 have e:r ^^^ UInt32.ofNat x.toNat=UInt32.ofNat (r.toNat / 256*256) ^^^ UInt32.ofNat (UInt8.ofNat r.toNat ^^^ x).toNat:=by
  apply UInt32.toNat_inj.1;rw[UInt32.toNat_xor,UInt32.toNat_xor,UInt32.toNat_ofNat_of_lt' (by show _<4294967296;omega),UInt32.toNat_ofNat_of_lt' (by show _<4294967296;omega),UInt32.toNat_ofNat_of_lt' (by show _<4294967296;omega),hl,← Nat.xor_assoc,znn]
 have h1:(UInt32.ofNat (r.toNat / 256*256)).toNat=r.toNat / 256*256:=UInt32.toNat_ofNat_of_lt' (by show _<4294967296;omega);rw[e,ziT ⟨r.toNat / 256,h1⟩ 8 (Nat.le_refl _),h1];unfold zhv zoJ;congr 1;apply UInt32.toNat_inj.1;rw[UInt32.toNat_shiftRight,UInt32.toNat_ofNat_of_lt' (by show _<4294967296;omega)];show _=r.toNat >>> 8;rw[Nat.shiftRight_eq_div_pow];omega
structure zrz (w:World)(bs:List UInt8)(r0:UInt32)(r i:Value)(wr:World):Prop where
 st:wr=w∧∃ k:Nat,k≤bs.length∧i = .int .i64 k∧r=zfw ((bs.take k).foldl zhv r0)
structure zry (w:World)(y:UInt32)(r i:Value)(wr:World):Prop where
 st:wr=w∧∃ m:Nat,m≤8∧i = .int .i64 m∧r=zfw (ziI m y)
theorem zoQ (v:Value)(bs:List UInt8)(r0:UInt32)(w:World)(hb:zd3 w v bs)(hl:bs.length≤4611686018427387904):
  Calls prog 158 #[.int .u32 (r0.toNat:Int),v] w fun e w'=>e = .returned (zfw (bs.foldl zhv r0))∧w=w':=by
 obtain⟨ao,cap,rfl,hcell⟩:=hb;have HC:=zh hcell;clear hcell;have hr0:=r0.toNat_lt;go_enter func158,ntmps158;go_wp2
 go_loopw [0,5,6,7] (fun r i _ _ wr=>zrz w bs r0 r i wr) (fun _ i _ _ _=>bs.length - (intOf i).toNat)
 case atStart=>exact⟨rfl,0,Nat.zero_le _,rfl,rfl⟩
 case round =>
  obtain⟨rfl,k,hk,rfl,rfl⟩:=hrel.st;clear hrel;have hrl:=((bs.take k).foldl zhv r0).toNat_lt
  by_cases hlt:k<bs.length
  ·have hltd:decide ((k:Int)<(bs.length:Int))=true:=decide_eq_true (by omega)
   have hk1:(k:Int)≤4611686018427387904:=by omega
   obtain⟨x,hx⟩:∃ x,bs[k]?=some x:=⟨_,List.getElem?_eq_getElem hlt⟩;obtain⟨b,off,rfl,hc⟩:=HC.out (by rintro rfl;simp at hlt);have cx:=hc k x hx;unfold zb4 at cx
   have hfold:(bs.take (k+1)).foldl zhv r0=zhv ((bs.take k).foldl zhv r0) x:=by rw[List.take_add_one,hx];simp[List.foldl_append]
   have HFO:=zh hfold;have hxl:=x.toNat_lt;unfold zfw;generalize (bs.take k).foldl zhv r0=r at hrl HFO ⊢
   have hx0:bits .xor .u32 (r.toNat:Int) (x.toNat:Int)=((r ^^^ UInt32.ofNat x.toNat).toNat:Int):=by
    rw[u32_xor_nat _ _ hrl (by omega),UInt32.toNat_xor,UInt32.toNat_ofNat_of_lt' (by show _<4294967296;omega)]
   have HB:=zh (zoK r x);generalize r ^^^ UInt32.ofNat x.toNat=y at hx0 HB;have hy:=y.toNat_lt
   have hxm:IntKind.u32.wrap (x.toNat:Int)=(x.toNat:Int):=by
    unfold IntKind.wrap;simp[IntKind.bits,IntKind.signed];omega
   clear hc hfold hx;go_upto_region 6 with (fail)
   go_loopw [0,6,7] (fun rv i2 _ w'=>zry wr y rv i2 w') (fun _ i2 _ _=>8 - (intOf i2).toNat)
   case atStart=>exact⟨rfl,0,by omega,rfl,by rfl⟩
   case round =>
    obtain⟨rfl,m,hm,rfl,rfl⟩:=hrel.st;clear hrel
    by_cases hlt2:m<8
    ·have hltd2:decide ((m:Int)<8)=true:=decide_eq_true (by omega)
     have hm1:(m:Int)≤8:=by omega
     have HCS:=zh (show zmr (ziI m y)=ziI (m+1) y from rfl);unfold zfw;generalize ziI m y=r1 at HCS ⊢;have hr1:=r1.toNat_lt
     have hsh:((r1.toNat:Nat):Int) / (2:Int)=(((r1 >>> 1).toNat:Nat):Int):=by
      rw[UInt32.toNat_shiftRight];show _=((r1.toNat >>> 1:Nat):Int);rw[Nat.shiftRight_eq_div_pow];rfl
     have hand:bits .and .u32 (r1.toNat:Int) 1=(((r1 &&& 1).toNat:Nat):Int):=by
      rw[show (1:Int)=((1:Nat):Int) from rfl,u32_and_nat _ _ hr1 (by omega),UInt32.toNat_and];rfl
     rcases zqq r1 with h1|h1
     ·rw[h1] at hand
      have hand2:bits .and .u32 (r1.toNat:Int) 1=0:=hand;have HS:=zh (zmN h1);have HSH:=zh hsh;clear hand hsh h1;go_wp2
      go_roundw
      case rel=>exact⟨rfl,m+1,by omega,rfl,by rw[HSH.out,← HS.out,HCS.out];rfl⟩
      case measure=>simp only[intOf];omega
     ·rw[h1] at hand
      have hand2:bits .and .u32 (r1.toNat:Int) 1=1:=hand
      have hxr:bits .xor .u32 ((r1.toNat:Int) / 2) 2197175160=((zmr r1).toNat:Int):=by
       rw[zoH h1];refine (congrArg (fun z=>bits .xor .u32 z _) hsh).trans ?_;rw[show (2197175160:Int)=(((2197175160:UInt32).toNat:Nat):Int) from rfl,u32_xor_nat _ _ (UInt32.toNat_lt _) (UInt32.toNat_lt _),← UInt32.toNat_xor]
      have HXR:=zh hxr;clear hand hsh h1 hxr;go_wp2
      go_roundw
      case rel=>exact⟨rfl,m+1,by omega,rfl,by rw[HXR.out,HCS.out];rfl⟩
      case measure=>simp only[intOf];omega
    ·obtain rfl:m=8:=by omega
     have hltd2:decide (((8:Nat):Int)<8)=false:=by decide
     rw[HB.out];unfold zfw;go_wp2
     go_roundw
     case rel=>exact⟨rfl,k+1,by omega,rfl,by rw[HFO.out];rfl⟩
     case measure=>simp only[intOf];omega
  ·obtain rfl:k=bs.length:=by omega
   have hltd:decide ((bs.length:Int)<(bs.length:Int))=false:=decide_eq_false (by omega);rw[List.take_length] at hrl ⊢;unfold zfw;go_wp2;go_ret;exact⟨rfl,rfl⟩
theorem zk0 (v:Value)(bs:List UInt8)(w:World)(hb:zd3 w v bs)(hl:bs.length≤4611686018427387904):
  Calls prog 131 #[v] w fun e w'=>e = .returned (zfw (zfX bs))∧w=w':=by
 have hx:Calls prog 150 #[.int .u32 0,v] w fun e w'=>e = .returned (zfw (zfX bs))∧w=w':=by
  have hf:=zoQ v bs (~~~0) w hb hl;have e0:((~~~(0:UInt32)).toNat:Int)=4294967295:=rfl;rw[e0] at hf;have HE:=zh (show zfX bs = ~~~(bs.foldl zhv (~~~0)) from rfl);generalize bs.foldl zhv (~~~0)=r at hf HE;have hr:=r.toNat_lt;unfold zfw at hf ⊢;clear hb;go_enter func150,ntmps150;go_wp2_with (go_at_call 158;refine hf.mono ?_;rintro e w1 ⟨rfl,rfl⟩;clear hf);go_ret;exact⟨by rw[HE.out,zod];rfl,rfl⟩
 unfold zfw at hx ⊢;clear hb;go_enter func131,ntmps131;go_wp2_with (go_at_call 150;refine hx.mono ?_;rintro e w1 ⟨rfl,rfl⟩;clear hx);go_ret;exact⟨rfl,rfl⟩
structure zqX (w:World)(l:List UInt8)(n i:Value)(wr:World):Prop where
 st:wr=w∧∃ (k:Nat) (z:Int),k≤l.length∧z+1=(k:Int)∧i = .int .i64 z∧n = .int .i64 (zaN (l.drop k):Int)
theorem ze0 (l:List UInt8)(hl:l.length≤4)(w:World):
  Calls prog 128 #[.string (zae l)] w fun e w'=>e = .returned (.int .i64 (zaN l:Int))∧w=w':=by
 have hsz:(zae l).size=l.length:=zap l
 have HL:=zh (show ∀ s,s=zae l→∀ (k:Nat) (x:UInt8),l[k]?=some x→∀ h:k<s.size,s[k]'h=x from fun s hs k x hk h=>by
  subst hs
  exact (List.getElem?_eq_some_iff.1 hk).2)
 obtain⟨s,hs⟩:∃ s,zae l=s:=⟨_,rfl⟩;replace HL:=zh (HL.out s hs.symm);rw[hs] at hsz ⊢
 have hl4:(l.length:Int)≤4:=by omega
 clear hs;go_enter func128,ntmps128;go_wp2
 go_loopw [3,4] (fun n i wr=>zqX w l n i wr) (fun _ i _=>(intOf i+1).toNat)
 case atStart=>exact⟨rfl,l.length,(l.length:Int) - 1,Nat.le_refl _,by omega,by rfl,by rw[List.drop_length];rfl⟩
 case round =>
  obtain⟨rfl,k,z,hk,hz,rfl,rfl⟩:=hrel.st;clear hrel
  cases k with
  | zero =>
   obtain rfl:z = -1:=by omega
   rw[List.drop_zero];go_wp2;go_ret;exact⟨rfl,rfl⟩
  | succ m =>
   obtain rfl:z=(m:Int):=by omega
   have hks:m<s.size:=by omega
   have hgl:=zie (l.drop (m+1));rw[List.length_drop] at hgl
   have hsn:zaN (l.drop m)=(l[m]).toNat+256*zaN (l.drop (m+1)):=by
    rw[List.drop_eq_getElem_cons (by omega)];rfl
   have hb:=HL.out m _ (List.getElem?_eq_getElem (by omega)) hks;have hxl:=(l[m]).toNat_lt;have hg:zaN (l.drop (m+1))<16777216:=Nat.lt_of_lt_of_le hgl (Nat.le_trans (Nat.pow_le_pow_right (by decide) (show l.length - (m+1)≤3 by omega)) (by decide));generalize l[m]=x at hsn hb hxl;have HSN:=zh hsn;have HB:=zh hb;have hb0:=hb
   have hlm:(m:Int)≤4:=by omega
   have hmd:decide ((0:Int)≤(m:Int))=true:=decide_eq_true (by omega);clear hsn hb hgl;generalize zaN (l.drop (m+1))=g at hg HSN ⊢
   have hg2:(g:Int)<16777216:=by omega
   have hx2:((s[m]'hks).toNat:Int)<256:=by rw[hb0];omega
   have hx3:0≤((s[m]'hks).toNat:Int):=by omega
   have hw1:IntKind.i64.wrap ((g:Int)*256)=(g:Int)*256:=IntWalk.i64_in _ (by omega);have hw2:IntKind.i64.wrap (((s[m]'hks).toNat:Int))=((s[m]'hks).toNat:Int):=IntWalk.i64_in _ (by omega);have hw3:IntKind.i64.wrap ((g:Int)*256+((s[m]'hks).toNat:Int))=(g:Int)*256+((s[m]'hks).toNat:Int):=IntWalk.i64_in _ (by omega);clear hg hxl hl hk hz hg2 hx2 hx3 hb0;go_wp2;rw[HB.out];refine⟨⟨rfl,m,(m:Int) - 1,by omega,by omega,rfl,?_⟩,by simp only[intOf];omega⟩;rw[HSN.out];congr 1;omega
theorem zhI (n:Int)(w:World):Calls prog 149 #[n] w fun e w'=>e = .returned (.bool (decide (0≤n)&&decide (n<4294967296)))∧w=w':=by
 cases h1:decide (0≤n)
 ·go_enter func149,ntmps149
  go_wp2;go_ret;exact⟨rfl,rfl⟩
 ·cases h2:decide (n<4294967296)
  all_goals
   go_enter func149,ntmps149;go_wp2;go_ret;exact⟨rfl,rfl⟩
theorem zcR (a:zsj)(w:World):Calls prog 129 #[.agg (plA a)] w fun e w'=>e = .returned (.bool (zbk a))∧Below w.heap.size w w':=by
 have h65:decide (a.index<65536)=decide (a.index≤65535):=by rw[Bool.eq_iff_iff];simp only[decide_eq_true_eq];omega
 have he:zbk a=(decide (0≤a.disk)&&decide (a.disk<64)&&decide (1≤a.area)&&decide (a.area≤4)&&decide (0≤a.index)&&decide (a.index≤65535)):=by rw[← h65];rfl
 clear h65;cases h0:decide (0≤a.disk)
 ·rw[he,h0];clear he
  go_enter func129,ntmps129;go_wp2;go_ret;exact⟨rfl,(Below.refl _ _).alloc (Nat.le_refl _) _⟩
 cases h1:decide (a.disk<64)
 ·rw[he,h0,h1];clear he
  go_enter func129,ntmps129;go_wp2;go_ret;exact⟨rfl,(Below.refl _ _).alloc (Nat.le_refl _) _⟩
 cases h2:decide (1≤a.area)
 ·rw[he,h0,h1,h2];clear he
  go_enter func129,ntmps129;go_wp2;go_ret;exact⟨rfl,(Below.refl _ _).alloc (Nat.le_refl _) _⟩
 cases h3:decide (a.area≤4)
 ·rw[he,h0,h1,h2,h3];clear he
  go_enter func129,ntmps129;go_wp2;go_ret;exact⟨rfl,(Below.refl _ _).alloc (Nat.le_refl _) _⟩
 cases h4:decide (0≤a.index)
 ·rw[he,h0,h1,h2,h3,h4];clear he
  go_enter func129,ntmps129;go_wp2;go_ret;exact⟨rfl,(Below.refl _ _).alloc (Nat.le_refl _) _⟩
 cases h5:decide (a.index≤65535)
 ·rw[he,h0,h1,h2,h3,h4,h5];clear he
  go_enter func129,ntmps129;go_wp2;go_ret;exact⟨rfl,(Below.refl _ _).alloc (Nat.le_refl _) _⟩
 rw[he,h0,h1,h2,h3,h4,h5];clear he;go_enter func129,ntmps129;go_wp2;go_ret;exact⟨rfl,(Below.refl _ _).alloc (Nat.le_refl _) _⟩
theorem zoW (e c:Int):zcQ ⟨e,c⟩=((decide (0≤e)&&decide (e<4294967296))&&(decide (0≤c)&&decide (c<4294967296))&&decide ((⟨e,c⟩:GenM)≠g0)):=by
 rw[Bool.eq_iff_iff,zdO];simp only[Bool.and_eq_true,decide_eq_true_eq]
 constructor
 ·rintro⟨h1,h2,h3,h4,h5⟩;exact⟨⟨⟨h1,h3⟩,h2,h4⟩,h5⟩
 ·rintro⟨⟨⟨h1,h3⟩,h2,h4⟩,h5⟩;exact⟨h1,h2,h3,h4,h5⟩
theorem zg7 (g:GenM)(w:World):Calls prog 130 #[.agg (zcH g)] w fun e w'=>e = .returned (.bool (zcQ g))∧Below w.heap.size w w':=by
 obtain⟨e,c⟩:=g;have he:=zoW e c
 have hf1:=fun W=>zhI e W
 have hf2:=fun W=>zhI c W
 generalize (decide (0≤e)&&decide (e<4294967296))=be at he hf1;generalize (decide (0≤c)&&decide (c<4294967296))=bc at he hf2;have HE:=zh he;clear he;cases be
 ·cases bc
  all_goals
   have HE0:=zh (show Ending.returned (Value.bool false)=Ending.returned (Value.bool (zcQ ⟨e,c⟩)) from by rw[HE.out];rfl);go_enter func130,ntmps130;go_upto_region 2 with (go_at_call 149;refine (hf1 _).mono ?_;rintro e w1 ⟨rfl,rfl⟩)
   go_wp2_with (go_at_call 149;refine (hf2 _).mono ?_;rintro e w1 ⟨rfl,rfl⟩);go_ret;exact⟨HE0.out,(Below.refl _ _).alloc (Nat.le_refl _) _⟩
 ·cases bc
  ·have HE0:=zh (show Ending.returned (Value.bool false)=Ending.returned (Value.bool (zcQ ⟨e,c⟩)) from by rw[HE.out];rfl)
   go_enter func130,ntmps130;go_upto_region 2 with (go_at_call 149;refine (hf1 _).mono ?_;rintro e w1 ⟨rfl,rfl⟩)
   go_wp2_with (go_at_call 149;refine (hf2 _).mono ?_;rintro e w1 ⟨rfl,rfl⟩);go_ret;exact⟨HE0.out,(Below.refl _ _).alloc (Nat.le_refl _) _⟩
  ·by_cases e0:e=0
   ·subst e0
    by_cases c0:c=0
    ·subst c0
     have hn:zcQ ⟨0,0⟩=false:=by decide
     rw[hn];go_enter func130,ntmps130;go_upto_region 2 with (go_at_call 149;refine (hf1 _).mono ?_;rintro e w1 ⟨rfl,rfl⟩)
     go_wp2_with (go_at_call 149;refine (hf2 _).mono ?_;rintro e w1 ⟨rfl,rfl⟩);go_ret;exact⟨rfl,(Below.refl _ _).alloc (Nat.le_refl _) _⟩
    ·have cb:(c==0)=false:=by simp[c0]
     replace HE:=zh (HE.out.trans (show (true&&true&&decide ((⟨0,c⟩:GenM)≠g0))=true by simp[g0,c0]));have HE0:=zh (show Ending.returned (Value.bool true)=Ending.returned (Value.bool (zcQ ⟨0,c⟩)) from by rw[HE.out]);clear c0;go_enter func130,ntmps130;go_upto_region 2 with (go_at_call 149;refine (hf1 _).mono ?_;rintro e w1 ⟨rfl,rfl⟩)
     go_wp2_with (go_at_call 149;refine (hf2 _).mono ?_;rintro e w1 ⟨rfl,rfl⟩);go_ret;exact⟨HE0.out,(Below.refl _ _).alloc (Nat.le_refl _) _⟩
   ·have eb:(e==0)=false:=by simp[e0]
    replace HE:=zh (HE.out.trans (show (true&&true&&decide ((⟨e,c⟩:GenM)≠g0))=true by simp[g0,e0]));have HE0:=zh (show Ending.returned (Value.bool true)=Ending.returned (Value.bool (zcQ ⟨e,c⟩)) from by rw[HE.out]);clear e0;go_enter func130,ntmps130;go_upto_region 2 with (go_at_call 149;refine (hf1 _).mono ?_;rintro e w1 ⟨rfl,rfl⟩)
    go_wp2_with (go_at_call 149;refine (hf2 _).mono ?_;rintro e w1 ⟨rfl,rfl⟩);go_ret;exact⟨HE0.out,(Below.refl _ _).alloc (Nat.le_refl _) _⟩
end Go.Proofs.YtmcclbiaoeilkaaGreat
end
