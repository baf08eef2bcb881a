import Derived.OwnWalk
import Derived.Test.YtmcclbiaoeilkaaGreatQ17
set_option maxHeartbeats 4000000
set_option maxRecDepth 20000
/- Part 18 of a proof;the last part says what is proved. -/
namespace Go.Proofs.YtmcclbiaoeilkaaGreat
open Go.Proofs.Tryz Go.RowKit Go.Sl Go.ChangeMaps
theorem zku {a:Nat}(h:a<18446744073709551616):(BitVec.ofInt 64 (a:Int)).toNat=a:=by
 rw[BitVec.ofInt_natCast,BitVec.toNat_ofNat];exact Nat.mod_eq_of_lt (by omega)
theorem zgz {a:Nat}(h:a<18446744073709551616):IntKind.u64.wrap (a:Int)=(a:Int):=by
 exact IntWalk.u64_in _ (by omega)
theorem zoj (t:TypeId)(a:Nat)(h:a*256<18446744073709551616):binOp .shl t (.int .u64 (a:Int)) (.int .u64 8)=pure (.int .u64 ((a*256:Nat):Int)):=by
 rw[binOp_shl,shift_shl_any _ _ _ _ (by omega)];rw[show (a:Int)*2 ^ min (8:Int).toNat IntKind.u64.bits=((a*256:Nat):Int) by rw[show min (8:Int).toNat IntKind.u64.bits=8 from rfl];omega,zgz h]
theorem zri {a b:Nat}(h:b<256):a*256 ||| b=a*256+b:=by
 have:=Nat.shiftLeft_add_eq_or_of_lt (i:=8) (b:=b) (by omega) a;rw[Nat.shiftLeft_eq] at this;exact this.symm
theorem zp2 (t:TypeId)(a b:Nat)(hb:b<256)(h:a*256<18446744073709551616):binOp .or t (.int .u64 ((a*256:Nat):Int)) (.int .u64 (b:Int))=pure (.int .u64 ((a*256+b:Nat):Int)):=by
 rw[binOp_or];show (pure (Value.int .u64 (IntKind.u64.wrap ((BitVec.ofInt 64 ((a*256:Nat):Int) ||| BitVec.ofInt 64 (b:Int)).toNat:Int))):Sem Value)=_
 have h2:a*256+b<18446744073709551616:=by omega
 have h3:b<18446744073709551616:=by omega
 rw[BitVec.toNat_or,zku h,zku h3,zri (a:=a) (b:=b) hb,zgz h2]
theorem zoi (a:Nat)(h:a<18446744073709551616):bits .xor .u64 IntKind.u64.max (a:Int)=((18446744073709551615 - a:Nat):Int):=by
 show IntKind.u64.wrap ((BitVec.ofInt 64 ((18446744073709551615:Nat):Int) ^^^ BitVec.ofInt 64 (a:Int)).toNat:Int)=_
 have e:BitVec.ofInt 64 ((18446744073709551615:Nat):Int) ^^^ BitVec.ofInt 64 (a:Int) = ~~~ (BitVec.ofInt 64 (a:Int)):=by
  have:BitVec.ofInt 64 ((18446744073709551615:Nat):Int)=BitVec.allOnes 64:=by decide
  rw[this,BitVec.allOnes_xor]
 rw[e,BitVec.toNat_not,zku h,show (2:Nat) ^ 64 - 1=18446744073709551615 from by decide,zgz (show 18446744073709551615 - a<18446744073709551616 from by omega)]
theorem zoh (x:Nat)(h:x<256)(w:World):(convert 5 175 (.int .u8 (x:Int))).run prog w = .ok (.int .u64 (x:Int)) w:=by
 have h1:prog.underlying 175=some (.int .u64):=underlying175;have h2:prog.underlying 5=some (.int .u8):=underlying5;have h3:IntKind.u64.wrap (x:Int)=(x:Int):=zgz (by omega);simp[convert,run_underlying h1,run_underlying h2,h3,go_sem]
theorem zp0 (M:Nat)(h:M<9223372036854775808):wrap64 ((18446744073709551615 - M:Nat):Int) = -1 - (M:Int):=by unfold wrap64;omega
def zqR (b:List UInt8):Int:=match zey b with
 | some (x,_)=>x
 | none=>0
def zqQ (b:List UInt8):Int:=match zey b with
 | some (_,u)=>(u:Int)
 | none=>0
theorem zcb {b:List UInt8}(h:zey b=none):zqR b=0∧zqQ b=0∧(zey b).isSome=false:=by unfold zqR zqQ;rw[h];exact⟨rfl,rfl,rfl⟩
theorem zdP {b:List UInt8}{x:Int}{u:Nat}(h:zey b=some (x,u)):zqR b=x∧zqQ b=(u:Int)∧(zey b).isSome=true:=by unfold zqR zqQ;rw[h];exact⟨rfl,rfl,rfl⟩
theorem zfF (f:Bool)(c:UInt8):bits .xor .u8 (c.toNat:Int) (if f then 255 else 0)=((zaC f c).toNat:Int):=by
 have hc:=c.toNat_lt;cases f
 ·exact zrs _ hc
 ·show bits .xor .u8 (c.toNat:Int) ((255:Nat):Int)=(((c ^^^ 255).toNat:Nat):Int)
  rw[u8_xor_nat _ _ hc (by omega),UInt8.toNat_xor];rfl
theorem zqe (x:UInt8):128≤(zaC (decide (x<128)) x).toNat:=by
 have key:∀ n:Nat,n<256→128≤(zaC (decide (UInt8.ofNat n<128)) (UInt8.ofNat n)).toNat:=by decide +kernel
 have h:=key x.toNat x.toNat_lt
 rwa [UInt8.ofNat_toNat] at h
theorem zm3 (x:UInt8)(r:List UInt8)(f:Bool)(hf:decide (x<128)=f)(k:Nat)(hk:(zaC f x).toNat=128+k):zey (x::r)=
  if 8<k then none else if r.length<k then none else if 0<k∧zaC f (r.getD 0 0)=0 then none
  else if 9223372036854775808≤zbv ((r.take k).map (zaC f)) then none
  else some (if f=true then -1 - (zbv ((r.take k).map (zaC f)):Int) else (zbv ((r.take k).map (zaC f)):Int),k+1):=by
 unfold zey
 have hk2:(zaC f x).toNat - 128=k:=by omega
 simp only[hf,hk2]
 have:(if x<128 then -1 - (zbv ((r.take k).map (zaC f)):Int) else (zbv ((r.take k).map (zaC f)):Int))=if f=true then -1 - (zbv ((r.take k).map (zaC f)):Int) else (zbv ((r.take k).map (zaC f)):Int):=by
  by_cases h:x<128
  ·rw[if_pos h,if_pos (by rw[← hf];exact decide_eq_true h)]
  ·rw[if_neg h,if_neg (by rw[← hf,decide_eq_false h];decide)]
 rw[this]
def BytesC (w:World)(v:Value)(l:List UInt8):Prop:=∃ ao cap,v = .slice ao l.length cap∧l.length≤cap∧(l≠[]→∃ b off,ao=some ⟨b,off,none⟩∧∀ j x,l[j]?=some x→w.cell? ⟨b,off+j,none⟩=some (zb4 x))
structure GiS (w:World)(l:List UInt8)(mv iv:Value)(wr:World):Prop where
 st:∃ i:Nat,i≤l.length∧iv = .int .i64 (i:Int)∧mv = .int .u64 (zbv (l.take i):Int)∧wr=w
theorem zjE (v:Value)(b:List UInt8)(w:World)(hb:BytesC w v b)(hl:b.length≤1000):
  Calls prog 124 #[v] w fun e w'=>∃ k:Int,(k=0↔(zey b).isSome=true)∧e = .returned (.tuple #[.int .i64 (zqR b),.int .i64 (zqQ b),k])∧w=w':=by
 obtain⟨ao,cap,rfl,hcap,hc⟩:=hb
 cases b with
 | nil =>
  obtain⟨e1,e2,e3⟩:=zcb (b:=[]) rfl;rw[e1,e2,e3];clear hc hcap e1 e2 e3;go_enter func124,ntmps124;go_wp2
  go_ret3
  exact⟨5,by decide,rfl,rfl⟩
 | cons x r =>
  obtain⟨B,off,rfl,hcell⟩:=hc (by simp);clear hc;have hc:=hcell;clear hcell;have c0:=hc 0 x rfl;unfold zb4 at c0;rw[Nat.add_zero] at c0;obtain⟨f,hf⟩:∃ f,decide (x<128)=f:=⟨_,rfl⟩;obtain⟨k,hk⟩:∃ k,(zaC f x).toNat=128+k:=⟨(zaC f x).toNat - 128,by have:=zqe x;rw[hf] at this;omega⟩;have hg:=zm3 x r f hf k hk
  have hk127:k≤127:=by have:=(zaC f x).toNat_lt;omega
  have hfx:=zfF f x;rw[hk] at hfx
  have hfd:decide ((x.toNat:Int)<128)=f:=by
   rw[← hf]
   by_cases h:x<128
   ·rw[decide_eq_true h]
    rw[UInt8.lt_iff_toNat_lt] at h;exact decide_eq_true (by change x.toNat<128 at h;omega)
   ·rw[decide_eq_false h]
    rw[UInt8.lt_iff_toNat_lt] at h;exact decide_eq_false (by change ¬ x.toNat<128 at h;omega)
  have hfd2:decide (x.toNat<128)=f:=by rw[← hfd];congr 1;simp;omega
  have hxl:=x.toNat_lt;obtain⟨n,hn⟩:∃ n,r.length=n:=⟨_,rfl⟩
  have hlen:(x::r).length=n+1:=by rw[List.length_cons,hn]
  have hlen2:=hlen;rw[hlen] at hl ⊢;have HC:=(zd hc (And.intro hn (And.intro hf (show ∀ i:Nat,(x::r)[i+1]?=r[i]? from fun i=>rfl))));have hn':=hn;generalize x.toNat=xx at c0 hfx hfd hfd2 hxl;generalize (x::r)=b at hg hc HC hlen2 hcap ⊢;clear hc hn hf hk hlen;rw[hn'] at hg;obtain⟨X,hX⟩:∃ X,zqR b=X:=⟨_,rfl⟩;obtain⟨U,hU⟩:∃ U,zqQ b=U:=⟨_,rfl⟩;obtain⟨I,hI⟩:∃ I,(zey b).isSome=I:=⟨_,rfl⟩;rw[hX,hU,hI];have HX:=(zd hX (And.intro hU hI));clear hX hU hI;obtain⟨y,hy⟩:∃ y:Int,((128+k:Nat):Int)=y:=⟨_,rfl⟩;rw[hy] at hfx
  rw[hlen2] at hcap
  have hyk:y - 128=(k:Int):=by omega
  have HYK:=(zd hy hyk)
  have hy1:128≤y:=by omega
  have hy2:y≤255:=by omega
  have HK:=zh hk127;have HCAP:=zh hcap;clear hy hyk hk127 hcap;go_enter func124,ntmps124;cases f
  ·simp only[Bool.false_eq_true,if_false] at hfx
   go_upto_region 7 with (fail);rw[HYK.out.2];clear hfx hfd hfd2 hy1 hy2 c0
   by_cases h8:8<k
   ·rw[if_pos h8] at hg
    obtain⟨e1,e2,e3⟩:=zcb hg;obtain⟨rfl,rfl,rfl⟩:X=0∧U=0∧I=false:=⟨HX.out.1.symm.trans e1,HX.out.2.1.symm.trans e2,HX.out.2.2.symm.trans e3⟩;have hd:decide ((8:Int)<(k:Int))=true:=decide_eq_true (by omega);have hd2:decide (8<k)=true:=decide_eq_true h8;clear hg e1 e2 e3;go_wp2
    go_ret3
    exact⟨6,by decide,rfl,rfl⟩
   rw[if_neg h8] at hg;have hd:decide ((8:Int)<(k:Int))=false:=decide_eq_false (by omega);have hd2:decide (8<k)=false:=decide_eq_false h8
   have hk8:(k:Int)≤8:=by omega
   by_cases hn:n<k
   ·rw[if_pos hn] at hg
    obtain⟨e1,e2,e3⟩:=zcb hg;obtain⟨rfl,rfl,rfl⟩:X=0∧U=0∧I=false:=⟨HX.out.1.symm.trans e1,HX.out.2.1.symm.trans e2,HX.out.2.2.symm.trans e3⟩;have he:decide ((n:Int)+1≤(k:Int))=true:=decide_eq_true (by omega);have he2:decide (n+1≤k)=true:=decide_eq_true (by omega);clear hg e1 e2 e3;go_wp2
    go_ret3
    exact⟨5,by decide,rfl,rfl⟩
   rw[if_neg hn] at hg;have he:decide ((n:Int)+1≤(k:Int))=false:=decide_eq_false (by omega);have he2:decide (n+1≤k)=false:=decide_eq_false (by omega);rcases Nat.eq_zero_or_pos k with rfl|hk
   ·have hc1:=HCAP.out
    have hcc:(1:Int)≤(cap:Int):=by omega
    have hcc2:1≤cap:=by omega
    rw[if_neg (fun h=>absurd h.1 (by omega))] at hg;rw[List.take_zero] at hg;have hg2:zey b=some (0,1):=hg;obtain⟨e1,e2,e3⟩:=zdP hg2;obtain⟨rfl,rfl,rfl⟩:X=_∧U=_∧I=true:=⟨HX.out.1.symm.trans e1,HX.out.2.1.symm.trans e2,HX.out.2.2.symm.trans e3⟩;clear hg hg2 e1 e2 e3 h8 hn hd hd2 he he2;go_upto_region 15 with (fail)
    all_goals
     go_loopw [7,48] (fun mv iv wr=>GiS w [] mv iv wr) (fun _ iv _=>(intOf iv).toNat)
     case atStart=>exact⟨⟨0,Nat.zero_le _,rfl,rfl,rfl⟩⟩
     case round =>
      obtain⟨i,hi,rfl,rfl,rfl⟩:=hrel.st;clear hrel
      obtain rfl:i=0:=by simpa using hi
      rw[show zbv (([]:List UInt8).take 0)=0 from rfl];go_wp2
      go_ret3
      exact⟨rfl,rfl⟩
   ·have hc1:=HCAP.out
    have hk1:(1:Int)≤(k:Int):=by omega
    have hcc:(k:Int)+1≤(cap:Int):=by omega
    have hpd:decide ((0:Int)<(k:Int))=true:=decide_eq_true (by omega);have hpd2:decide (0<k)=true:=decide_eq_true hk
    have hn1:(1:Int)<(n:Int)+1:=by omega
    obtain⟨d,hd0⟩:∃ d,r[0]?=some d:=⟨_,List.getElem?_eq_getElem (by have:=HC.out.2.1;omega)⟩;have c1:=HC.out.1 1 d ((HC.out.2.2.2 0).trans hd0);unfold zb4 at c1;have hfd:=zfF false d;simp only[Bool.false_eq_true,if_false] at hfd;rw[show r.getD 0 0=d by rw[List.getD_eq_getElem?_getD,hd0];rfl] at hg;have HD0:=zh hd0;clear hd0
    by_cases hz:zaC false d=0
    ·rw[if_pos ⟨hk,hz⟩] at hg
     obtain⟨e1,e2,e3⟩:=zcb hg;obtain⟨rfl,rfl,rfl⟩:X=0∧U=0∧I=false:=⟨HX.out.1.symm.trans e1,HX.out.2.1.symm.trans e2,HX.out.2.2.symm.trans e3⟩;rw[hz] at hfd;have hfd':bits .xor .u8 (d.toNat:Int) 0=0:=hfd;clear hg e1 e2 e3 hfd hz;generalize d.toNat=dd at c1 hfd';go_wp2
     go_ret3
     exact⟨6,by decide,rfl,rfl⟩
    ·rw[if_neg (fun h=>hz h.2)] at hg
     have hz2:(((zaC false d).toNat:Int)==0)=false:=by
      simp only[beq_eq_false_iff_ne,ne_eq];intro h;exact hz (UInt8.toNat_inj.1 (by rw[show (0:UInt8).toNat=0 from rfl];omega))
     generalize (zaC false d).toNat=fd at hfd hz2;generalize d.toNat=dd at c1 hfd;clear hz;go_upto_region 15 with (fail)
     have HL:=zh (show ((r.take k).map (zaC false)).length=k by rw[List.length_map,List.length_take];have:=HC.out.2.1;omega)
     have HI:=zh (show ∀ i,i<k→∃ c,r[i]?=some c∧w.cell? ⟨B,off+1+i,none⟩=some (.int .u8 (c.toNat:Int))∧((r.take k).map (zaC false))[i]?=some (zaC false c) from fun i hi=>by
      obtain⟨c,hci⟩:∃ c,r[i]?=some c:=⟨_,List.getElem?_eq_getElem (by have:=HC.out.2.1;omega)⟩;refine⟨c,hci,?_,?_⟩
      ·have:=HC.out.1 (i+1) c ((HC.out.2.2.2 i).trans hci)
       rw[show off+1+i=off+(i+1) by omega];exact this
      ·rw[List.getElem?_map,List.getElem?_take,if_pos hi,hci];rfl)
     obtain⟨L,hL⟩:∃ L,(r.take k).map (zaC false)=L:=⟨_,rfl⟩;rw[hL] at hg HL HI;clear hL hfd hz2 hpd hpd2 hd hd2 he he2 h8 hn hn1 c1
     go_loopw [7,48] (fun mv iv wr=>GiS w L mv iv wr) (fun _ iv _=>k - (intOf iv).toNat)
     case atStart=>exact⟨⟨0,Nat.zero_le _,rfl,rfl,rfl⟩⟩
     case round =>
      obtain⟨i,hi,rfl,rfl,rfl⟩:=hrel.st;clear hrel;rw[HL.out] at hi;have hbl:=zf0 (L.take i)
      have hti:(L.take i).length=i:=by rw[List.length_take,HL.out];omega
      rw[hti] at hbl
      by_cases hik:i<k
      ·have hid:decide ((i:Int)<(k:Int))=true:=decide_eq_true (by omega)
       have hid2:decide (i<k)=true:=decide_eq_true hik
       have hiki:(i:Int)<(k:Int):=by omega
       have hi0:(0:Int)≤(i:Int):=by omega
       have hwi:IntKind.i64.wrap ((i:Int)+1)=(i:Int)+1:=IntWalk.i64_in _ (by omega);obtain⟨c,-,ci,hli⟩:=HI.out i hik;have hfc:=zfF false c;simp only[Bool.false_eq_true,if_false] at hfc;have HST:=zh (show zbv (L.take (i+1))=zbv (L.take i)*256+(zaC false c).toNat by rw[List.take_add_one,hli];exact zgG _ _);have hfl:=(zaC false c).toNat_lt
       have h256:zbv (L.take i)*256<18446744073709551616:=by
        have h1:256 ^ i≤256 ^ 7:=Nat.pow_le_pow_right (by omega) (by omega);omega
       generalize (zaC false c).toNat=fc at hfc HST hfl;generalize c.toNat=cc at ci hfc;generalize zbv (L.take i)=M at h256 HST hbl ⊢;clear hli hbl hti;go_upto_region 17 with (fail)
       refine wp_region_lit ?_;obtain⟨m2,hm2⟩:∃ m2,M*256=m2:=⟨_,rfl⟩;obtain⟨m3,hm3⟩:∃ m3,m2+fc=m3:=⟨_,rfl⟩;(apply zag rfl);(go_simp;first|rfl|exact⟨rfl,rfl⟩);simp only[Act.put,zq];refine zag (v:=.int .u64 (m2:Int)) rfl (zau (vx:=.int .u64 (M:Int)) (vy:=.int .u64 8) rfl rfl rfl rfl (by rw[zoj _ M h256,hm2];rfl)) ?_;simp only[Act.put,zq];(apply zag rfl);(go_simp;first|rfl|exact⟨rfl,rfl⟩);simp only[Act.put,zq];(apply zag rfl);(go_simp;first|rfl|exact⟨rfl,rfl⟩);simp only[Act.put,zq];(apply zag rfl);(go_simp;first|rfl|exact⟨rfl,rfl⟩);simp only[Act.put,zq]
       refine zag (v:=.int .u64 (fc:Int)) rfl (zaD rfl rfl (zoh fc hfl _)) ?_;simp only[Act.put,zq];refine zag (v:=.int .u64 (m3:Int)) rfl (zau (vx:=.int .u64 (m2:Int)) (vy:=.int .u64 (fc:Int)) rfl rfl rfl rfl (by rw[← hm2,zp2 _ M fc hfl h256,hm2,hm3];rfl)) ?_;simp only[Act.put,zq];have HM3:=zh (show zbv (L.take (i+1))=m3 by rw[HST.out,hm2,hm3]);clear hm2 hm3 h256 hfc ci HST;go_wp2
       go_roundw
       case rel=>exact⟨⟨i+1,by rw[HL.out];exact hik,by push_cast;rfl,by rw[HM3.out],rfl⟩⟩
       case measure=>simp only[intOf];omega
      ·obtain rfl:i=k:=by omega
       have hid:decide ((i:Int)<(i:Int))=false:=decide_eq_false (by omega);have hid2:decide (i<i)=false:=decide_eq_false (by omega);have hLk:L.take i=L:=List.take_of_length_le (by rw[HL.out];exact Nat.le_refl _);rw[hLk] at hbl ⊢;clear hLk hti hik;have hM:zbv L<18446744073709551616:=Nat.lt_of_lt_of_le hbl (show 256 ^ i≤256 ^ 8 from Nat.pow_le_pow_right (by omega) (by omega));clear hbl;generalize zbv L=M at hg hM ⊢
       by_cases h63:9223372036854775808≤M
       ·rw[if_pos h63] at hg
        obtain⟨e1,e2,e3⟩:=zcb hg;obtain⟨rfl,rfl,rfl⟩:X=0∧U=0∧I=false:=⟨HX.out.1.symm.trans e1,HX.out.2.1.symm.trans e2,HX.out.2.2.symm.trans e3⟩
        have hq:M / 9223372036854775808=1:=by omega
        clear hg e1 e2 e3;go_wp2
        go_ret3
        exact⟨6,by decide,rfl,rfl⟩
       ·rw[if_neg h63] at hg
        obtain⟨e1,e2,e3⟩:=zdP hg;obtain⟨rfl,rfl,rfl⟩:X=_∧U=_∧I=true:=⟨HX.out.1.symm.trans e1,HX.out.2.1.symm.trans e2,HX.out.2.2.symm.trans e3⟩
        have hq:M / 9223372036854775808=0:=by omega
        clear hg e1 e2 e3;go_wp2
        go_ret3
        exact⟨rfl,rfl⟩
  ·simp only[if_true] at hfx
   go_upto_region 7 with (fail);rw[HYK.out.2];clear hfx hfd hfd2 hy1 hy2 c0
   by_cases h8:8<k
   ·rw[if_pos h8] at hg
    obtain⟨e1,e2,e3⟩:=zcb hg;obtain⟨rfl,rfl,rfl⟩:X=0∧U=0∧I=false:=⟨HX.out.1.symm.trans e1,HX.out.2.1.symm.trans e2,HX.out.2.2.symm.trans e3⟩;have hd:decide ((8:Int)<(k:Int))=true:=decide_eq_true (by omega);have hd2:decide (8<k)=true:=decide_eq_true h8;clear hg e1 e2 e3;go_wp2
    go_ret3
    exact⟨6,by decide,rfl,rfl⟩
   rw[if_neg h8] at hg;have hd:decide ((8:Int)<(k:Int))=false:=decide_eq_false (by omega);have hd2:decide (8<k)=false:=decide_eq_false h8
   have hk8:(k:Int)≤8:=by omega
   by_cases hn:n<k
   ·rw[if_pos hn] at hg
    obtain⟨e1,e2,e3⟩:=zcb hg;obtain⟨rfl,rfl,rfl⟩:X=0∧U=0∧I=false:=⟨HX.out.1.symm.trans e1,HX.out.2.1.symm.trans e2,HX.out.2.2.symm.trans e3⟩;have he:decide ((n:Int)+1≤(k:Int))=true:=decide_eq_true (by omega);have he2:decide (n+1≤k)=true:=decide_eq_true (by omega);clear hg e1 e2 e3;go_wp2
    go_ret3
    exact⟨5,by decide,rfl,rfl⟩
   rw[if_neg hn] at hg;have he:decide ((n:Int)+1≤(k:Int))=false:=decide_eq_false (by omega);have he2:decide (n+1≤k)=false:=decide_eq_false (by omega);rcases Nat.eq_zero_or_pos k with rfl|hk
   ·have hc1:=HCAP.out
    have hcc:(1:Int)≤(cap:Int):=by omega
    have hcc2:1≤cap:=by omega
    rw[if_neg (fun h=>absurd h.1 (by omega))] at hg;rw[List.take_zero] at hg;have hg2:zey b=some (-1,1):=hg;obtain⟨e1,e2,e3⟩:=zdP hg2;obtain⟨rfl,rfl,rfl⟩:X=_∧U=_∧I=true:=⟨HX.out.1.symm.trans e1,HX.out.2.1.symm.trans e2,HX.out.2.2.symm.trans e3⟩;clear hg hg2 e1 e2 e3 h8 hn hd hd2 he he2;go_upto_region 15 with (fail)
    all_goals
     go_loopw [7,48] (fun mv iv wr=>GiS w [] mv iv wr) (fun _ iv _=>(intOf iv).toNat)
     case atStart=>exact⟨⟨0,Nat.zero_le _,rfl,rfl,rfl⟩⟩
     case round =>
      obtain⟨i,hi,rfl,rfl,rfl⟩:=hrel.st;clear hrel
      obtain rfl:i=0:=by simpa using hi
      rw[show zbv (([]:List UInt8).take 0)=0 from rfl];have hnot:=zoi 0 (by omega);go_wp2
      go_ret3
      refine⟨?_,rfl⟩;show Ending.returned (.tuple #[.int .i64 (wrap64 ((18446744073709551615 - 0:Nat):Int)),.int .i64 1,.int .i64 0])=_;rw[zp0 0 (by omega)]
      rfl
   ·have hc1:=HCAP.out
    have hk1:(1:Int)≤(k:Int):=by omega
    have hcc:(k:Int)+1≤(cap:Int):=by omega
    have hpd:decide ((0:Int)<(k:Int))=true:=decide_eq_true (by omega);have hpd2:decide (0<k)=true:=decide_eq_true hk
    have hn1:(1:Int)<(n:Int)+1:=by omega
    obtain⟨d,hd0⟩:∃ d,r[0]?=some d:=⟨_,List.getElem?_eq_getElem (by have:=HC.out.2.1;omega)⟩;have c1:=HC.out.1 1 d ((HC.out.2.2.2 0).trans hd0);unfold zb4 at c1;have hfd:=zfF true d;simp only[if_true] at hfd;rw[show r.getD 0 0=d by rw[List.getD_eq_getElem?_getD,hd0];rfl] at hg;have HD0:=zh hd0;clear hd0
    by_cases hz:zaC true d=0
    ·rw[if_pos ⟨hk,hz⟩] at hg
     obtain⟨e1,e2,e3⟩:=zcb hg;obtain⟨rfl,rfl,rfl⟩:X=0∧U=0∧I=false:=⟨HX.out.1.symm.trans e1,HX.out.2.1.symm.trans e2,HX.out.2.2.symm.trans e3⟩;rw[hz] at hfd;have hfd':bits .xor .u8 (d.toNat:Int) 255=0:=hfd;clear hg e1 e2 e3 hfd hz;generalize d.toNat=dd at c1 hfd';go_wp2
     go_ret3
     exact⟨6,by decide,rfl,rfl⟩
    ·rw[if_neg (fun h=>hz h.2)] at hg
     have hz2:(((zaC true d).toNat:Int)==0)=false:=by
      simp only[beq_eq_false_iff_ne,ne_eq];intro h;exact hz (UInt8.toNat_inj.1 (by rw[show (0:UInt8).toNat=0 from rfl];omega))
     generalize (zaC true d).toNat=fd at hfd hz2;generalize d.toNat=dd at c1 hfd;clear hz;go_upto_region 15 with (fail)
     have HL:=zh (show ((r.take k).map (zaC true)).length=k by rw[List.length_map,List.length_take];have:=HC.out.2.1;omega)
     have HI:=zh (show ∀ i,i<k→∃ c,r[i]?=some c∧w.cell? ⟨B,off+1+i,none⟩=some (.int .u8 (c.toNat:Int))∧((r.take k).map (zaC true))[i]?=some (zaC true c) from fun i hi=>by
      obtain⟨c,hci⟩:∃ c,r[i]?=some c:=⟨_,List.getElem?_eq_getElem (by have:=HC.out.2.1;omega)⟩;refine⟨c,hci,?_,?_⟩
      ·have:=HC.out.1 (i+1) c ((HC.out.2.2.2 i).trans hci)
       rw[show off+1+i=off+(i+1) by omega];exact this
      ·rw[List.getElem?_map,List.getElem?_take,if_pos hi,hci];rfl)
     obtain⟨L,hL⟩:∃ L,(r.take k).map (zaC true)=L:=⟨_,rfl⟩;rw[hL] at hg HL HI;clear hL hfd hz2 hpd hpd2 hd hd2 he he2 h8 hn hn1 c1
     go_loopw [7,48] (fun mv iv wr=>GiS w L mv iv wr) (fun _ iv _=>k - (intOf iv).toNat)
     case atStart=>exact⟨⟨0,Nat.zero_le _,rfl,rfl,rfl⟩⟩
     case round =>
      obtain⟨i,hi,rfl,rfl,rfl⟩:=hrel.st;clear hrel;rw[HL.out] at hi;have hbl:=zf0 (L.take i)
      have hti:(L.take i).length=i:=by rw[List.length_take,HL.out];omega
      rw[hti] at hbl
      by_cases hik:i<k
      ·have hid:decide ((i:Int)<(k:Int))=true:=decide_eq_true (by omega)
       have hid2:decide (i<k)=true:=decide_eq_true hik
       have hiki:(i:Int)<(k:Int):=by omega
       have hi0:(0:Int)≤(i:Int):=by omega
       have hwi:IntKind.i64.wrap ((i:Int)+1)=(i:Int)+1:=IntWalk.i64_in _ (by omega);obtain⟨c,-,ci,hli⟩:=HI.out i hik;have hfc:=zfF true c;simp only[if_true] at hfc;have HST:=zh (show zbv (L.take (i+1))=zbv (L.take i)*256+(zaC true c).toNat by rw[List.take_add_one,hli];exact zgG _ _);have hfl:=(zaC true c).toNat_lt
       have h256:zbv (L.take i)*256<18446744073709551616:=by
        have h1:256 ^ i≤256 ^ 7:=Nat.pow_le_pow_right (by omega) (by omega);omega
       generalize (zaC true c).toNat=fc at hfc HST hfl;generalize c.toNat=cc at ci hfc;generalize zbv (L.take i)=M at h256 HST hbl ⊢;clear hli hbl hti;go_upto_region 17 with (fail)
       refine wp_region_lit ?_;obtain⟨m2,hm2⟩:∃ m2,M*256=m2:=⟨_,rfl⟩;obtain⟨m3,hm3⟩:∃ m3,m2+fc=m3:=⟨_,rfl⟩;(apply zag rfl);(go_simp;first|rfl|exact⟨rfl,rfl⟩);simp only[Act.put,zq];refine zag (v:=.int .u64 (m2:Int)) rfl (zau (vx:=.int .u64 (M:Int)) (vy:=.int .u64 8) rfl rfl rfl rfl (by rw[zoj _ M h256,hm2];rfl)) ?_;simp only[Act.put,zq];(apply zag rfl);(go_simp;first|rfl|exact⟨rfl,rfl⟩);simp only[Act.put,zq];(apply zag rfl);(go_simp;first|rfl|exact⟨rfl,rfl⟩);simp only[Act.put,zq];(apply zag rfl);(go_simp;first|rfl|exact⟨rfl,rfl⟩);simp only[Act.put,zq]
       refine zag (v:=.int .u64 (fc:Int)) rfl (zaD rfl rfl (zoh fc hfl _)) ?_;simp only[Act.put,zq];refine zag (v:=.int .u64 (m3:Int)) rfl (zau (vx:=.int .u64 (m2:Int)) (vy:=.int .u64 (fc:Int)) rfl rfl rfl rfl (by rw[← hm2,zp2 _ M fc hfl h256,hm2,hm3];rfl)) ?_;simp only[Act.put,zq];have HM3:=zh (show zbv (L.take (i+1))=m3 by rw[HST.out,hm2,hm3]);clear hm2 hm3 h256 hfc ci HST;go_wp2
       go_roundw
       case rel=>exact⟨⟨i+1,by rw[HL.out];exact hik,by push_cast;rfl,by rw[HM3.out],rfl⟩⟩
       case measure=>simp only[intOf];omega
      ·obtain rfl:i=k:=by omega
       have hid:decide ((i:Int)<(i:Int))=false:=decide_eq_false (by omega);have hid2:decide (i<i)=false:=decide_eq_false (by omega);have hLk:L.take i=L:=List.take_of_length_le (by rw[HL.out];exact Nat.le_refl _);rw[hLk] at hbl ⊢;clear hLk hti hik;have hM:zbv L<18446744073709551616:=Nat.lt_of_lt_of_le hbl (show 256 ^ i≤256 ^ 8 from Nat.pow_le_pow_right (by omega) (by omega));clear hbl;generalize zbv L=M at hg hM ⊢
       by_cases h63:9223372036854775808≤M
       ·rw[if_pos h63] at hg
        obtain⟨e1,e2,e3⟩:=zcb hg;obtain⟨rfl,rfl,rfl⟩:X=0∧U=0∧I=false:=⟨HX.out.1.symm.trans e1,HX.out.2.1.symm.trans e2,HX.out.2.2.symm.trans e3⟩
        have hq:M / 9223372036854775808=1:=by omega
        clear hg e1 e2 e3;go_wp2
        go_ret3
        exact⟨6,by decide,rfl,rfl⟩
       ·rw[if_neg h63] at hg
        obtain⟨e1,e2,e3⟩:=zdP hg;obtain⟨rfl,rfl,rfl⟩:X=_∧U=_∧I=true:=⟨HX.out.1.symm.trans e1,HX.out.2.1.symm.trans e2,HX.out.2.2.symm.trans e3⟩
        have hq:M / 9223372036854775808=0:=by omega
        have hnot:=zoi M hM;clear hg e1 e2 e3;go_wp2
        go_ret3
        refine⟨?_,rfl⟩;show Ending.returned (.tuple #[.int .i64 (wrap64 ((18446744073709551615 - M:Nat):Int)),.int .i64 ((i:Int)+1),.int .i64 0])=_;rw[zp0 M (by omega)]
end Go.Proofs.YtmcclbiaoeilkaaGreat
