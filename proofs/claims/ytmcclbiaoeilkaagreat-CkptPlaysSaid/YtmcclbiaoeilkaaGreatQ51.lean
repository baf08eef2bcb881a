import Derived.Test.YtmcclbiaoeilkaaGreatQ50
set_option maxHeartbeats 4000000
set_option maxRecDepth 20000
/- Part 51. -/
section
namespace Go.Sl
open Go Go.RowKit
def zrT (D:zsh)(k b:Nat):zsh:={ D with dur:=za7 D.dur k (zsh.flip (D.dur k) b),cache:=za7 D.cache k ((D.cache k).map fun s=>zsh.flip s b) }
end Go.Sl
namespace Go.Proofs.YtmcclbiaoeilkaaGreat
open Go.Proofs.Tryz Go.RowKit Go.Sl Go.ChangeMaps
theorem zqy {D:zsh}{L:List SecV}(h:RefOf D L){k:Nat}{x:SecV}(hx:L[k]?=some x)(b:Nat)(c':List UInt8)(hc:∀ s,D.cache k=some s→c'=zsh.flip s b)(hcl:c'.length≤64)(v v':Value):RefOf (zrT D k b) (L.set k (zoC (zkJ x.1 (zsh.flip x.1.dur b)) c',v,v')):=by
 refine⟨by rw[List.length_set];exact h.len,fun i y hy=>?_,fun i y hy=>?_,fun i y s hy hs=>?_,fun i y hy=>?_,fun i y hy=>?_⟩
 ·rcases zbS hy with ⟨rfl,rfl⟩|⟨hne,h2⟩
  ·show zsh.flip x.1.dur b=za7 D.dur i (zsh.flip (D.dur i) b) i
   unfold za7;rw[if_pos rfl,h.dur i x hx]
  ·rw[h.dur i y h2]
   show _=za7 D.dur k _ i;unfold za7;rw[if_neg hne]
 ·rcases zbS hy with ⟨rfl,rfl⟩|⟨hne,h2⟩
  ·show x.1.pend=(za7 D.cache i ((D.cache i).map fun s=>zsh.flip s b) i).isSome
   unfold za7;rw[if_pos rfl,Option.isSome_map];exact h.pend i x hx
  ·rw[h.pend i y h2]
   show _=(za7 D.cache k _ i).isSome;unfold za7;rw[if_neg hne]
 ·rcases zbS hy with ⟨rfl,rfl⟩|⟨hne,h2⟩
  ·have hs':za7 D.cache i ((D.cache i).map fun s=>zsh.flip s b) i=some s:=hs
   unfold za7 at hs';rw[if_pos rfl] at hs';obtain⟨t,ht,rfl⟩:=Option.map_eq_some_iff.1 hs';exact hc t ht
  ·have hs':za7 D.cache k ((D.cache k).map fun s=>zsh.flip s b) i=some s:=hs
   unfold za7 at hs';rw[if_neg hne] at hs';exact h.cac i y s h2 hs'
 ·rcases zbS hy with ⟨rfl,rfl⟩|⟨_,h2⟩
  ·exact h.fault i x hx
  ·exact h.fault i y h2
 ·rcases zbS hy with ⟨rfl,rfl⟩|⟨_,h2⟩
  ·exact hcl
  ·exact h.clen i y h2
theorem zpv (p:Nat)(D:zsh)(F:zsi)(i bit:Int)(w:World)(hS:Sat w (zbF RT p D*F)):
  Calls prog 113 #[.pointer (some ⟨p,0,none⟩),i,bit] w fun e w'=>e = .returned (.int .i64 (D.rot i bit).2)∧Hid (Same w w'∧Sat w' (zbF RT p (D.rot i bit).1*F)):=by
 obtain⟨v,L,⟨hwf,hr⟩,hs⟩:=zbz.1 hS;have c0:w.cell? ⟨p,0,none⟩=some v:=zab hs.block 0;obtain⟨ao,cap,rfl⟩:=zal hs.right;have HI:=zh (fun i=>zg8 p (.slice ao L.length cap) L.length i w c0 ⟨ao,cap,rfl⟩);have hin:=zpt hr;obtain⟨G,hG⟩:∃ G,Hid (D.rot i bit=G):=⟨_,zh rfl⟩;rw[hG.out];obtain⟨n,hn⟩:∃ n,L.length=n:=⟨_,rfl⟩;rw[hn] at HI hin c0
 by_cases hi:0≤i∧i<(n:Int)
 case neg =>
  have hb:=zfL hi
  have hh:D.has i=false:=by rw[hin];exact hb
  obtain rfl:(D,1)=G:=by rw[← hG.out];unfold zsh.rot;rw[hh];rfl
  have HF:=(zd (Same.refl w) hS);clear hG hs hS hr hwf hi hin hn hh;go_enter func113,ntmps113;go_wp2_with (go_at_call 119;refine (HI.out _).mono ?_;rintro e w' ⟨rfl,rfl⟩;rw[hb]);go_ret;exact⟨rfl,HF.out⟩
 have hb:=zea hi
 have hh:D.has i=true:=by rw[hin];exact hb
 by_cases hb0:bit<0
 case pos =>
  have d0:decide (bit<0)=true:=decide_eq_true hb0
  obtain rfl:(D,1)=G:=by rw[← hG.out];unfold zsh.rot;rw[if_neg (by omega)]
  have HF:=(zd (Same.refl w) hS);clear hG hs hS hr hwf hi hin hn hh hb0;go_enter func113,ntmps113;go_wp2_with (go_at_call 119;refine (HI.out _).mono ?_;rintro e w' ⟨rfl,rfl⟩;rw[hb]);go_ret;exact⟨rfl,HF.out⟩
 have d0:decide (bit<0)=false:=decide_eq_false hb0
 by_cases hb5:512≤bit
 case pos =>
  have d5:decide (512≤bit)=true:=decide_eq_true hb5
  obtain rfl:(D,1)=G:=by rw[← hG.out];unfold zsh.rot;rw[if_neg (by omega)]
  have HF:=(zd (Same.refl w) hS);clear hG hs hS hr hwf hi hin hn hh hb0 hb5;go_enter func113,ntmps113;go_wp2_with (go_at_call 119;refine (HI.out _).mono ?_;rintro e w' ⟨rfl,rfl⟩;rw[hb]);go_ret;exact⟨rfl,HF.out⟩
 have d5:decide (512≤bit)=false:=decide_eq_false hb5;obtain⟨k,rfl⟩:=Int.eq_ofNat_of_zero_le hi.1;obtain⟨m,rfl⟩:=Int.eq_ofNat_of_zero_le (show 0≤bit by omega)
 have hk:k<L.length:=by omega
 obtain⟨x,hx⟩:∃ x,L[k]?=some x:=⟨_,List.getElem?_eq_getElem hk⟩;obtain⟨g,rfl,-⟩:=zco hs.right hx;have ho:Sat w (zcV p g L.length cap L F):=hs;rw[hn] at ho;obtain⟨-,e0,e1,e2,e3,ef⟩:=zaW ho hx;have f0:=ef (k*4);have hki:(k:Int)<(n:Int):=hi.2;have hk0:(0:Int)≤(k:Int):=hi.1
 have hm5:m<512:=by omega
 have hGv:G=(zrT D k m,0):=by rw[← hG.out];unfold zsh.rot zrT;rw[if_pos ⟨hh,by omega,by omega⟩];simp
 have hwf':=hwf.rot (k:Int) (m:Int);rw[hG.out,hGv] at hwf';subst hGv
 have hxd:x.1.dur.length=64:=by rw[hr.dur k x hx];exact hwf.dur k (by have:=hr.len;omega)
 have HXC:=zh (show ∀ s,D.cache k=some s→x.1.cac=s∧s.length=64 from fun s h=>⟨hr.cac k x s hx h,(hwf.cache k s h).2⟩);have HPE:=zh (hr.pend k x hx);obtain⟨R1,R2,hrd,hrc⟩:=zdT ho hx;have HT:=zh (zjs x.2.1 x.1.dur m _ w.drew (Sat.drew ho) ⟨R1,hrd.drew⟩ hxd hm5);have HRR:=zh (zqy hr hx m);have HCLN:=zh (hr.clen k x hx);have HX:=zh hx;have HW:=zh hwf';have HM:=zh hm5;have HK:=zh hk;clear hG hs hS hr hwf hwf' hi hin hn hh hb0 hb5 hk hm5 hrd hrc hx ef hxd ho e1 e2 e3;obtain⟨mi,hmi⟩:∃ mi:Int,Hid ((m:Int)=mi):=⟨_,zh rfl⟩
 rw[hmi.out] at HT d0 d5 ⊢;go_enter func113,ntmps113;go_upto_region 3 with (go_at_call 119;refine (HI.out _).mono ?_;rintro e w' ⟨rfl,rfl⟩;rw[hb])
 have hS0:w.drew.cell? ⟨p,0,none⟩=some (.slice (some ⟨g,0,none⟩) n cap)∧w.drew.cell? ⟨g,k*4,none⟩=some x.2.1:=⟨c0,e0⟩
 refine zah (fun w'=>w'.cell? ⟨p,0,none⟩=some (.slice (some ⟨g,0,none⟩) n cap)∧w'.cell? ⟨g,k*4,none⟩=some x.2.1) (by kernel_rfl) ?_
 (apply zaa 0 rfl rfl (by kernel_rfl) rfl);(rintro w' ⟨h1,h2⟩;go_simp;rfl);exact hS0;simp only[zq];(apply zaa 1 rfl rfl (by kernel_rfl) rfl);(rintro w' ⟨h1,h2⟩;go_simp;rfl);exact hS0;simp only[zq];(apply zaa 2 rfl rfl (by kernel_rfl) rfl);(rintro w' ⟨h1,h2⟩;go_simp;rfl);exact hS0;simp only[zq];(apply zaa 3 rfl rfl (by kernel_rfl) rfl);(rintro w' ⟨h1,h2⟩;go_simp;rfl);exact hS0;simp only[zq];(apply zaa 4 rfl rfl (by kernel_rfl) rfl);(rintro w' ⟨h1,h2⟩;go_simp;rfl);exact hS0;simp only[zq];(apply zaa 5 rfl rfl (by kernel_rfl) rfl);(rintro w' ⟨h1,h2⟩;go_simp;rfl);exact hS0;simp only[zq]
 (apply zaa 6 rfl rfl (by kernel_rfl) rfl);(rintro w' ⟨h1,h2⟩;go_simp;rfl);exact hS0;simp only[zq];(apply zaa 7 rfl rfl (by kernel_rfl) rfl);(rintro w' ⟨h1,h2⟩;go_simp;rfl);exact hS0;simp only[zq];(apply zaa 8 rfl rfl (by kernel_rfl) rfl);(rintro w' ⟨h1,h2⟩;go_simp;rfl);exact hS0;simp only[zq];(apply zaa 9 rfl rfl (by kernel_rfl) rfl);(rintro w' ⟨h1,h2⟩;go_simp;rfl);exact hS0;simp only[zq];(apply zaa 10 rfl rfl (by kernel_rfl) rfl);(rintro w' ⟨h1,h2⟩;go_simp;rfl);exact hS0;simp only[zq];(apply zaa 11 rfl rfl (by kernel_rfl) rfl);(rintro w' ⟨h1,h2⟩;go_simp;rfl);exact hS0;simp only[zq]
 (apply zaa 12 rfl rfl (by kernel_rfl) rfl);(rintro w' ⟨h1,h2⟩;go_simp;rfl);exact hS0;simp only[zq];(apply zaa 13 rfl rfl (by kernel_rfl) rfl);(rintro w' ⟨h1,h2⟩;go_simp;rfl);exact hS0;simp only[zq]
 refine zan 14 rfl rfl (by kernel_rfl) rfl (f:=145) (args:=#[x.2.1,.int .i64 mi]) (R:=fun v w'=>Hid (Same w.drew w'∧Sat w' (zbW TU8 v (zsh.flip x.1.dur m)*zcV p g n cap L F))) (by kernel_rfl) (HT.out.mono fun e w' h=>by obtain⟨v,rfl,h2⟩:=h;exact⟨_,rfl,h2⟩) ?_
 rintro v1 w1 h1;have hL1:(zsh.flip x.1.dur m).length=(zsh.flip x.1.dur m).length:=rfl;have ho1:Sat w1 (zcV p g n cap L (zbW TU8 v1 (zsh.flip x.1.dur m)*F)):=h1.out.2.perm (by unfold zcV;ac_rfl);obtain⟨a1,cp1,rfl,-⟩:=zbI h1.out.2;obtain⟨c1,e01,-,-,-,ef1⟩:=zaW ho1 HX.out;have hS1:w1.cell? ⟨p,0,none⟩=some (.slice (some ⟨g,0,none⟩) n cap)∧w1.cell? ⟨g,k*4,none⟩=some x.2.1:=⟨c1,e01⟩;refine⟨hS1,?_⟩;simp only[zq];(apply zaa 15 rfl rfl (by kernel_rfl) rfl);(rintro w' ⟨h1,h2⟩;go_simp;rfl);exact hS1;simp only[zq]
 (apply zaa 16 rfl rfl (by kernel_rfl) rfl);(rintro w' ⟨h1,h2⟩;go_simp;rfl);exact hS1;simp only[zq];obtain⟨ip,hip,hip2⟩:=Option.map_eq_some_iff.1 (show (prog.info? 69).map (·.size)=some 1 by kernel_rfl);refine zat 17 (w1.setCell ⟨g,k*4,none⟩ (.slice a1 (zsh.flip x.1.dur m).length cp1)) rfl rfl (by kernel_rfl) rfl (zay rfl rfl rfl hip hip2 rfl e01 (ef1 (k*4))) ?_;have hst:=zbR ho1 HX.out (zkJ x.1 (zsh.flip x.1.dur m),.slice a1 (zsh.flip x.1.dur m).length cp1,x.2.2) 0 (.slice a1 (zsh.flip x.1.dur m).length cp1) (by omega) rfl (zit x _ _ _)
 have H2:=zh (show Same w (w1.setCell ⟨g,k*4,none⟩ (.slice a1 (zsh.flip x.1.dur m).length cp1))∧_ from And.intro (((Same.refl w).drew.trans h1.out.1).setCell _ _) (zdS hst));clear hS0 hS1 c0 e0 f0 c1 e01 ef1 ho1 hst hip hip2 ip hL1;generalize hW2:w1.setCell ⟨g,k*4,none⟩ _=W2 at H2 ⊢;clear hW2
 have hx2:(L.set k (zkJ x.1 (zsh.flip x.1.dur m),Value.slice a1 (zsh.flip x.1.dur m).length cp1,x.2.2))[k]?=some (zkJ x.1 (zsh.flip x.1.dur m),Value.slice a1 (zsh.flip x.1.dur m).length cp1,x.2.2):=by rw[List.getElem?_set_self HK.out]
 obtain⟨c0,-,e1,e2,-,ef⟩:=zaW H2.out.2 hx2;have e2':W2.cell? ⟨g,k*4+2,none⟩=some (.bool x.1.pend):=e2;have e1':W2.cell? ⟨g,k*4+1,none⟩=some x.2.2:=e1;clear e1 e2;cases hp:x.1.pend
 ·have hcn:D.cache k=none:=by
   have h:=HPE.out;rw[hp] at h
   cases hc:D.cache k with
   | none=>rfl
   | some s=>rw[hc] at h;cases h
  rw[hp] at e2';have hr2:=HRR.out x.1.cac (fun s hs=>by rw[hcn] at hs;cases hs) HCLN.out (.slice a1 (zsh.flip x.1.dur m).length cp1) x.2.2;have HF:=zh (zdn HW.out hr2 H2.out.2);clear ef hx2 e1' hp hcn hr2;go_wp2;go_ret;exact⟨rfl,H2.out.1,HF.out⟩
 ·obtain⟨s,hcs⟩:∃ s,D.cache k=some s:=Option.isSome_iff_exists.1 (by rw[← HPE.out];exact hp)
  rw[hp] at e2';obtain⟨hcc,hs64⟩:=HXC.out s hcs;obtain⟨R1,R2,-,hrc⟩:=zdT H2.out.2 hx2;have hrc':Sat W2 (zbW TU8 x.2.2 x.1.cac*R2):=hrc;rw[hcc] at hrc';have HT2:=zh (zjs x.2.2 s m _ W2.drew (Sat.drew H2.out.2) ⟨R2,hrc'.drew⟩ hs64 HM.out);rw[hmi.out] at HT2;have HP:=zh (HRR.out (zsh.flip s m) (fun t ht=>by rw[hcs] at ht;rw[Option.some.inj ht]) (Nat.le_of_eq ((zsh.flip_length s m).trans (HXC.out s hcs).2)) (.slice a1 (zsh.flip x.1.dur m).length cp1));have HX2:=zh hx2;clear ef hx2 hp hcs hcc hs64 hrc hrc'
  go_upto_region 5 with (fail);clear e2';have hS0:W2.drew.cell? ⟨p,0,none⟩=some (.slice (some ⟨g,0,none⟩) n cap)∧W2.drew.cell? ⟨g,k*4+1,none⟩=some x.2.2:=⟨c0,e1'⟩
  refine zah (fun w'=>w'.cell? ⟨p,0,none⟩=some (.slice (some ⟨g,0,none⟩) n cap)∧w'.cell? ⟨g,k*4+1,none⟩=some x.2.2) (by kernel_rfl) ?_
  (apply zaa 0 rfl rfl (by kernel_rfl) rfl);(rintro w' ⟨h1,h2⟩;go_simp;rfl);exact hS0;simp only[zq];(apply zaa 1 rfl rfl (by kernel_rfl) rfl);(rintro w' ⟨h1,h2⟩;go_simp;rfl);exact hS0;simp only[zq];(apply zaa 2 rfl rfl (by kernel_rfl) rfl);(rintro w' ⟨h1,h2⟩;go_simp;rfl);exact hS0;simp only[zq];(apply zaa 3 rfl rfl (by kernel_rfl) rfl);(rintro w' ⟨h1,h2⟩;go_simp;rfl);exact hS0;simp only[zq];(apply zaa 4 rfl rfl (by kernel_rfl) rfl);(rintro w' ⟨h1,h2⟩;go_simp;rfl);exact hS0;simp only[zq];(apply zaa 5 rfl rfl (by kernel_rfl) rfl);(rintro w' ⟨h1,h2⟩;go_simp;rfl);exact hS0;simp only[zq]
  (apply zaa 6 rfl rfl (by kernel_rfl) rfl);(rintro w' ⟨h1,h2⟩;go_simp;rfl);exact hS0;simp only[zq];(apply zaa 7 rfl rfl (by kernel_rfl) rfl);(rintro w' ⟨h1,h2⟩;go_simp;rfl);exact hS0;simp only[zq];(apply zaa 8 rfl rfl (by kernel_rfl) rfl);(rintro w' ⟨h1,h2⟩;go_simp;rfl);exact hS0;simp only[zq];(apply zaa 9 rfl rfl (by kernel_rfl) rfl);(rintro w' ⟨h1,h2⟩;go_simp;rfl);exact hS0;simp only[zq];(apply zaa 10 rfl rfl (by kernel_rfl) rfl);(rintro w' ⟨h1,h2⟩;go_simp;rfl);exact hS0;simp only[zq];(apply zaa 11 rfl rfl (by kernel_rfl) rfl);(rintro w' ⟨h1,h2⟩;go_simp;rfl);exact hS0;simp only[zq]
  (apply zaa 12 rfl rfl (by kernel_rfl) rfl);(rintro w' ⟨h1,h2⟩;go_simp;rfl);exact hS0;simp only[zq];(apply zaa 13 rfl rfl (by kernel_rfl) rfl);(rintro w' ⟨h1,h2⟩;go_simp;rfl);exact hS0;simp only[zq]
  refine zan 14 rfl rfl (by kernel_rfl) rfl (f:=145) (args:=#[x.2.2,.int .i64 mi]) (R:=fun v w'=>Hid (Same W2.drew w'∧Sat w' (zbW TU8 v (zsh.flip s m)*zcV p g n cap (L.set k (zkJ x.1 (zsh.flip x.1.dur m),Value.slice a1 (zsh.flip x.1.dur m).length cp1,x.2.2)) F))) (by kernel_rfl) (HT2.out.mono fun e w' h=>by obtain⟨v,rfl,h2⟩:=h;exact⟨_,rfl,h2⟩) ?_
  rintro v3 w3 h3;have ho3:Sat w3 (zcV p g n cap (L.set k (zkJ x.1 (zsh.flip x.1.dur m),Value.slice a1 (zsh.flip x.1.dur m).length cp1,x.2.2)) (zbW TU8 v3 (zsh.flip s m)*F)):=h3.out.2.perm (by unfold zcV;ac_rfl);obtain⟨a3,cp3,rfl,-⟩:=zbI h3.out.2;obtain⟨c3,-,e13,-,-,ef3⟩:=zaW ho3 HX2.out;have e13':w3.cell? ⟨g,k*4+1,none⟩=some x.2.2:=e13;have hS3:w3.cell? ⟨p,0,none⟩=some (.slice (some ⟨g,0,none⟩) n cap)∧w3.cell? ⟨g,k*4+1,none⟩=some x.2.2:=⟨c3,e13'⟩;refine⟨hS3,?_⟩;simp only[zq];(apply zaa 15 rfl rfl (by kernel_rfl) rfl);(rintro w' ⟨h1,h2⟩;go_simp;rfl);exact hS3;simp only[zq]
  (apply zaa 16 rfl rfl (by kernel_rfl) rfl);(rintro w' ⟨h1,h2⟩;go_simp;rfl);exact hS3;simp only[zq];obtain⟨ip,hip,hip2⟩:=Option.map_eq_some_iff.1 (show (prog.info? 69).map (·.size)=some 1 by kernel_rfl);refine zat 17 (w3.setCell ⟨g,k*4+1,none⟩ (.slice a3 (zsh.flip s m).length cp3)) rfl rfl (by kernel_rfl) rfl (zay rfl rfl rfl hip hip2 rfl e13' (ef3 (k*4+1))) ?_;have hst:=zbR ho3 HX2.out (zoC (zkJ x.1 (zsh.flip x.1.dur m)) (zsh.flip s m),.slice a1 (zsh.flip x.1.dur m).length cp1,.slice a3 (zsh.flip s m).length cp3) 1 (.slice a3 (zsh.flip s m).length cp3) (by omega) rfl (zis _ _ _ _)
  rw[List.set_set] at hst;have H4:=(zd ((H2.out.1.drew.trans h3.out.1).setCell ⟨g,k*4+1,none⟩ (.slice a3 (zsh.flip s m).length cp3)) (zdn HW.out (HP.out _) (zdS hst)));clear hS0 hS3 c0 e1' c3 e13 e13' ef3 ho3 hst hip hip2 ip;go_wp2;go_ret;exact⟨rfl,H4.out⟩
end Go.Proofs.YtmcclbiaoeilkaaGreat
end
section
namespace Go.Proofs.YtmcclbiaoeilkaaGreat
open Go.Proofs.Tryz Go.RowKit Go.Sl Go.ChangeMaps
theorem zma (p:Nat)(S:zsg)(F:zsi)(a:zsj)(bit:Int)(w:World)(hS:Sat w (zad RS p S*F)):
  Calls prog 66 #[.pointer (some ⟨p,0,none⟩),.agg (plA a),bit] w fun e w'=>e = .returned (.int .i64 (S.rot a bit).2)∧Hid (Same w w'∧Sat w' (zad RS p (S.rot a bit).1*F)):=by
 have hwf:=zbm hS;obtain⟨d,ar,ix⟩:=a;have HA:=zh (show Same w (w.alloc (.cells (plA ⟨d,ar,ix⟩) TPl))∧Sat (w.alloc (.cells (plA ⟨d,ar,ix⟩) TPl)) (zad RS p S*(pts w.heap.size (.cells (plA ⟨d,ar,ix⟩) TPl (0,0))*F)) from⟨(Same.refl w).alloc _,(hS.alloc (.cells (plA ⟨d,ar,ix⟩) TPl)).perm (by ac_rfl)⟩)
 have HNB:=zh (fun G W (h:Sat W (zad RS p S*G))=>zcx p S G ⟨d,ar,ix⟩ W h)
 have hwr:S.rot ⟨d,ar,ix⟩ bit=if S.number ⟨d,ar,ix⟩<0∨(decide (0≤bit)&&decide (bit<512))=false then (S,1) else if S.state d=1 then (S.setDisk d ((S.disk d).rot (S.number ⟨d,ar,ix⟩) bit).1,((S.disk d).rot (S.number ⟨d,ar,ix⟩) bit).2) else (S,15):=rfl
 clear hS
 by_cases hn:S.number ⟨d,ar,ix⟩<0
 ·rw[if_pos (.inl hn)] at hwr
  rw[hwr];rw[show zeU S ⟨d,ar,ix⟩=0 by unfold zeU;rw[if_pos hn],decide_eq_false (by omega:¬ 0≤S.number ⟨d,ar,ix⟩)] at HNB;clear hwr hn hwf;go_enter func66,ntmps66;go_upto_region 1 with (fail)
  unfold plA at HA;generalize w.alloc _=W1 at HA ⊢;generalize w.heap.size=B at HA ⊢;have hbx:=HA.out.2.perm (show _=pts B (.cells #[d,ar,ix] TPl (0,0))*(zad RS p S*F) from by ac_rfl);have b0:W1.cell? ⟨B,0,none⟩=some (.int .i64 d):=zab hbx.block 0;have b1:W1.cell? ⟨B,1,none⟩=some (.int .i64 ar):=zab hbx.block 1;have b2:W1.cell? ⟨B,2,none⟩=some (.int .i64 ix):=zab hbx.block 2;clear hbx
  go_wp2_with (first
   | (go_at_call 74;refine (HNB.out _ W1 HA.out.2).mono ?_;rintro e w2 ⟨rfl,hb⟩;clear b0 b1 b2;have H2:=(zd (HA.out.1.below hb) (HA.out.2.below hb));clear hb;have b0:w2.cell? ⟨B,0,none⟩=some (.int .i64 d):=zab (H2.out.2.perm (show _=pts B (.cells #[d,ar,ix] TPl (0,0))*(zad RS p S*F) from by ac_rfl)).block 0))
  go_ret;exact⟨rfl,H2.out.1,(H2.out.2.perm (show _=pts B (.cells #[d,ar,ix] TPl (0,0))*(zad RS p S*F) from by ac_rfl)).right⟩
 have hnm:zeU S ⟨d,ar,ix⟩=S.number ⟨d,ar,ix⟩:=by unfold zeU;rw[if_neg hn]
 rw[hnm,decide_eq_true (by omega:0≤S.number ⟨d,ar,ix⟩)] at HNB
 by_cases hb0:bit<0
 ·have f0:decide (bit<0)=true:=decide_eq_true hb0
  rw[if_pos (.inr (by rw[decide_eq_false (by omega:¬ 0≤bit)];rfl))] at hwr;rw[hwr];generalize S.number ⟨d,ar,ix⟩=nu at HNB;clear hwr hn hwf hnm hb0;go_enter func66,ntmps66;go_upto_region 1 with (fail)
  unfold plA at HA;generalize w.alloc _=W1 at HA ⊢;generalize w.heap.size=B at HA ⊢;have hbx:=HA.out.2.perm (show _=pts B (.cells #[d,ar,ix] TPl (0,0))*(zad RS p S*F) from by ac_rfl);have b0:W1.cell? ⟨B,0,none⟩=some (.int .i64 d):=zab hbx.block 0;have b1:W1.cell? ⟨B,1,none⟩=some (.int .i64 ar):=zab hbx.block 1;have b2:W1.cell? ⟨B,2,none⟩=some (.int .i64 ix):=zab hbx.block 2;clear hbx
  go_wp2_with (first
   | (go_at_call 74;refine (HNB.out _ W1 HA.out.2).mono ?_;rintro e w2 ⟨rfl,hb⟩;clear b0 b1 b2;have H2:=(zd (HA.out.1.below hb) (HA.out.2.below hb));clear hb;have b0:w2.cell? ⟨B,0,none⟩=some (.int .i64 d):=zab (H2.out.2.perm (show _=pts B (.cells #[d,ar,ix] TPl (0,0))*(zad RS p S*F) from by ac_rfl)).block 0))
  go_ret;exact⟨rfl,H2.out.1,(H2.out.2.perm (show _=pts B (.cells #[d,ar,ix] TPl (0,0))*(zad RS p S*F) from by ac_rfl)).right⟩
 have f0:decide (bit<0)=false:=decide_eq_false hb0
 by_cases hb1:511<bit
 ·have f1:decide (511<bit)=true:=decide_eq_true hb1
  have f2:decide (bit > 511)=true:=decide_eq_true hb1;rw[if_pos (.inr (by rw[decide_eq_false (by omega:¬ bit<512),Bool.and_false]))] at hwr;rw[hwr];generalize S.number ⟨d,ar,ix⟩=nu at HNB;clear hwr hn hwf hnm hb1 hb0;go_enter func66,ntmps66;go_upto_region 1 with (fail)
  unfold plA at HA;generalize w.alloc _=W1 at HA ⊢;generalize w.heap.size=B at HA ⊢;have hbx:=HA.out.2.perm (show _=pts B (.cells #[d,ar,ix] TPl (0,0))*(zad RS p S*F) from by ac_rfl);have b0:W1.cell? ⟨B,0,none⟩=some (.int .i64 d):=zab hbx.block 0;have b1:W1.cell? ⟨B,1,none⟩=some (.int .i64 ar):=zab hbx.block 1;have b2:W1.cell? ⟨B,2,none⟩=some (.int .i64 ix):=zab hbx.block 2;clear hbx
  go_wp2_with (first
   | (go_at_call 74;refine (HNB.out _ W1 HA.out.2).mono ?_;rintro e w2 ⟨rfl,hb⟩;clear b0 b1 b2;have H2:=(zd (HA.out.1.below hb) (HA.out.2.below hb));clear hb;have b0:w2.cell? ⟨B,0,none⟩=some (.int .i64 d):=zab (H2.out.2.perm (show _=pts B (.cells #[d,ar,ix] TPl (0,0))*(zad RS p S*F) from by ac_rfl)).block 0))
  go_ret;exact⟨rfl,H2.out.1,(H2.out.2.perm (show _=pts B (.cells #[d,ar,ix] TPl (0,0))*(zad RS p S*F) from by ac_rfl)).right⟩
 have f1:decide (511<bit)=false:=decide_eq_false hb1;have f2:decide (bit > 511)=false:=decide_eq_false hb1;rw[if_neg (by rw[decide_eq_true (by omega:0≤bit),decide_eq_true (by omega:bit<512)];intro h;rcases h with h|h;exact hn h;cases h)] at hwr;clear hb0 hb1;have hlt:=zsg.number_lt hwf (a:=⟨d,ar,ix⟩) (by omega);dsimp only at hlt;obtain⟨hd0,hd1⟩:=zsg.state_in hwf hlt.1;obtain⟨k,rfl⟩:=Int.eq_ofNat_of_zero_le hd0
 have hkb:k<S.bays.length:=by omega
 have HST0:=zh hlt.1;have HWF:=zh hwf;obtain⟨nu,hnu⟩:∃ nu,nu=S.number ⟨(k:Int),ar,ix⟩:=⟨_,rfl⟩;rw[← hnu] at HNB hwr;have HK:=zh hkb;clear hnu hnm hlt hd0 hd1 hwf hn hkb
 by_cases h1:S.state (k:Int)=1
 case neg =>
  rw[if_neg h1] at hwr;rw[hwr]
  have e1:(S.state (k:Int) != 1)=true:=by simp[h1]
  clear hwr h1 HST0 HWF;go_enter func66,ntmps66;go_upto_region 1 with (fail)
  unfold plA at HA;generalize w.alloc _=W1 at HA ⊢;generalize w.heap.size=B at HA ⊢;have hbx:=HA.out.2.perm (show _=pts B (.cells #[(k:Int),ar,ix] TPl (0,0))*(zad RS p S*F) from by ac_rfl);have b0:W1.cell? ⟨B,0,none⟩=some (.int .i64 (k:Int)):=zab hbx.block 0;have b1:W1.cell? ⟨B,1,none⟩=some (.int .i64 ar):=zab hbx.block 1;have b2:W1.cell? ⟨B,2,none⟩=some (.int .i64 ix):=zab hbx.block 2;clear hbx
  go_upto_region 4 with (first
   | (go_at_call 74;refine (HNB.out _ W1 HA.out.2).mono ?_;rintro e w2 ⟨rfl,hb⟩;clear b0 b1 b2;have H2:=(zd (HA.out.1.below hb) (HA.out.2.below hb));clear hb;have b0:w2.cell? ⟨B,0,none⟩=some (.int .i64 (k:Int)):=zab (H2.out.2.perm (show _=pts B (.cells #[(k:Int),ar,ix] TPl (0,0))*(zad RS p S*F) from by ac_rfl)).block 0))
  obtain⟨g,capb,gs,caps,q,R,⟨_,c7⟩,⟨_,cs⟩,_⟩:=zdo H2.out.2 HK.out
  have hkn:(k:Int)<(S.bays.length:Int):=by have:=HK.out;omega
  have hk0:(0:Int)≤(k:Int):=by omega
  generalize S.bays.length=n at c7 hkn;generalize S.state (k:Int)=st at cs e1
  go_quiet (fail)
  go_wp2;go_ret;exact⟨rfl,H2.out.1.drewN _,((H2.out.2.perm (show _=pts B (.cells #[(k:Int),ar,ix] TPl (0,0))*(zad RS p S*F) from by ac_rfl)).right).drewN _⟩
 case pos =>
  rw[if_pos h1] at hwr
  have HRE:=zh (fun q G W (h:Sat W (zbF RT q (S.disk k)*G))=>zpv q (S.disk k) G nu bit W h)
  have HDN:=zh (show ((S.disk k).rot nu bit).1.n=(S.disk k).n from zsh.rot_n _ _ _);rw[hwr];have H1:=zh h1
  generalize (S.disk k).rot nu bit=rd at *
  clear hwr h1;go_enter func66,ntmps66;go_upto_region 1 with (fail)
  unfold plA at HA;generalize w.alloc _=W1 at HA ⊢;generalize w.heap.size=B at HA ⊢;have hbx:=HA.out.2.perm (show _=pts B (.cells #[(k:Int),ar,ix] TPl (0,0))*(zad RS p S*F) from by ac_rfl);have b0:W1.cell? ⟨B,0,none⟩=some (.int .i64 (k:Int)):=zab hbx.block 0;have b1:W1.cell? ⟨B,1,none⟩=some (.int .i64 ar):=zab hbx.block 1;have b2:W1.cell? ⟨B,2,none⟩=some (.int .i64 ix):=zab hbx.block 2;clear hbx
  go_upto_region 4 with (first
   | (go_at_call 74;refine (HNB.out _ W1 HA.out.2).mono ?_;rintro e w2 ⟨rfl,hb⟩;clear b0 b1 b2;have H2:=(zd (HA.out.1.below hb) (HA.out.2.below hb));clear hb;have b0:w2.cell? ⟨B,0,none⟩=some (.int .i64 (k:Int)):=zab (H2.out.2.perm (show _=pts B (.cells #[(k:Int),ar,ix] TPl (0,0))*(zad RS p S*F) from by ac_rfl)).block 0))
  obtain⟨g0,capb0,gs,caps,q0,R0,⟨_,c7⟩,⟨_,cs⟩,_⟩:=zdo H2.out.2 HK.out;rw[H1.out] at cs
  have hkn:(k:Int)<(S.bays.length:Int):=by have:=HK.out;omega
  have hk0:(0:Int)≤(k:Int):=by omega
  obtain⟨n,hn⟩:∃ n,S.bays.length=n:=⟨_,rfl⟩;rw[hn] at c7 hkn;have HN:=zh hn;clear hn
  go_quiet (fail)
  go_upto_region 6 with (fail);clear b0 c7 cs;generalize hw3:w2.drewN _=w3;have H3:=zh (show Same w w3∧Sat w3 (zad RS p S*(pts B (.cells #[(k:Int),ar,ix] TPl (0,0))*F)) by rw[← hw3];exact⟨H2.out.1.drewN _,H2.out.2.drewN _⟩);clear hw3;have b0:w3.cell? ⟨B,0,none⟩=some (.int .i64 (k:Int)):=zab (H3.out.2.perm (show _=pts B (.cells #[(k:Int),ar,ix] TPl (0,0))*(zad RS p S*F) from by ac_rfl)).block 0;obtain⟨vb,vs,vi,ps,qs,q,R,ho,hs⟩:=zcL H3.out.2 (k:=k) HK.out;obtain⟨g,capb,rfl,c6,cq,-⟩:=zbw ho hs;have HO:=zh ho
  rw[zcl] at hs;rw[HN.out] at c6 hs;have HQ:=zh hs;clear ho hs;have hS0:w3.drew.cell? ⟨p,6,none⟩=some (.slice (some ⟨g,0,none⟩) n capb)∧w3.drew.cell? ⟨g,k,none⟩=some (.pointer (some ⟨q,0,none⟩))∧w3.drew.cell? ⟨B,0,none⟩=some (.int .i64 (k:Int)):=⟨c6,cq,b0⟩
  refine zah (fun w'=>w'.cell? ⟨p,6,none⟩=some (.slice (some ⟨g,0,none⟩) n capb)∧w'.cell? ⟨g,k,none⟩=some (.pointer (some ⟨q,0,none⟩))∧w'.cell? ⟨B,0,none⟩=some (.int .i64 (k:Int))) (by kernel_rfl) ?_
  clear c6 cq b0;(apply zaa 0 rfl rfl (by kernel_rfl) rfl);(rintro w' ⟨h1,h2,h3⟩;go_simp;rfl);exact hS0;simp only[zq];(apply zaa 1 rfl rfl (by kernel_rfl) rfl);(rintro w' ⟨h1,h2,h3⟩;go_simp;rfl);exact hS0;simp only[zq];(apply zaa 2 rfl rfl (by kernel_rfl) rfl);(rintro w' ⟨h1,h2,h3⟩;go_simp;rfl);exact hS0;simp only[zq];(apply zaa 3 rfl rfl (by kernel_rfl) rfl);(rintro w' ⟨h1,h2,h3⟩;go_simp;rfl);exact hS0;simp only[zq];(apply zaa 4 rfl rfl (by kernel_rfl) rfl);(rintro w' ⟨h1,h2,h3⟩;go_simp;rfl);exact hS0;simp only[zq]
  (apply zaa 5 rfl rfl (by kernel_rfl) rfl);(rintro w' ⟨h1,h2,h3⟩;go_simp;rfl);exact hS0;simp only[zq];(apply zaa 6 rfl rfl (by kernel_rfl) rfl);(rintro w' ⟨h1,h2,h3⟩;go_simp;rfl);exact hS0;simp only[zq];(apply zaa 7 rfl rfl (by kernel_rfl) rfl);(rintro w' ⟨h1,h2,h3⟩;go_simp;rfl);exact hS0;simp only[zq];(apply zaa 8 rfl rfl (by kernel_rfl) rfl);(rintro w' ⟨h1,h2,h3⟩;go_simp;rfl);exact hS0;simp only[zq];(apply zaa 9 rfl rfl (by kernel_rfl) rfl);(rintro w' ⟨h1,h2,h3⟩;go_simp;rfl);exact hS0;simp only[zq]
  refine zan 10 rfl rfl (by kernel_rfl) rfl (R:=fun v w'=>v = .int .i64 rd.2∧Hid (Same w3 w'∧Sat w' (zbF RT q rd.1*zos p S (.slice (some ⟨g,0,none⟩) n capb) vs vi ps qs R (pts B (.cells #[(k:Int),ar,ix] TPl (0,0))*F)))) (by kernel_rfl) ((HRE.out q _ w3.drew HQ.out.drew).mono fun e w' h=>⟨_,h.1,rfl,(Same.refl w3).drew.trans h.2.out.1,h.2.out.2⟩) ?_
  rintro _ w5 ⟨rfl,h5⟩;simp only[zq];have h6:=h5.out.2;rw[← HN.out,← zcl] at h6;have h7:=ze3 HO.out (HWF.out.setDisk HST0.out HDN.out) h6
  have hS5:w5.cell? ⟨p,6,none⟩=some (.slice (some ⟨g,0,none⟩) n capb)∧w5.cell? ⟨g,k,none⟩=some (.pointer (some ⟨q,0,none⟩))∧w5.cell? ⟨B,0,none⟩=some (.int .i64 (k:Int)):=by
   obtain⟨g',capb',e,c6,cq,-⟩:=zbw HO.out h6;cases e;rw[HN.out] at c6;exact⟨c6,cq,zab (h7.perm (show _=pts B (.cells #[(k:Int),ar,ix] TPl (0,0))*(zad RS p (S.setDisk k rd.1)*F) from by ac_rfl)).block 0⟩
  refine⟨hS5,?_⟩;(apply zaa 11 rfl rfl (by kernel_rfl) rfl);(rintro w' ⟨h1,h2,h3⟩;go_simp;rfl);exact hS5;simp only[zq];refine zar (by kernel_rfl) ?_;have HE:=(zd h5.out.1 (h7.perm (show _=pts B (.cells #[(k:Int),ar,ix] TPl (0,0))*(zad RS p (S.setDisk k rd.1)*F) from by ac_rfl)).right);clear hS0 hS5 h6 h7;go_wp2;go_ret;exact⟨rfl,H3.out.1.trans HE.out.1,HE.out.2⟩
end Go.Proofs.YtmcclbiaoeilkaaGreat
end
