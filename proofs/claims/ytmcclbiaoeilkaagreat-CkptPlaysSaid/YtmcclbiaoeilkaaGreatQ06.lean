import Derived.Test.YtmcclbiaoeilkaaGreatQ05
set_option maxHeartbeats 1000000
/- Part 6 of a proof;the last part says what is proved. -/
section
namespace Go.Proofs.YtmcclbiaoeilkaaGreat
open Go.Proofs.Tryz Go.RowKit Go.Sl Go.ChangeMaps
set_option linter.unusedSimpArgs false in
theorem zqA (p:Nat)(D:zsh)(F:zsi)(k m:Nat)(w:World)(hS:Sat w (zak TD TS p D*F))(hm:m<512)(h:D.has (k:Int)=true):
  Calls prog 101 #[.pointer (some ⟨p,0,none⟩),k,m] w fun e w'=>e = .returned (.int .i64 0)∧Same w w'∧Sat w' (zak TD TS p (D.rot k m).1*F):=by
 obtain⟨v,cb,ab,es,ck,l,es2,ck2,l2,⟨hwf,hM,hK,hM2,hK2⟩,hs⟩:=zaI.1 hS;have hsd:=hs.perm (show _=zcN TS D.n D.dur v*(pts p (.cells #[v,.map (some cb),.map (some ab)] TD (0,0))*(pts cb (.map es ck)*(pts ab (.map es2 ck2)*F))) from by ac_rfl);have h2:=zsh.has_iff.1 h
 have hkn:k<D.n:=by omega
 have hd:(decide (0≤(k:Int))&&decide ((k:Int)<(D.n:Int)))=true:=h;obtain⟨b,cap,dc,⟨rfl,hcap,hdc,hD⟩,hsb⟩:=(zbZ (by omega)).1 hsd;obtain⟨q0,q1,q2⟩:=zaZ hs
 have hm1:(0:Int)≤(m:Int):=by omega
 have hm2:(m:Int)<512:=by omega
 have hm8:m / 8<64:=by omega
 have hb1:decide ((m:Int)<0)=false:=decide_eq_false (by omega);have hb2:decide (512≤(m:Int))=false:=decide_eq_false (by omega);have hwf':=hwf.rot (k:Int) (m:Int);obtain⟨ti,hti,hz0,hts,hz2⟩:=info_parts zf3;obtain⟨ti5,hti5,hz05,hts5,hz25⟩:=info_parts (show (prog.info? 5).map (fun i=>(i.zero,i.size,i.bytes))=some (some (.int .u8 0),1,1) from by kernel_rfl);clear hz0 hz2 hz05 hz25;obtain⟨x,hx⟩:∃ x,x=(D.dur k).getD (m / 8) 0:=⟨_,rfl⟩
 have hcell:w.cell? ⟨b,0+k*64+m / 8*1,none⟩=some (.int .u8 (x.toNat:Int)):=by
  rw[zab hsb.block,hx];have:=hD k hkn (m / 8) _ (zkn (hwf.dur k hkn) hm8);rw[show 0+k*64+m / 8*1=k*64+m / 8 by omega];exact this
 have hfr:w.frozen? ⟨b,0+k*64+m / 8*1,none⟩=false:=zaj hsb.block _;have HX:=zh hx;have HH:=zh h;have HM:=zh hM;have HK:=zh hK;have HM2:=zh hM2;have HK2:=zh hK2;have HW:=zh hwf;have HW':=zh hwf';have HD:=zh hD;have H1:=zh hs;have H2:=zh hsb;clear hx hs hsb hS hM hK hM2 hK2 hwf hwf' hD hsd h;go_enter func101,ntmps101;go_upto_region 3 with (go_at_call 118;refine (zcc _ _ _ _ _ _ q0).mono ?_;rintro e w' ⟨rfl,rfl⟩)
 ·have hS0:w.drew.cell? ⟨p,0,none⟩=some (.slice (some ⟨b,0,none⟩) D.n cap)∧w.drew.cell? ⟨b,0+k*64+m / 8*1,none⟩=some (.int .u8 (x.toNat:Int)):=⟨q0,hcell⟩
  refine zah (fun w'=>w'.cell? ⟨p,0,none⟩=some (.slice (some ⟨b,0,none⟩) D.n cap)∧w'.cell? ⟨b,0+k*64+m / 8*1,none⟩=some (.int .u8 (x.toNat:Int))) (by kernel_rfl) ?_
  (apply zaa 0 rfl rfl (by kernel_rfl) rfl);(rintro w' ⟨h1,h2⟩;go_simp;rfl);exact hS0;simp only[zq];(apply zaa 1 rfl rfl (by kernel_rfl) rfl);(rintro w' ⟨h1,h2⟩;go_simp;rfl);exact hS0;simp only[zq];(apply zaa 2 rfl rfl (by kernel_rfl) rfl);(rintro w' ⟨h1,h2⟩;go_simp;rfl);exact hS0;simp only[zq];(apply zaa 3 rfl rfl (by kernel_rfl) rfl);(rintro w' ⟨h1,h2⟩;go_simp;rfl);exact hS0;simp only[zq];(apply zaa 4 rfl rfl (by kernel_rfl) rfl);(rintro w' ⟨h1,h2⟩;go_simp;rfl);exact hS0;simp only[zq];(apply zaa 5 rfl rfl (by kernel_rfl) rfl);(rintro w' ⟨h1,h2⟩;go_simp;rfl);exact hS0;simp only[zq]
  refine zaa 6 (v:=.int .i64 ((m / 8:Nat):Int)) rfl rfl (by kernel_rfl) rfl (fun w' _=>zau rfl rfl rfl rfl (zhb _ m 8 (by omega) (by decide) w')) hS0 ?_;simp only[zq]
  refine zaa 7 (v:=.pointer (some ⟨b,0+k*64,none⟩)) rfl rfl (by kernel_rfl) rfl (fun _ _=>zaw rfl rfl rfl underlying127 hti hts hkn) hS0 ?_;simp only[zq];refine zaa 8 (v:=.pointer (some ⟨b,0+k*64+m / 8*1,none⟩)) rfl rfl (by kernel_rfl) rfl (fun _ _=>zcr rfl rfl rfl underlying153 hti5 hts5 hm8) hS0 ?_;simp only[zq];refine zaa 9 (v:=.int .u8 (x.toNat:Int)) rfl rfl (by kernel_rfl) rfl (fun _ h=>zbl rfl rfl underlying5 rfl h.2) hS0 ?_;simp only[zq];(apply zaa 10 rfl rfl (by kernel_rfl) rfl);(rintro w' ⟨h1,h2⟩;go_simp;rfl);exact hS0;simp only[zq]
  refine zaa 11 (v:=.int .i64 ((m%8:Nat):Int)) rfl rfl (by kernel_rfl) rfl (fun w' _=>zau rfl rfl rfl rfl (zhc _ m 8 (by decide) w')) hS0 ?_;simp only[zq]
  refine zaa 12 (v:=.int .u8 ((1 <<< UInt8.ofNat (m%8):UInt8).toNat:Int)) rfl rfl (by kernel_rfl) rfl (fun w' _=>zau rfl rfl rfl rfl (zhV _ (m%8) (Nat.mod_lt _ (by decide)) w')) hS0 ?_;simp only[zq]
  refine zaa 13 (v:=.int .u8 ((x ^^^ 1 <<< UInt8.ofNat (m%8):UInt8).toNat:Int)) rfl rfl (by kernel_rfl) rfl (fun w' _=>zau rfl rfl rfl rfl (zhW _ x _ w')) hS0 ?_;simp only[zq];refine zaa 14 (v:=.pointer (some ⟨b,0+k*64,none⟩)) rfl rfl (by kernel_rfl) rfl (fun _ _=>zaw rfl rfl rfl underlying127 hti hts hkn) hS0 ?_;simp only[zq];refine zaa 15 (v:=.pointer (some ⟨b,0+k*64+m / 8*1,none⟩)) rfl rfl (by kernel_rfl) rfl (fun _ _=>zcr rfl rfl rfl underlying153 hti5 hts5 hm8) hS0 ?_;simp only[zq];refine zat 16 (w.drew.setCell ⟨b,0+k*64+m / 8*1,none⟩ (.int .u8 ((x ^^^ 1 <<< UInt8.ofNat (m%8):UInt8).toNat:Int))) rfl rfl (by kernel_rfl) rfl (zay rfl rfl rfl hti5 hts5 rfl hcell hfr) ?_
  have hS1:=H2.out.drew.setCell (i:=0+k*64+m / 8*1) (.int .u8 ((x ^^^ 1 <<< UInt8.ofNat (m%8):UInt8).toNat:Int));have hsm:Same w (w.drew.setCell ⟨b,0+k*64+m / 8*1,none⟩ (.int .u8 ((x ^^^ 1 <<< UInt8.ofNat (m%8):UInt8).toNat:Int))):=((Same.refl w).drew).setCell _ _;generalize w.drew.setCell ⟨b,0+k*64+m / 8*1,none⟩ (.int .u8 ((x ^^^ 1 <<< UInt8.ofNat (m%8):UInt8).toNat:Int))=w1 at hS1 hsm ⊢;clear q0 q1 q2 hcell hfr
  have hsp:=hS1.perm (show _=pts p (.cells #[.slice (some ⟨b,0,none⟩) D.n cap,.map (some cb),.map (some ab)] TD (0,0))*(pts b (.cells (dc.setIfInBounds (0+k*64+m / 8*1) (.int .u8 ((x ^^^ 1 <<< UInt8.ofNat (m%8):UInt8).toNat:Int))) TS (0,0))*(pts cb (.map es ck)*(pts ab (.map es2 ck2)*F))) from by ac_rfl);obtain⟨q0,q1,q2⟩:=zaZ hsp;have hplt:=hsp.lt;have hcb:w1.heap[cb]?=some (.map es ck):=(hsp.right.right).block;have hl0:=zeh (P:=prog) (w:=w1) underlying128 underlying3 (zfW w1) hcb HM.out (k:Int);have hlk0:=HK.out (k:Int)
  rw[if_pos h2.1] at hlk0;simp only[Int.toNat_natCast] at hlk0;have HS:=zh hsp;have HSM:=zh hsm;clear hsp hS1 hsm hcb
  cases hca:D.cache k with
  | none =>
   rw[hca] at hlk0;rw[hlk0] at hl0;simp only[Option.map_none,Option.getD_none,Option.isSome_none] at hl0;have HC:=zh hca;clear hlk0 hca
   go_wp2_with (first
    | ((with_reducible (refine zai ?_ TS ?_ _ (zfW _) ?_));rfl;rfl)
    | ((with_reducible (apply zch zbe zbe));rfl;rfl;rfl;rfl))
   go_ret;refine⟨rfl,HSM.out.alloc _,?_⟩
   have e:(D.rot (k:Int) (m:Int)).1={ D with dur:=za7 D.dur k (zsh.flip (D.dur k) m),cache:=za7 D.cache k none }:=by
    unfold zsh.rot;rw[if_pos ⟨HH.out,hm1,hm2⟩];simp only[Int.toNat_natCast,HC.out,Option.map_none]
   have hP:=HW'.out;rw[e,zfG HC.out] at hP;rw[e,zfG HC.out];have hS4:=HS.out.allocKeep (.cells (zdu zck) TS);refine zaI.2 ⟨.slice (some ⟨b,0,none⟩) D.n cap,cb,ab,es,ck,_,es2,ck2,_,⟨hP,HM.out,HK.out,HM2.out,HK2.out⟩,?_⟩;refine Sat.perm ((zbZ (by omega)).2 ⟨b,cap,_,⟨rfl,hcap,by rw[Array.size_setIfInBounds];exact hdc,?_⟩,hS4.perm (show _=pts b (.cells (dc.setIfInBounds (0+k*64+m / 8*1) (.int .u8 ((x ^^^ 1 <<< UInt8.ofNat (m%8):UInt8).toNat:Int))) TS (0,0))*(pts p (.cells #[.slice (some ⟨b,0,none⟩) D.n cap,.map (some cb),.map (some ab)] TD (0,0))*(pts cb (.map es ck)*(pts ab (.map es2 ck2)*F))) from by ac_rfl)⟩) (by ac_rfl)
   rw[show 0+k*64+m / 8*1=k*64+m / 8 by omega];exact zkI HD.out hdc hcap HW.out.dur hkn hm8 _ _ (by rw[zhf,HX.out];rfl)
  | some s =>
   rw[hca] at hlk0;rw[hlk0] at hl0;simp only[Option.map_some,Option.getD_some,Option.isSome_some] at hl0;have HC:=zh hca;have hsl:=(HW.out.cache k s hca).2;have HSL:=zh hsl;clear hlk0 hca
   go_wp2_with (first
    | ((with_reducible (refine zai ?_ TS ?_ _ (zfW _) ?_));rfl;rfl)
    | ((with_reducible (apply zch zbe hsl));rfl;rfl;rfl;rfl))
   obtain⟨y,hy⟩:∃ y,y=s.getD (m / 8) 0:=⟨_,rfl⟩;have HY:=zh hy;have hS2:=HS.out.alloc (.cells (zdu s) TS);have hsm2:=HSM.out.alloc (.cells (zdu s) TS);generalize w1.alloc (.cells (zdu s) TS)=w2 at hS2 hsm2 ⊢;generalize w1.heap.size=N at hS2 ⊢
   have hcell:w2.cell? ⟨N,0+m / 8*1,none⟩=some (.int .u8 (y.toNat:Int)):=by
    rw[zab hS2.block,hy,show 0+m / 8*1=m / 8 by omega];have:=zkn hsl hm8;rw[← zce] at this;simpa [zb4] using this
   have hfr:w2.frozen? ⟨N,0+m / 8*1,none⟩=false:=zaj hS2.block _;clear hy q0 q1 q2 hplt;have hS0:w2.drew.cell? ⟨N,0+m / 8*1,none⟩=some (.int .u8 (y.toNat:Int)):=hcell
   refine zah (fun w'=>w'.cell? ⟨N,0+m / 8*1,none⟩=some (.int .u8 (y.toNat:Int))) (by kernel_rfl) ?_
   (apply zaa 0 rfl rfl (by kernel_rfl) rfl);(intro w' hw';go_simp;rfl);exact hS0;simp only[zq]
   refine zaa 1 (v:=.int .i64 ((m / 8:Nat):Int)) rfl rfl (by kernel_rfl) rfl (fun w' _=>zau rfl rfl rfl rfl (zhb _ m 8 (by omega) (by decide) w')) hS0 ?_;simp only[zq]
   refine zaa 2 (v:=.pointer (some ⟨N,0+m / 8*1,none⟩)) rfl rfl (by kernel_rfl) rfl (fun _ _=>zcr rfl rfl rfl underlying153 hti5 hts5 hm8) hS0 ?_;simp only[zq];refine zaa 3 (v:=.int .u8 (y.toNat:Int)) rfl rfl (by kernel_rfl) rfl (fun _ h=>zbl rfl rfl underlying5 rfl h) hS0 ?_;simp only[zq];(apply zaa 4 rfl rfl (by kernel_rfl) rfl);(intro w' hw';go_simp;rfl);exact hS0;simp only[zq]
   refine zaa 5 (v:=.int .i64 ((m%8:Nat):Int)) rfl rfl (by kernel_rfl) rfl (fun w' _=>zau rfl rfl rfl rfl (zhc _ m 8 (by decide) w')) hS0 ?_;simp only[zq]
   refine zaa 6 (v:=.int .u8 ((1 <<< UInt8.ofNat (m%8):UInt8).toNat:Int)) rfl rfl (by kernel_rfl) rfl (fun w' _=>zau rfl rfl rfl rfl (zhV _ (m%8) (Nat.mod_lt _ (by decide)) w')) hS0 ?_;simp only[zq]
   refine zaa 7 (v:=.int .u8 ((y ^^^ 1 <<< UInt8.ofNat (m%8):UInt8).toNat:Int)) rfl rfl (by kernel_rfl) rfl (fun w' _=>zau rfl rfl rfl rfl (zhW _ y _ w')) hS0 ?_;simp only[zq];refine zaa 8 (v:=.pointer (some ⟨N,0+m / 8*1,none⟩)) rfl rfl (by kernel_rfl) rfl (fun _ _=>zcr rfl rfl rfl underlying153 hti5 hts5 hm8) hS0 ?_;simp only[zq];refine zat 9 (w2.drew.setCell ⟨N,0+m / 8*1,none⟩ (.int .u8 ((y ^^^ 1 <<< UInt8.ofNat (m%8):UInt8).toNat:Int))) rfl rfl (by kernel_rfl) rfl (zay rfl rfl rfl hti5 hts5 rfl hcell hfr) ?_
   have hS3:=hS2.drew.setCell (i:=0+m / 8*1) (.int .u8 ((y ^^^ 1 <<< UInt8.ofNat (m%8):UInt8).toNat:Int));have hsm3:=hsm2.drew.setCell ⟨N,0+m / 8*1,none⟩ (.int .u8 ((y ^^^ 1 <<< UInt8.ofNat (m%8):UInt8).toNat:Int));generalize w2.drew.setCell ⟨N,0+m / 8*1,none⟩ (.int .u8 ((y ^^^ 1 <<< UInt8.ofNat (m%8):UInt8).toNat:Int))=w3 at hS3 hsm3 ⊢
   have hfl:(zdu s).setIfInBounds (0+m / 8*1) (.int .u8 ((y ^^^ 1 <<< UInt8.ofNat (m%8):UInt8).toNat:Int))=zdu (zsh.flip s m):=by rw[znW,HY.out];rfl
   rw[hfl] at hS3;clear hfl hcell hfr hS0 hS2 hsm2
   have hfll:(zsh.flip s m).length=64:=by rw[zsh.flip_length];exact hsl
   have hrow:w3.rangeAt N 0 (zaY (zsh.flip s m)):=by
    intro j u hu;rw[zab hS3.block,Nat.zero_add,← hu,← zce];simp
   obtain⟨q0,q1,q2⟩:=zaZ hS3.right;have hScb:=hS3.right.perm (show _=pts cb (.map es ck)*(pts p (.cells #[.slice (some ⟨b,0,none⟩) D.n cap,.map (some cb),.map (some ab)] TD (0,0))*(pts b (.cells (dc.setIfInBounds (0+k*64+m / 8*1) (.int .u8 ((x ^^^ 1 <<< UInt8.ofNat (m%8):UInt8).toNat:Int))) TS (0,0))*(pts ab (.map es2 ck2)*F))) from by ac_rfl);obtain⟨es4,ck4,hup,hM4⟩:=zbt (P:=prog) (w:=w3.drew) underlying128 underlying3 hScb.drew.block HM.out (k:Int) (ziK (zsh.flip s m));have HM4:=zh hM4;have HS3:=zh hScb
   have HSM3:=zh hsm3;clear hM4 hScb hS3 hsm3;go_upto_region 7 with (fail)
   have hS0:w3.drew.cell? ⟨p,1,none⟩=some (.map (some cb))∧w3.drew.rangeAt N 0 (zaY (zsh.flip s m)):=⟨q1,hrow⟩
   refine zah (fun w'=>w'.cell? ⟨p,1,none⟩=some (.map (some cb))∧w'.rangeAt N 0 (zaY (zsh.flip s m))) (by kernel_rfl) ?_
   (apply zaa 0 rfl rfl (by kernel_rfl) rfl);(rintro w' ⟨h1,_⟩;go_simp;rfl);exact hS0;simp only[zq];(apply zaa 1 rfl rfl (by kernel_rfl) rfl);(rintro w' ⟨h1,_⟩;go_simp;rfl);exact hS0;simp only[zq];(apply zaa 2 rfl rfl (by kernel_rfl) rfl);(rintro w' ⟨h1,_⟩;go_simp;rfl);exact hS0;simp only[zq];(apply zaa 3 rfl rfl (by kernel_rfl) rfl);(rintro w' ⟨h1,_⟩;go_simp;rfl);exact hS0;simp only[zq];(apply zaa 4 rfl rfl (by kernel_rfl) rfl);(rintro w' ⟨h1,_⟩;go_simp;rfl);exact hS0;simp only[zq]
   refine zaa 5 (v:=ziK (zsh.flip s m)) rfl rfl (by kernel_rfl) rfl (fun w' h=>zbC rfl rfl (run_loadAt_mid w' N 0 TS (zaY (zsh.flip s m)) _ h.2 underlying153 rfl (by rw[zgP hfll,zcn,zao]))) hS0 ?_;simp only[zq]
   refine zat 6 (setBlock w3.drew cb (.map es4 ck4)) rfl rfl (by kernel_rfl) rfl (zdG rfl rfl rfl rfl hup) ?_;clear hup hrow hS0;go_wp2;go_ret;refine⟨rfl,(HSM3.out.drew).setBlock _,?_⟩
   have e:(D.rot (k:Int) (m:Int)).1={ D with dur:=za7 D.dur k (zsh.flip (D.dur k) m),cache:=za7 D.cache k (some (zsh.flip s m)) }:=by
    unfold zsh.rot;rw[if_pos ⟨HH.out,hm1,hm2⟩];simp only[Int.toNat_natCast,HC.out,Option.map_some]
   have hP:=HW'.out;rw[e] at hP ⊢;have hS4:=(HS3.out.drew).setBlock (o':=.map es4 ck4);refine zaI.2 ⟨.slice (some ⟨b,0,none⟩) D.n cap,cb,ab,es4,ck4,_,es2,ck2,_,⟨hP,HM4.out,HK.out.upd h2.1 _,HM2.out,HK2.out⟩,?_⟩;refine Sat.perm ((zbZ (by omega)).2 ⟨b,cap,_,⟨rfl,hcap,by rw[Array.size_setIfInBounds];exact hdc,?_⟩,hS4.perm (show _=pts b (.cells (dc.setIfInBounds (0+k*64+m / 8*1) (.int .u8 ((x ^^^ 1 <<< UInt8.ofNat (m%8):UInt8).toNat:Int))) TS (0,0))*(pts p (.cells #[.slice (some ⟨b,0,none⟩) D.n cap,.map (some cb),.map (some ab)] TD (0,0))*(pts cb (.map es4 ck4)*(pts ab (.map es2 ck2)*F))) from by ac_rfl)⟩) (by ac_rfl)
   rw[show 0+k*64+m / 8*1=k*64+m / 8 by omega];exact zkI HD.out hdc hcap HW.out.dur hkn hm8 _ _ (by rw[zhf,HX.out];rfl)
theorem zh7 {D:zsh}(h:D.WF)(hn:D.n=0):D.cache=fun _=>none:=by
 funext i
 cases hc:D.cache i with
 | none=>rfl
 | some s=>have:=(h.cache i s hc).1;omega
theorem zqP {l:KV}(h:KvSec l fun _=>none):l=[]:=by
 cases l with
 | nil=>rfl
 | cons a t =>
  obtain⟨k,v⟩:=a;have:=h k;simp[lk] at this
theorem zmp {D:zsh}(h:D.WF)(hn:D.n=0):D.flush=D:=by
 have hc:=zh7 h hn;unfold zsh.flush;rw[← hc]
 have:(fun i=>D.content i)=D.dur:=by funext i;simp[zsh.content,hc]
 rw[this]
structure zpR (w0:World)(p:Nat)(D:zsh)(F:zsi)(r cb ck:Nat)(X:zsi)(wr:World):Prop where
 st:Same w0 wr∧Sat wr (pts r (.mapIter (some cb) ck #[] ck)*(pts cb (.map #[] ck)*X))
set_option linter.unusedSimpArgs false in
theorem zlI (p:Nat)(D:zsh)(F:zsi)(w:World)(hS:Sat w (zak TD TS p D*F))(hn:D.n=0):
  Calls prog 95 #[.pointer (some ⟨p,0,none⟩)] w fun e w'=>e = .returned (.tuple #[])∧Same w w'∧Sat w' (zak TD TS p D.flush*F):=by
 obtain⟨v,cb,ab,es,ck,l,es2,ck2,l2,⟨hwf,hM,hK,hM2,hK2⟩,hs⟩:=zaI.1 hS;rw[zmp hwf hn];have hc:=zh7 hwf hn;have hK':=hK;rw[hc] at hK';obtain rfl:=zqP hK'
 obtain rfl:es=#[]:=by have:=hM.size;simp at this;exact this
 obtain⟨q0,q1,q2⟩:=zaZ hs;have hcs:=hs.perm (show _=pts cb (.map #[] ck)*(pts p (.cells #[v,.map (some cb),.map (some ab)] TD (0,0))*(zcN TS D.n D.dur v*(pts ab (.map es2 ck2)*F))) from by ac_rfl);have hrg:=zeG (P:=prog) underlying128 hcs.block
 have hst:zpR w p D F w.heap.size cb ck (pts p (.cells #[v,.map (some cb),.map (some ab)] TD (0,0))*(zcN TS D.n D.dur v*(pts ab (.map es2 ck2)*F))) (w.alloc (.mapIter (some cb) ck #[] ck)):=
  ⟨(Same.refl w).alloc _,hcs.alloc (.mapIter (some cb) ck #[] ck)⟩
 have HM:=zh hM;have HST:=zh hst
 have HB:=zh (fun w' (h:Sat w' (pts cb (.map #[] ck)*(pts p (.cells #[v,.map (some cb),.map (some ab)] TD (0,0))*(zcN TS D.n D.dur v*(pts ab (.map es2 ck2)*F))))) =>
  (zaI.2 ⟨v,cb,ab,#[],ck,[],es2,ck2,l2,⟨hwf,hM,hK,hM2,hK2⟩,h.perm (by ac_rfl)⟩:Sat w' (zak TD TS p D*F)))
 clear hst hM hK hK' hM2 hK2 hwf hs hcs hS hc;go_enter func95,ntmps95;go_wp2_with ((with_reducible (apply zeq (h:=hrg)));rfl;rfl;rfl);generalize w.heap.size=r at HST ⊢;clear hrg q0 q1 q2
 go_loopw [] (fun wr=>zpR w p D F r cb ck (pts p (.cells #[v,.map (some cb),.map (some ab)] TD (0,0))*(zcN TS D.n D.dur v*(pts ab (.map es2 ck2)*F))) wr) (fun wr=>0)
 case atStart=>exact HST.out
 case round =>
  obtain⟨hsm,hsat⟩:=hrel.st;clear hrel;rcases zfs (P:=prog) hsat.block hsat.right.block HM.out with ⟨hall,W,hnx,hW⟩|⟨e,he,hes,w0,hw0,hnx⟩
  ·have hsW:Sat W (pts cb (.map #[] ck)*(pts p (.cells #[v,.map (some cb),.map (some ab)] TD (0,0))*(zcN TS D.n D.dur v*(pts ab (.map es2 ck2)*F)))):=by rcases hW with rfl|rfl <;> exact hsat.right
   have hsmW:Same w W:=by rcases hW with rfl|rfl;exact hsm;exact hsm.drew
   have hcl:=zeE (P:=prog) (w:=W) underlying128 hsW.block;obtain⟨q0,q1,q2⟩:=zaZ hsW.right;have hfin:=HB.out _ (hsW.setBlock (o':=.map #[] ck));have HF:=zh hfin;have HS:=zh hsmW;clear hfin hsW hsmW hsat hsm hW hall
   go_wp2_with (first
    | ((with_reducible (apply zcg (h:=hnx)));rfl;rfl;rfl)
    | ((with_reducible (apply zc8 (hrun:=hcl)));rfl;rfl;rfl))
   go_end0
   exact⟨rfl,HS.out.setBlock _,HF.out⟩
  ·simp at he
theorem zmZ (p:Nat)(D:zsh)(F:zsi)(w:World)(hS:Sat w (zak TD TS p D*F)):
  Calls prog 95 #[.pointer (some ⟨p,0,none⟩)] w fun e w'=>e = .returned (.tuple #[])∧Same w w'∧Sat w' (zak TD TS p D.flush*F):=by
 by_cases hn:D.n=0
 ·exact zlI p D F w hS hn
 ·exact zm0 p D F w hS (by omega)
theorem zqB (p:Nat)(D:zsh)(F:zsi)(i bit:Int)(w:World)(hS:Sat w (zak TD TS p D*F))(h:¬ (D.has i=true∧0≤bit∧bit<512)):
  Calls prog 101 #[.pointer (some ⟨p,0,none⟩),i,bit] w fun e w'=>e = .returned (.int .i64 1)∧Same w w'∧Sat w' (zak TD TS p D*F):=by
 obtain⟨v,cb,ab,es,ck,l,es2,ck2,l2,⟨hwf,hM,hK,hM2,hK2⟩,hs⟩:=zaI.1 hS;obtain⟨b,cap,rfl⟩:=zcu hs.right;obtain⟨q0,q1,q2⟩:=zaZ hs;have HS:=zh hS
 by_cases hh:D.has i=true
 ·have hd:(decide (0≤i)&&decide (i<(D.n:Int)))=true:=hh
  by_cases h0:0≤bit
  ·have hb1:decide (bit<0)=false:=decide_eq_false (by omega)
   have hb2:decide (512≤bit)=true:=decide_eq_true (by by_cases h5:512≤bit;exact h5;exact absurd ⟨hh,h0,by omega⟩ h);clear hS hs hM hK hM2 hK2 hwf h hh;go_enter func101,ntmps101;go_wp2_with (go_at_call 118;refine (zcc _ _ _ _ _ _ q0).mono ?_;rintro e w' ⟨rfl,rfl⟩);go_ret;exact⟨rfl,Same.refl w,HS.out⟩
  ·have hb1:decide (bit<0)=true:=decide_eq_true (by omega)
   clear hS hs hM hK hM2 hK2 hwf h hh;go_enter func101,ntmps101;go_wp2_with (go_at_call 118;refine (zcc _ _ _ _ _ _ q0).mono ?_;rintro e w' ⟨rfl,rfl⟩);go_ret;exact⟨rfl,Same.refl w,HS.out⟩
 ·have hd:(decide (0≤i)&&decide (i<(D.n:Int)))=false:=by simpa [zsh.has] using hh
  clear hS hs hM hK hM2 hK2 hwf h hh;go_enter func101,ntmps101;go_wp2_with (go_at_call 118;refine (zcc _ _ _ _ _ _ q0).mono ?_;rintro e w' ⟨rfl,rfl⟩);go_ret;exact⟨rfl,Same.refl w,HS.out⟩
theorem zqz (p:Nat)(D:zsh)(F:zsi)(i bit:Int)(w:World)(hS:Sat w (zak TD TS p D*F)):
  Calls prog 101 #[.pointer (some ⟨p,0,none⟩),i,bit] w fun e w'=>e = .returned (.int .i64 (D.rot i bit).2)∧Same w w'∧Sat w' (zak TD TS p (D.rot i bit).1*F):=by
 by_cases h:D.has i=true∧0≤bit∧bit<512
 ·have h2:=zsh.has_iff.1 h.1
  obtain⟨k,rfl⟩:=Int.eq_ofNat_of_zero_le h2.1;obtain⟨m,rfl⟩:=Int.eq_ofNat_of_zero_le h.2.1
  have hr:(D.rot (k:Int) (m:Int)).2=0:=by unfold zsh.rot;rw[if_pos h]
  rw[hr];exact zqA p D F k m w hS (by omega) h.1
 ·have hr:D.rot i bit=(D,1):=by unfold zsh.rot;rw[if_neg h]
  rw[hr];exact zqB p D F i bit w hS h
end Go.Proofs.YtmcclbiaoeilkaaGreat
end
