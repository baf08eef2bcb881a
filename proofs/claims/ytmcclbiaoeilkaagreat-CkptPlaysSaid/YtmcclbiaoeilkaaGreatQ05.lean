import Derived.Deep.Cut
import Derived.Deep.LoopGhost
import Derived.Test.YtmcclbiaoeilkaaGreatQ04
set_option maxHeartbeats 2000000
/- Part 5 of a proof;the last part says what is proved. -/
section
namespace Go.Proofs.YtmcclbiaoeilkaaGreat
open Go.Proofs.Tryz Go.RowKit Go.Sl Go.ChangeMaps
theorem zm7:(prog.info? 5).map (·.size)=some 1:=by kernel_rfl
theorem zpk (D:zsh)(w w1:World)(v:Value)(X:zsi)(hX:Sat w X)(hb:Below w.heap.size w w1)(hrow:w1.ownsRow w.heap.size 3 1 v D.pending.length ((D.pending.map Int.ofNat).map (Value.int .i64))):
  ∃ (R:zsi) (ao:Option Addr) (pc:Nat),v = .slice ao D.pending.length pc∧Sat w1 (R*X)∧∀ (w':World) (Y:zsi) (j i:Nat),Sat w' (R*Y)→D.pending[j]?=some i→∃ g,ao=some ⟨g,0,none⟩∧w'.cell? ⟨g,j,none⟩=some (.int .i64 (i:Int)):=by
 obtain⟨hlen,hc⟩:=hrow;rcases hc with ⟨rfl,h0⟩|⟨g,cap,cur,rfl,hg,hgb,h1,h2,h3,h4⟩
 ·refine⟨emp,none,0,by rw[h0],by rw[zaL];exact hX.below hb,fun w' Y j i _ hj=>?_⟩
  have:=(List.getElem?_eq_some_iff.1 hj).1;omega
 ·refine⟨pts g (.cells cur 3 (0,0)),some ⟨g,0,none⟩,cap,rfl,hX.growAt hb.block hg hgb,fun w' Y j i hS hj=>⟨g,rfl,?_⟩⟩
  rw[zab hS.block];have hjl:=(List.getElem?_eq_some_iff.1 hj).1
  have h5:(cur.toList.take (D.pending.length*1))[j]?=some (.int .i64 (i:Int)):=by
   rw[h4,List.getElem?_map,List.getElem?_map,hj];rfl
  rw[List.getElem?_take,if_pos (by omega),Array.getElem?_toList] at h5;exact h5
structure zrx (w:World)(R F:zsi)(p:Nat)(D:zsh)(picks:List Int)(i:Value)(wr:World):Prop where
 st:∃ k:Nat,k≤D.pending.length∧i = .int .i64 k∧Same w wr∧Sat wr (R*(zak TD TS p (zsh.cutN D picks k)*F))
theorem zmP {p:Nat}{C C':zsh}{X F:zsi}{wr:World}{b cap cb ab:Nat}{es:Array MapEntry}{ck:Nat}{l:KV}{es2:Array MapEntry}{ck2:Nat}{l2:KV}{dc:Array Value}(hn:0<C.n)(hn':C'.n=C.n)(ha:C'.armed=C.armed)(hcap:C.n≤cap)(hdc:dc.size=cap*64)
  (h1:C'.WF) (h2:zlp C.n C'.dur dc) (h3:MapL es ck l) (h4:KvSec l C'.cache) (h5:MapL es2 ck2 l2) (h6:KvInt l2 C.armed)
  (h:Sat wr (pts cb (.map es ck)*(pts p (.cells #[.slice (some ⟨b,0,none⟩) C.n cap,.map (some cb),.map (some ab)] TD (0,0))*(pts b (.cells dc TS (0,0))*(pts ab (.map es2 ck2)*(X*F)))))):
  Sat wr (X*(zak TD TS p C'*F)):=by
 have h7:Sat wr (zak TD TS p C'*(X*F)):=by
  rw[← hn'] at h hn hcap h2;rw[← ha] at h6;refine zaI.2 ⟨.slice (some ⟨b,0,none⟩) C'.n cap,cb,ab,es,ck,l,es2,ck2,l2,⟨h1,h3,h4,h5,h6⟩,?_⟩;exact Sat.perm ((zbZ hn).2 ⟨b,cap,dc,⟨rfl,hcap,hdc,h2⟩,h.perm (show _=pts b (.cells dc TS (0,0))*(pts p (.cells #[.slice (some ⟨b,0,none⟩) C'.n cap,.map (some cb),.map (some ab)] TD (0,0))*(pts cb (.map es ck)*(pts ab (.map es2 ck2)*(X*F)))) from by ac_rfl)⟩) (by ac_rfl)
 exact h7.perm (by ac_rfl)
theorem zob (a b:List UInt8):zsh.torn a b 0=b:=by
 have h:zsh.clamp 0=0:=by decide
 unfold zsh.torn;rw[h];simp
set_option linter.unusedSimpArgs false in
theorem zmO (p:Nat)(D:zsh)(F:zsi)(pv:Value)(picks:List Int)(w:World)(hS:Sat w (zak TD TS p D*F))(hpk:∀ w',Sat w' F→IntsAt w' pv picks):
  Calls prog 97 #[.pointer (some ⟨p,0,none⟩),pv] w fun e w'=>e = .returned (.tuple #[])∧Same w w'∧Sat w' (zak TD TS p (D.cut picks)*F):=by
 obtain⟨pao,pcap,rfl,hpc⟩:=hpk w hS.right;have hwf:=zgJ hS;have hpend:=zgZ p D F w hS;obtain⟨ti,hti,hz0,hts,hz2⟩:=info_parts zf3;obtain⟨ti3,hti3,hz03,hts3,hz23⟩:=info_parts (show (prog.info? 3).map (fun i=>(i.zero,i.size,i.bytes))=some (some (.int .i64 0),1,8) from by kernel_rfl);clear hz0 hz2 hz03 hz23;have HS:=zh hS;have HW:=zh hwf;have HPK:=zh hpk;have hplen:(picks.length:Int)≤9223372036854775807∨True:=.inr trivial;clear hS hwf hpk hpc hplen;go_enter func97,ntmps97
 have hlenP:D.pending.length≤65536:=by
  have h1:D.pending.length≤D.n:=by unfold zsh.pending;have:=List.length_filter_le (fun i=>(D.cache i).isSome) (List.range D.n);simpa using this
  exact Nat.le_trans h1 HW.out.small
 have hpend2:Calls prog 96 #[.pointer (some ⟨p,0,none⟩)] w fun e w1=>∃ (R:zsi) (ao:Option Addr) (pc:Nat),e = .returned (.slice ao D.pending.length pc)∧Hid (Same w w1∧Sat w1 (R*(zak TD TS p D*F))∧∀ (w':World) (Y:zsi) (j i:Nat),Sat w' (R*Y)→D.pending[j]?=some i→∃ g,ao=some ⟨g,0,none⟩∧w'.cell? ⟨g,j,none⟩=some (.int .i64 (i:Int))):=by
  refine hpend.mono ?_;rintro e w1 ⟨v,rfl,hb,hrow,_⟩;obtain⟨R,ao,pc,rfl,hS1,hR⟩:=zpk D w w1 v _ HS.out hb hrow;exact⟨R,ao,pc,rfl,zh ⟨(Same.refl w).below hb,hS1,hR⟩⟩
 clear hpend;go_wp2_with (go_at_call 96;refine hpend2.mono ?_;rintro e w1 ⟨R,ao,pc,rfl,H1⟩)
 go_loopw [10] (fun i wr=>zrx w R F p D picks i wr) (fun i _=>D.pending.length - (intOf i).toNat)
 case atStart=>exact⟨⟨0,Nat.zero_le _,rfl,H1.out.1,H1.out.2.1⟩⟩
 case round =>
  obtain⟨k,hk,rfl,hsm,hsat⟩:=hrel.st;clear hrel
  by_cases hlt:k<D.pending.length
  ·have hki:(k:Int)≤65536:=by omega
   have hltd:decide ((k:Int)<(D.pending.length:Int))=true:=decide_eq_true (by omega);obtain⟨i,hi⟩:∃ i,D.pending[k]?=some i:=⟨_,List.getElem?_eq_getElem hlt⟩;obtain⟨g,rfl,hcell⟩:=H1.out.2.2 wr _ k i hsat hi;have hwk:(zsh.cutN D picks k).WF:=HW.out.cutN picks k;obtain⟨e1,e2,e3,e4⟩:=zsh.cutN_spec D picks k hk;have him:i ∈ D.pending:=List.mem_of_getElem? hi
   have hnot:i ∉ D.pending.take k:=by
    intro hm;obtain⟨j,hj⟩:=List.mem_iff_getElem?.1 hm;rw[List.getElem?_take] at hj;split at hj
    ·have r1:=zsh.rank_pending D hj
     have r2:=zsh.rank_pending D hi;omega
    ·cases hj
   obtain⟨hin,his⟩:i<D.n∧(D.cache i).isSome=true:=by
    unfold zsh.pending at him;rw[List.mem_filter,List.mem_range] at him;exact him
   obtain⟨s,hs⟩:=Option.isSome_iff_exists.1 his
   have hca:(zsh.cutN D picks k).cache i=some s:=by rw[e3,if_neg hnot,hs]
   have hstep:zsh.cutN D picks (k+1)={ zsh.cutN D picks k with dur:=za7 (zsh.cutN D picks k).dur i (zsh.torn s ((zsh.cutN D picks k).dur i) (picks.getD k 0)),cache:=za7 (zsh.cutN D picks k).cache i none }:=by
    show zsh.cutStep (zsh.cutN D picks k) (D.pending.getD k 0) (picks.getD k 0)=_;rw[show D.pending.getD k 0=i by rw[List.getD_eq_getElem?_getD,hi];rfl];unfold zsh.cutStep;rw[hca]
   have hwk1:(zsh.cutN D picks (k+1)).WF:=HW.out.cutN picks (k+1);rw[hstep] at hwk1;generalize hC:zsh.cutN D picks k=C at hsat hwk e1 e2 e3 e4 hca hstep hwk1
   have hn:0<D.n:=by omega
   rw[← e1] at hn hin;have hsd:=hsat.perm (show _=zak TD TS p C*(R*F) from by ac_rfl);obtain⟨v,cb,ab,es,ck,l,es2,ck2,l2,⟨hwf,hM,hK,hM2,hK2⟩,hsd⟩:=zaI.1 hsd;have hsl:=(hwf.cache i s hca).2;have hsb:=hsd.perm (show _=zcN TS C.n C.dur v*(pts p (.cells #[v,.map (some cb),.map (some ab)] TD (0,0))*(pts cb (.map es ck)*(pts ab (.map es2 ck2)*(R*F)))) from by ac_rfl);obtain⟨b,cap,dc,⟨rfl,hcap,hdc,hD⟩,hsb⟩:=(zbZ hn).1 hsb;obtain⟨q0,q1,q2⟩:=zaZ hsd;have hlkk:=hK (i:Int);rw[if_pos (by omega),Int.toNat_natCast,hca] at hlkk
   have hl0:=zdb (P:=prog) (w:=wr) underlying128 underlying3 (zfW wr) (hsb.right.right).block hM (i:Int);rw[hlkk] at hl0;simp only[Option.map_some,Option.getD_some] at hl0;obtain⟨pao',pcap',hpe,hpcs⟩:=HPK.out wr hsat.right.right
   injection hpe with hp1 hp2 hp3
   subst hp1 hp3;have HD:=zh hD;have HM:=zh hM;have HK:=zh hK;have HM2:=zh hM2;have HK2:=zh hK2;have HWF:=zh hwf;have HW1:=zh hwk1;have HSTEP:=zh hstep;have HSM:=zh hsm;have HSB:=zh hsb;have HCS:=zh hpcs;have HSL:=zh hsl;have HI:=zh (show i<C.n∧0<C.n∧k<D.pending.length from⟨hin,hn,hlt⟩);have HCC:=zh hC;clear hC hD hM hK hM2 hK2 hwf hwk hwk1 hstep hsm hsat hsd hsb hpcs hlkk hca hs his him hnot e1 e2 e3 e4 hi
   by_cases hpk:k<picks.length
   ·have hpd:decide ((k:Int)<(picks.length:Int))=true:=decide_eq_true (by omega)
    obtain⟨x,hx⟩:∃ x,picks[k]?=some x:=⟨_,List.getElem?_eq_getElem hpk⟩;obtain⟨pb,poff,rfl,hpx⟩:=HCS.out (by rintro rfl;simp at hpk);have hpcell:=hpx k x hx;have hc:=zsh.clamp_le x
    have hgd:picks.getD k 0=x:=by rw[List.getD_eq_getElem?_getD,hx];rfl
    have hplt:=HSB.out.right.lt;have hpblt:=World.block_lt_of_cell? _ _ hpcell;clear hpx hx
    go_wp2_with (first
     | ((with_reducible (apply zga (h:=hl0)));rfl;rfl;rfl;rfl)
     | ((with_reducible (refine zai ?_ TS ?_ _ (zfW _) ?_));rfl;rfl)
     | ((with_reducible (apply zch zbe hsl));rfl;rfl;rfl;rfl))
    clear hl0;have hs2:=HSB.out.alloc (.cells (zdu s) TS);have hsm2:=HSM.out.alloc (.cells (zdu s) TS)
    have hpc2:(wr.alloc (.cells (zdu s) TS)).cell? ⟨pb,poff+k*1,none⟩=some (.int .i64 x):=by rw[World.cell?_alloc_lt _ _ _ hpblt];exact hpcell
    generalize wr.alloc (.cells (zdu s) TS)=w2 at hs2 hsm2 hpc2 ⊢;generalize wr.heap.size=N at hs2 ⊢
    have hrow:∀ j u,(zaY (s.take (zsh.clamp x)))[j]?=some u→w2.cell? ((⟨N,0,none⟩:Addr).add j)=some u:=by
     intro j u hu;rw[Addr.add_mid,zab hs2.block,Nat.zero_add];unfold zaY at hu;rw[List.map_take,List.getElem?_take] at hu;split at hu
     ·rw[← hu];simp[zdu,zaY]
     ·cases hu
    have hsb:=hs2.right;obtain⟨q0,q1,q2⟩:=zaZ (hsb.perm (show _=pts p (.cells #[.slice (some ⟨b,0,none⟩) C.n cap,.map (some cb),.map (some ab)] TD (0,0))*(pts b (.cells dc TS (0,0))*(pts cb (.map es ck)*(pts ab (.map es2 ck2)*(R*F)))) from by ac_rfl))
    have hth:w2.drew.there b (0+i*64) (zsh.clamp x):=fun j hj=>zhH hsb.drew.block hdc hcap hin j (by omega)
    have hvl:(zaY (s.take (zsh.clamp x))).length=zsh.clamp x:=by rw[zao,List.length_take,hsl];omega
    have hcl:((zsh.clamp x:Nat):Int)=min (max x 0) 64:=by unfold zsh.clamp;omega
    have hS0:w2.drew.cell? ⟨p,0,none⟩=some (.slice (some ⟨b,0,none⟩) C.n cap)∧w2.drew.cell? ⟨pb,poff+k*1,none⟩=some (.int .i64 x):=⟨q0,hpc2⟩
    refine zah (fun w'=>w'.cell? ⟨p,0,none⟩=some (.slice (some ⟨b,0,none⟩) C.n cap)∧w'.cell? ⟨pb,poff+k*1,none⟩=some (.int .i64 x)) (by kernel_rfl) ?_
    (apply zaa 0 rfl rfl (by kernel_rfl) rfl);(rintro w' ⟨h1,_⟩;go_simp;rfl);exact hS0;simp only[zq];(apply zaa 1 rfl rfl (by kernel_rfl) rfl);(rintro w' ⟨h1,_⟩;go_simp;rfl);exact hS0;simp only[zq];(apply zaa 2 rfl rfl (by kernel_rfl) rfl);(rintro w' ⟨h1,_⟩;go_simp;rfl);exact hS0;simp only[zq];(apply zaa 3 rfl rfl (by kernel_rfl) rfl);(rintro w' ⟨h1,_⟩;go_simp;rfl);exact hS0;simp only[zq];(apply zaa 4 rfl rfl (by kernel_rfl) rfl);(rintro w' ⟨h1,_⟩;go_simp;rfl);exact hS0;simp only[zq];refine zaa 5 (v:=.pointer (some ⟨b,0+i*64,none⟩)) rfl rfl (by kernel_rfl) rfl (fun _ _=>zaw rfl rfl rfl underlying127 hti hts hin) hS0 ?_;simp only[zq]
    refine zaa 6 (v:=.slice (some ⟨b,0+i*64,none⟩) 64 64) rfl rfl (by kernel_rfl) rfl (fun _ _=>zhw rfl rfl underlying153 zm7) hS0 ?_;simp only[zq];(apply zaa 7 rfl rfl (by kernel_rfl) rfl);(rintro w' ⟨h1,_⟩;go_simp;rfl);exact hS0;simp only[zq];(apply zaa 8 rfl rfl (by kernel_rfl) rfl);(rintro w' ⟨h1,_⟩;go_simp;rfl);exact hS0;simp only[zq];refine zaa 9 (v:=.pointer (some ⟨pb,poff+k*1,none⟩)) rfl rfl (by kernel_rfl) rfl (fun _ _=>zaw rfl rfl rfl underlying38 hti3 hts3 hpk) hS0 ?_;simp only[zq];refine zaa 10 (v:=.int .i64 x) rfl rfl (by kernel_rfl) rfl (fun _ h=>zbl rfl rfl underlying3 rfl h.2) hS0 ?_;simp only[zq]
    refine zaV 11 (.int .i64 (max x 0)) (w2.drew) rfl rfl (by kernel_rfl) rfl (zoO rfl rfl rfl) (hS0) ?_;simp only[zq];refine zaV 12 (.int .i64 ((zsh.clamp x:Nat):Int)) (w2.drew) rfl rfl (by kernel_rfl) rfl (by rw[hcl];exact zoP rfl rfl rfl) (hS0) ?_;simp only[zq];refine zaa 13 (v:=.slice (some ⟨N,0,none⟩) (zsh.clamp x) 64) rfl rfl (by kernel_rfl) rfl (fun _ _=>zia rfl rfl rfl underlying153 zm7 hc) hS0 ?_;simp only[zq];refine zdB 14 (.int .i64 ((zsh.clamp x:Nat):Int)) (w2.drew.setCells b (0+i*64) (zaY (s.take (zsh.clamp x)))) rfl rfl (by kernel_rfl) rfl (zmV rfl rfl rfl underlying69 zm7 (by omega) hvl hrow hth ziu) ?_;simp only[zq]
    have hs3:=Sat.setCells (zaY (s.take (zsh.clamp x))) (o:=0+i*64) hsb.drew;have hsm3:=Same.setCells (b:=b) (zaY (s.take (zsh.clamp x))) (o:=0+i*64) hsm2.drew;generalize w2.drew.setCells b (0+i*64) (zaY (s.take (zsh.clamp x)))=w3 at hs3 hsm3 ⊢;clear hrow hth hsb hs2 hsm2 hS0 q0 q1 q2 hpc2 hpcell;have hscb:=hs3.perm (show _=pts cb (.map es ck)*(pts p (.cells #[.slice (some ⟨b,0,none⟩) C.n cap,.map (some cb),.map (some ab)] TD (0,0))*(pts b (.cells (zl2 dc (0+i*64) (zaY (s.take (zsh.clamp x)))) TS (0,0))*(pts ab (.map es2 ck2)*(R*F)))) from by ac_rfl)
    obtain⟨q0,q1,q2⟩:=zaZ hscb.right;obtain⟨es3,ck3,hrun,hM3⟩:=zeg (P:=prog) underlying128 underlying3 hscb.block HM.out (i:Int);have hs4:=hscb.setBlock (o':=.map es3 ck3);have hsm4:=hsm3.setBlock (r:=cb) (.map es3 ck3);have HS3:=zh hs4;have HSM3:=zh hsm4;have HM3:=zh hM3;have HGD:=zh hgd;clear hs3 hs4 hsm3 hsm4 hM3 hscb hgd hvl hcl hplt hpblt;go_wp2_with ((with_reducible (apply zbU (hrun:=hrun)));rfl;rfl;rfl;rfl)
    go_roundw
    case rel =>
     refine⟨⟨k+1,HI.out.2.2,rfl,HSM3.out,?_⟩⟩;rw[HSTEP.out];have hW1:=HW1.out;have hDT:=zmU HD.out hdc hcap HWF.out.dur HI.out.1 HSL.out hc;have h3:=HS3.out;rw[Nat.zero_add] at h3;rw[HGD.out] at hW1 ⊢;exact zmP HI.out.2.1 rfl rfl hcap (by rw[zg0];exact hdc) hW1 hDT HM3.out (HK.out.del HM.out.nodup (by omega)) HM2.out HK2.out h3
    case measure =>
     have:=HI.out.2.2;simp only[intOf];omega
   ·have hpd:decide ((k:Int)<(picks.length:Int))=false:=decide_eq_false (by omega)
    have hscb:=HSB.out.perm (show _=pts cb (.map es ck)*(pts p (.cells #[.slice (some ⟨b,0,none⟩) C.n cap,.map (some cb),.map (some ab)] TD (0,0))*(pts b (.cells dc TS (0,0))*(pts ab (.map es2 ck2)*(R*F)))) from by ac_rfl);obtain⟨es3,ck3,hrun,hM3⟩:=zeg (P:=prog) underlying128 underlying3 hscb.block HM.out (i:Int);have hs3:=hscb.setBlock (o':=.map es3 ck3);have hsm3:=HSM.out.setBlock (r:=cb) (.map es3 ck3);have HS3:=zh hs3;have HSM3:=zh hsm3;have HM3:=zh hM3;clear hs3 hsm3 hM3 hscb hl0;go_wp2_with ((with_reducible (apply zbU (hrun:=hrun)));rfl;rfl;rfl;rfl)
    go_roundw
    case rel =>
     refine⟨⟨k+1,HI.out.2.2,rfl,HSM3.out,?_⟩⟩;rw[HSTEP.out]
     have hp0:picks.getD k 0=0:=by rw[List.getD_eq_getElem?_getD,List.getElem?_eq_none (by omega)];rfl
     have hW1:=HW1.out;rw[hp0,zob,zfG rfl] at hW1 ⊢;exact zmP HI.out.2.1 rfl rfl hcap hdc hW1 HD.out HM3.out (HK.out.del HM.out.nodup (by omega)) HM2.out HK2.out HS3.out
    case measure =>
     have:=HI.out.2.2;simp only[intOf];omega
  ·have hke:k=D.pending.length:=by omega
   subst hke;have hsd:=hsat.perm (show _=zak TD TS p (zsh.cutN D picks D.pending.length)*(R*F) from by ac_rfl);obtain⟨v,cb,ab,es,ck,l,es2,ck2,l2,⟨hwf,hM,hK,hM2,hK2⟩,hs⟩:=zaI.1 hsd;obtain⟨q0,q1,q2⟩:=zaZ hs;have hab:=hs.perm (show _=pts ab (.map es2 ck2)*(pts p (.cells #[v,.map (some cb),.map (some ab)] TD (0,0))*(zcN TS (zsh.cutN D picks D.pending.length).n (zsh.cutN D picks D.pending.length).dur v*(pts cb (.map es ck)*(R*F)))) from by ac_rfl);have hcl:=zeE (P:=prog) (w:=wr) underlying90 hab.block
   have hfin:Sat (setBlock wr ab (.map #[] ck2)) (zak TD TS p (D.cut picks)*F):=by
    have h4:=hab.setBlock (o':=.map #[] ck2);rw[← zsh.cutN_all D HW.out picks]
    refine (zaI.2 ⟨v,cb,ab,es,ck,l,#[],ck2,[],⟨?_,hM,hK,MapL.empty ck2,KvInt.nil⟩,h4.perm (show _=pts p (.cells #[v,.map (some cb),.map (some ab)] TD (0,0))*(zcN TS (zsh.cutN D picks D.pending.length).n (zsh.cutN D picks D.pending.length).dur v*(pts cb (.map es ck)*(pts ab (.map #[] ck2)*(R*F)))) from by ac_rfl)⟩:Sat _ (zak TD TS p { zsh.cutN D picks D.pending.length with armed:=fun _=>none }*(R*F))).perm (show _=R*(zak TD TS p { zsh.cutN D picks D.pending.length with armed:=fun _=>none }*F) from by ac_rfl) |>.right
    rw[zsh.cutN_all D HW.out picks];exact HW.out.cut picks
   have HF:=zh hfin;have HSM:=zh hsm;clear hfin hab hs hsd hsat hsm hM hK hM2 hK2 hwf;have hge:decide ((D.pending.length:Int)<(D.pending.length:Int))=false:=decide_eq_false (by omega);go_wp2_with ((with_reducible (apply zc8 (hrun:=hcl)));rfl;rfl;rfl)
   go_end0
   exact⟨rfl,HSM.out.setBlock _,HF.out⟩
def zi5 (r n:Nat)(w:World):Nat:=match w.heap[r]? with|some (.mapIter _ _ seen _)=>n - seen.size|_=>0
structure zmt (w0:World)(p:Nat)(D:zsh)(F:zsi)(b cap cb ab r:Nat)(es:Array MapEntry)(ck:Nat)(es2:Array MapEntry)(ck2:Nat)(wr:World):Prop where
 st:∃ (seen:Array Nat) (dur:Nat→List UInt8) (dc:Array Value),Same w0 wr∧dc.size=cap*64∧zlp D.n dur dc∧(∀ i,i<D.n→(dur i).length=64)∧
  seen.toList.Nodup∧(∀ x ∈ seen.toList,∃ e ∈ es.toList,e.born=x)∧
  (∀ i,i<D.n→(dur i=D.dur i∨dur i=D.content i)∧((∃ e ∈ es.toList,e.key = .int .i64 (i:Int)∧e.born ∈ seen.toList)→dur i=D.content i))∧
  Sat wr (pts r (.mapIter (some cb) ck seen ck)*(pts cb (.map es ck)*(pts p (.cells #[.slice (some ⟨b,0,none⟩) D.n cap,.map (some cb),.map (some ab)] TD (0,0))*(pts b (.cells dc TS (0,0))*(pts ab (.map es2 ck2)*F)))))
theorem zo2 {es:Array MapEntry}{ck:Nat}{l:KV}(hM:MapL es ck l){e:MapEntry}(he:e ∈ es.toList):∃ k:Int,e.key = .int .i64 k∧lk l k=some e.val:=by
 have key:∀ (L:List MapEntry) (l:KV),L.map (fun e=>(e.key,e.val))=l.map (fun p=>(Value.int .i64 p.1,p.2))→(l.map (·.1)).Nodup→e ∈ L→∃ k:Int,e.key = .int .i64 k∧lk l k=some e.val:=by
  intro L
  induction L with
  | nil=>intro l _ _ h;simp at h
  | cons a t ih =>
   intro l h hn hin
   cases l with
   | nil=>simp at h
   | cons q r =>
    obtain⟨k,v⟩:=q;simp only[List.map_cons,List.cons.injEq,Prod.mk.injEq] at h;simp only[List.map_cons,List.nodup_cons] at hn;rcases List.mem_cons.1 hin with rfl|hin
    ·exact⟨k,h.1.1,by unfold lk;rw[if_pos rfl,h.1.2]⟩
    ·obtain⟨k',h1,h2⟩:=ih r h.2 hn.2 hin
     refine⟨k',h1,?_⟩;unfold lk;rw[if_neg,h2];rintro rfl;exact hn.1 (zi9 h2)
 exact key _ l hM.ent hM.nodup he
theorem zjX {es:Array MapEntry}{ck:Nat}{l:KV}(hM:MapL es ck l){k:Int}{v:Value}(h:lk l k=some v):∃ e ∈ es.toList,e.key = .int .i64 k∧e.val=v:=by
 have key:∀ (L:List MapEntry) (l:KV),L.map (fun e=>(e.key,e.val))=l.map (fun p=>(Value.int .i64 p.1,p.2))→lk l k=some v→∃ e ∈ L,e.key = .int .i64 k∧e.val=v:=by
  intro L
  induction L with
  | nil=>intro l h h2;cases l with
   | nil=>cases h2
   | cons q r=>simp at h
  | cons a t ih =>
   intro l h h2
   cases l with
   | nil=>cases h2
   | cons q r =>
    obtain⟨k',v'⟩:=q;simp only[List.map_cons,List.cons.injEq,Prod.mk.injEq] at h;unfold lk at h2
    by_cases hk:k=k'
    ·rw[if_pos hk] at h2
     cases h2;exact⟨a,by simp,by rw[hk];exact h.1.1,h.1.2⟩
    ·rw[if_neg hk] at h2
     obtain⟨e,h3,h4⟩:=ih r h.2 h2;exact⟨e,by simp[h3],h4⟩
 exact key _ l hM.ent h
theorem zoB {es:Array MapEntry}{ck:Nat}{l:KV}(hM:MapL es ck l){e e':MapEntry}(he:e ∈ es.toList)(he':e' ∈ es.toList)(h:e.born=e'.born):e=e':=by
 have key:∀ (L:List MapEntry),(L.map (·.born)).Nodup→e ∈ L→e' ∈ L→e=e':=by
  intro L
  induction L with
  | nil=>intro _ h;simp at h
  | cons a t ih =>
   intro hn h1 h2;simp only[List.map_cons,List.nodup_cons] at hn;rcases List.mem_cons.1 h1 with g1|g1
   ·rcases List.mem_cons.1 h2 with g2|g2
    ·rw[g1,g2]
    ·exact absurd (by rw[← g1,h];exact List.mem_map_of_mem g2) hn.1
   ·rcases List.mem_cons.1 h2 with g2|g2
    ·exact absurd (by rw[← g2,← h];exact List.mem_map_of_mem g1) hn.1
    ·exact ih hn.2 g1 g2
 exact key _ hM.born he he'
theorem zkR {α:Type}[DecidableEq α]:∀ (a b:List α),a.Nodup→a ⊆ b→a.length≤b.length
 | [],_,_,_=>by simp
 | x::t,b,hn,hs=>by
  rw[List.nodup_cons] at hn;have hx:x ∈ b:=hs (by simp)
  have ht:t ⊆ b.erase x:=by
   intro y hy
   have:y≠x:=by rintro rfl;exact hn.1 hy
   exact (List.mem_erase_of_ne this).2 (hs (by simp[hy]))
  have h1:=zkR t _ hn.2 ht;rw[List.length_erase_of_mem hx] at h1;have:0<b.length:=List.length_pos_of_mem hx;simp only[List.length_cons];omega
theorem zqH {es:Array MapEntry}{seen:Array Nat}(hn:seen.toList.Nodup)(hin:∀ x ∈ seen.toList,∃ e ∈ es.toList,e.born=x){e:MapEntry}(he:e ∈ es.toList)(hes:e.born ∉ seen.toList):seen.size<es.size:=by
 have h1:(e.born::seen.toList).Nodup:=List.nodup_cons.2 ⟨hes,hn⟩
 have h2:(e.born::seen.toList) ⊆ es.toList.map (·.born):=by
  intro x hx;rcases List.mem_cons.1 hx with rfl|hx
  ·exact List.mem_map_of_mem he
  ·obtain⟨e',he',rfl⟩:=hin x hx;exact List.mem_map_of_mem he'
 have h3:=zkR _ _ h1 h2;simp at h3;omega
set_option linter.unusedSimpArgs false in
theorem zm0 (p:Nat)(D:zsh)(F:zsi)(w:World)(hS:Sat w (zak TD TS p D*F))(hn:0<D.n):
  Calls prog 95 #[.pointer (some ⟨p,0,none⟩)] w fun e w'=>e = .returned (.tuple #[])∧Same w w'∧Sat w' (zak TD TS p D.flush*F):=by
 obtain⟨v,cb,ab,es,ck,l,es2,ck2,l2,⟨hwf,hM,hK,hM2,hK2⟩,hs⟩:=zaI.1 hS;have hsd:=hs.perm (show _=zcN TS D.n D.dur v*(pts p (.cells #[v,.map (some cb),.map (some ab)] TD (0,0))*(pts cb (.map es ck)*(pts ab (.map es2 ck2)*F))) from by ac_rfl);obtain⟨b,cap,dc,⟨rfl,hcap,hdc,hD⟩,hsb⟩:=(zbZ hn).1 hsd;obtain⟨q0,q1,q2⟩:=zaZ hs;obtain⟨ti,hti,hz0,hts,hz2⟩:=info_parts zf3;clear hz0 hz2;have hcb:w.heap[cb]?=some (.map es ck):=(hsb.right.right).block;have hrg:=zeG (P:=prog) underlying128 hcb
 have hst:zmt w p D F b cap cb ab w.heap.size es ck es2 ck2 (w.alloc (.mapIter (some cb) ck #[] ck)):=
  ⟨#[],D.dur,dc,(Same.refl w).alloc _,hdc,hD,hwf.dur,by simp,by simp,fun i _=>⟨.inl rfl,by rintro⟨e,_,_,h⟩;simp at h⟩,((hsb.alloc (.mapIter (some cb) ck #[] ck)).perm (by ac_rfl))⟩
 have HM:=zh hM;have HK:=zh hK;have HM2:=zh hM2;have HK2:=zh hK2;have HW:=zh hwf;have HST:=zh hst;clear hst hM hK hM2 hK2 hwf hs hsd hsb hS hD hdc hcb;go_enter func95,ntmps95;go_wp2_with ((with_reducible (apply zeq (h:=hrg)));rfl;rfl;rfl);generalize w.heap.size=r at HST ⊢;clear hrg q0 q1 q2
 go_loopw [] (fun wr=>zmt w p D F b cap cb ab r es ck es2 ck2 wr) (fun wr=>zi5 r es.size wr)
 case atStart=>exact HST.out
 case round =>
  obtain⟨seen,dur,dc1,hsm,hdc,hD,hdl,hnd,hin,hdur,hsat⟩:=hrel.st;clear hrel;have hr:wr.heap[r]?=some (.mapIter (some cb) ck seen ck):=hsat.block;have hcb:wr.heap[cb]?=some (.map es ck):=hsat.right.block
  have hml:zi5 r es.size wr=es.size - seen.size:=by unfold zi5;rw[hr]
  rcases zfs (P:=prog) hr hcb HM.out with ⟨hall,W,hnx,hW⟩|⟨e,he,hes,w0,hw0,hnx⟩
  ·have hsW:Sat W (pts cb (.map es ck)*(pts p (.cells #[.slice (some ⟨b,0,none⟩) D.n cap,.map (some cb),.map (some ab)] TD (0,0))*(pts b (.cells dc1 TS (0,0))*(pts ab (.map es2 ck2)*F)))):=by rcases hW with rfl|rfl <;> exact hsat.right
   have hsmW:Same w W:=by rcases hW with rfl|rfl;exact hsm;exact hsm.drew
   have hcl:=zeE (P:=prog) (w:=W) underlying128 hsW.block;obtain⟨q0,q1,q2⟩:=zaZ hsW.right;have hfl:D.flush.WF:=HW.out.flush
   have hfin:Sat (setBlock W cb (.map #[] ck)) (zak TD TS p D.flush*F):=by
    have h4:=hsW.setBlock (o':=.map #[] ck);refine zaI.2 ⟨.slice (some ⟨b,0,none⟩) D.n cap,cb,ab,#[],ck,[],es2,ck2,_,⟨hfl,MapL.empty ck,KvSec.nil,HM2.out,HK2.out⟩,?_⟩;refine Sat.perm ((zbZ hn).2 ⟨b,cap,dc1,⟨rfl,hcap,hdc,?_⟩,h4.perm (show _=pts b (.cells dc1 TS (0,0))*(pts p (.cells #[.slice (some ⟨b,0,none⟩) D.n cap,.map (some cb),.map (some ab)] TD (0,0))*(pts cb (.map #[] ck)*(pts ab (.map es2 ck2)*F))) from by ac_rfl)⟩) (by ac_rfl);intro i hi j u hu;refine hD i hi j u ?_
    have hc:dur i=D.content i:=by
     rcases hdur i hi with ⟨h1|h1,h2⟩
     ·cases hca:D.cache i with
      | none=>rw[h1];simp[zsh.content,hca]
      | some s =>
       have hlk:=HK.out (i:Int);rw[if_pos (by omega),Int.toNat_natCast,hca,Option.map_some] at hlk;obtain⟨e,he,hk,_⟩:=zjX HM.out hlk;exact h2 ⟨e,he,hk,hall e he⟩
     ·exact h1
    rw[hc];exact hu
   have HF:=zh hfin;have HS:=zh hsmW;clear hfin hsW hsmW hfl hsat hsm hW hall hdur hin hnd hdl hD hdc hr hcb hml
   go_wp2_with (first
    | ((with_reducible (apply zcg (h:=hnx)));rfl;rfl;rfl)
    | ((with_reducible (apply zc8 (hrun:=hcl)));rfl;rfl;rfl))
   go_end0
   exact⟨rfl,HS.out.setBlock _,HF.out⟩
  ·obtain⟨ki,hkey,hlk⟩:=zo2 HM.out he
   have hkk:=HK.out ki;rw[hlk] at hkk
   have hk0:0≤ki:=by
    by_cases h:0≤ki
    ·exact h
    ·rw[if_neg h] at hkk;cases hkk
   rw[if_pos hk0] at hkk;obtain⟨k,rfl⟩:=Int.eq_ofNat_of_zero_le hk0;rw[Int.toNat_natCast] at hkk
   cases hca:D.cache k with
   | none=>rw[hca] at hkk;cases hkk
   | some s =>
    rw[hca,Option.map_some,Option.some.injEq] at hkk;obtain⟨hkn,hsl⟩:=HW.out.cache k s hca;rw[hkey,hkk] at hnx
    have hs0:Sat w0 (pts r (.mapIter (some cb) ck seen ck)*(pts cb (.map es ck)*(pts p (.cells #[.slice (some ⟨b,0,none⟩) D.n cap,.map (some cb),.map (some ab)] TD (0,0))*(pts b (.cells dc1 TS (0,0))*(pts ab (.map es2 ck2)*F))))):=by rcases hw0 with rfl|rfl <;> exact hsat
    have hsm0:Same w w0:=by rcases hw0 with rfl|rfl;exact hsm;exact hsm.drew
    have hs1:=hs0.setBlock (o':=.mapIter (some cb) ck (seen.push e.born) ck);have hsm1:=hsm0.setBlock (r:=r) (.mapIter (some cb) ck (seen.push e.born) ck);have hen:=zgk (P:=prog) hs1.block hs1.right.block HM.out he (by simp);rw[hkey,hkk] at hen;generalize setBlock w0 r (.mapIter (some cb) ck (seen.push e.born) ck)=W1 at hnx hen hs1 hsm1;have HCA:=zh hca;have HDUR:=zh hdur;have HND:=zh hnd;have HIN:=zh hin;have HDL:=zh hdl;have HE:=zh (show e ∈ es.toList∧e.born ∉ seen.toList∧e.key = .int .i64 (k:Int) from⟨he,hes,hkey⟩)
    have HML:=zh hml;have HDD:=zh hD;clear hca hdur hnd hin hdl he hes hkey hml hD hkk hlk hs0 hsm0 hw0 hsat hsm hr hcb hk0
    go_wp2_with (first
     | ((with_reducible (apply zcg (h:=hnx)));rfl;rfl;rfl)
     | ((with_reducible (apply zep (h:=hen)));rfl;rfl;rfl)
     | ((with_reducible (refine zai ?_ TS ?_ _ (zfW _) ?_));rfl;rfl)
     | ((with_reducible (apply zch zbe hsl));rfl;rfl;rfl;rfl))
    clear hnx hen;have hs2:=hs1.alloc (.cells (zdu s) TS);have hsm2:=hsm1.alloc (.cells (zdu s) TS);generalize W1.alloc (.cells (zdu s) TS)=W2 at hs2 hsm2 ⊢;generalize W1.heap.size=N at hs2 ⊢;clear hs1 hsm1
    have hrow:W2.rangeAt N 0 (zaY s):=by
     intro j u hu;rw[zab hs2.block,Nat.zero_add,← hu,← zce];simp
    obtain⟨q0,q1,q2⟩:=zaZ hs2.right.right.right;have hsb:=hs2.right.perm (show _=pts b (.cells dc1 TS (0,0))*(pts r (.mapIter (some cb) ck (seen.push e.born) ck)*(pts cb (.map es ck)*(pts p (.cells #[.slice (some ⟨b,0,none⟩) D.n cap,.map (some cb),.map (some ab)] TD (0,0))*(pts ab (.map es2 ck2)*F)))) from by ac_rfl)
    have hth:W2.drew.there b (0+k*64) (zdu s).size:=by rw[zcn,hsl];exact zhH hsb.drew.block hdc hcap hkn
    have hS0:W2.drew.cell? ⟨p,0,none⟩=some (.slice (some ⟨b,0,none⟩) D.n cap)∧W2.drew.rangeAt N 0 (zaY s):=⟨q0,hrow⟩
    refine zah (fun w'=>w'.cell? ⟨p,0,none⟩=some (.slice (some ⟨b,0,none⟩) D.n cap)∧w'.rangeAt N 0 (zaY s)) (by kernel_rfl) ?_
    (apply zaa 0 rfl rfl (by kernel_rfl) rfl);(rintro w' ⟨h1,_⟩;go_simp;rfl);exact hS0;simp only[zq];(apply zaa 1 rfl rfl (by kernel_rfl) rfl);(rintro w' ⟨h1,_⟩;go_simp;rfl);exact hS0;simp only[zq];(apply zaa 2 rfl rfl (by kernel_rfl) rfl);(rintro w' ⟨h1,_⟩;go_simp;rfl);exact hS0;simp only[zq];(apply zaa 3 rfl rfl (by kernel_rfl) rfl);(rintro w' ⟨h1,_⟩;go_simp;rfl);exact hS0;simp only[zq];(apply zaa 4 rfl rfl (by kernel_rfl) rfl);(rintro w' ⟨h1,_⟩;go_simp;rfl);exact hS0;simp only[zq]
    refine zaa 5 (v:=ziK s) rfl rfl (by kernel_rfl) rfl (fun w' h=>zbC rfl rfl (run_loadAt_mid w' N 0 TS (zaY s) _ h.2 underlying153 rfl (by rw[zgP hsl,zcn,zao]))) hS0 ?_;simp only[zq]
    refine zaa 6 (v:=.pointer (some ⟨b,0+k*64,none⟩)) rfl rfl (by kernel_rfl) rfl (fun _ _=>zaw rfl rfl rfl underlying127 hti hts hkn) hS0 ?_;simp only[zq];refine zat 7 (W2.drew.setCells b (0+k*64) (zdu s).toList) rfl rfl (by kernel_rfl) rfl (zdN rfl rfl rfl (run_storeAt_mid W2.drew b (0+k*64) TS (zdu s) hth (zgP hsl) (Array.all_eq_true_iff_forall_mem.2 (fun v hv=>ziu v (by rw[← zce];simpa using hv))))) ?_;have hs3:=Sat.setCells (zdu s).toList (o:=0+k*64) hsb.drew;have hsm3:=Same.setCells (b:=b) (zdu s).toList (o:=0+k*64) hsm2.drew
    generalize W2.drew.setCells b (0+k*64) (zdu s).toList=W3 at hs3 hsm3 ⊢;rw[zce,Nat.zero_add] at hs3;clear q0 q1 q2 hrow hth hS0 hsb hs2 hsm2
    go_roundw
    case rel =>
     obtain⟨he,hes,hkey⟩:=HE.out
     (repeat apply Exists.intro)
     refine⟨⟨seen.push e.born,za7 dur k s,zl2 dc1 (k*64) (zaY s),hsm3,by rw[zg0];exact hdc,zoN HDD.out hdc hcap HDL.out hkn hsl,?_,?_,?_,?_,hs3.perm (by ac_rfl)⟩,rfl⟩
     ·intro i hi;unfold za7;split
      ·exact hsl
      ·exact HDL.out i hi
     ·rw[Array.toList_push,List.nodup_append]
      exact⟨HND.out,by simp,by intro a ha c hc;simp at hc;subst hc;rintro rfl;exact hes ha⟩
     ·intro x hx
      rw[Array.toList_push,List.mem_append] at hx;rcases hx with hx|hx
      ·exact HIN.out x hx
      ·simp at hx;exact⟨e,he,hx.symm⟩
     ·intro i hi
      unfold za7
      by_cases hik:i=k
      ·rw[if_pos hik]
       have:D.content i=s:=by rw[hik];simp[zsh.content,HCA.out]
       exact⟨.inr this.symm,fun _=>this.symm⟩
      ·rw[if_neg hik]
       refine⟨(HDUR.out i hi).1,?_⟩;rintro⟨e',he',hk',hb'⟩;rw[Array.toList_push,List.mem_append] at hb';rcases hb' with hb'|hb'
       ·exact (HDUR.out i hi).2 ⟨e',he',hk',hb'⟩
       ·exfalso
        simp at hb';have:e'=e:=zoB HM.out he' he hb';rw[this,hkey] at hk';simp at hk';omega
    case measure =>
     rw[HML.out]
     have h1:zi5 r es.size W3=es.size - (seen.size+1):=by
      unfold zi5;rw[(hs3.perm (show _=pts r (.mapIter (some cb) ck (seen.push e.born) ck)*(pts b (.cells (zl2 dc1 (k*64) (zaY s)) TS (0,0))*(pts cb (.map es ck)*(pts p (.cells #[.slice (some ⟨b,0,none⟩) D.n cap,.map (some cb),.map (some ab)] TD (0,0))*(pts ab (.map es2 ck2)*F)))) from by ac_rfl)).block];simp
     rw[h1];obtain⟨he,hes,hkey⟩:=HE.out;have:=zqH HND.out HIN.out he hes;omega
end Go.Proofs.YtmcclbiaoeilkaaGreat
end
