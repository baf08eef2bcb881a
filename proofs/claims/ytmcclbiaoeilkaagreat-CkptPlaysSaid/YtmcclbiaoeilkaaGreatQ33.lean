import Derived.Test.YtmcclbiaoeilkaaGreatQ32
import Derived.Test.YtmcclbiaoeilkaaGreatQ30
set_option maxHeartbeats 4000000
set_option maxRecDepth 20000
/- Part 33 of a proof;the last part says what is proved. -/
section
namespace Go.Sl
open Go Go.RowKit
theorem zlG {D:zsh}(h:D.WF)(picks:List Int)(hp:∀ k,k<D.pending.length→picks.getD k 0=64):zsh.cutN D picks D.pending.length=D.flush:=by
 obtain⟨h1,h2,h3,h4⟩:=zsh.cutN_spec D picks D.pending.length (Nat.le_refl _);rw[List.take_length] at h3 h4
 have hno:∀ i,i ∉ D.pending→D.cache i=none:=by
  intro i hi
  cases hc:D.cache i with
  | none=>rfl
  | some s =>
   refine absurd ?_ hi;unfold zsh.pending;rw[List.mem_filter,List.mem_range];exact⟨(h.cache i s hc).1,by rw[hc];rfl⟩
 have hd:(zsh.cutN D picks D.pending.length).dur=D.flush.dur:=by
  funext i
  rw[h4];show _=D.content i;unfold zsh.content
  by_cases hi:i ∈ D.pending
  ·rw[if_pos hi]
   obtain⟨j,hj⟩:=List.mem_iff_getElem?.1 hi;rw[zsh.rank_pending D hj,hp j (List.getElem?_eq_some_iff.1 hj).1];have hm:=hi;unfold zsh.pending at hm;rw[List.mem_filter] at hm;obtain⟨s,hs⟩:=Option.isSome_iff_exists.1 hm.2;have hl:=h.cache i s hs;have hdl:=h.dur i hl.1;rw[hs];show s.take 64++(D.dur i).drop 64=s;rw[List.take_of_length_le (by omega),List.drop_of_length_le (by omega),List.append_nil]
  ·rw[if_neg hi,hno i hi];rfl
 have hc:(zsh.cutN D picks D.pending.length).cache=D.flush.cache:=by
  funext i
  rw[h3];show _=none
  by_cases hi:i ∈ D.pending
  ·rw[if_pos hi]
  ·rw[if_neg hi,hno i hi]
 have ha:(zsh.cutN D picks D.pending.length).armed=D.flush.armed:=h2;have hn:(zsh.cutN D picks D.pending.length).n=D.flush.n:=h1;cases hx:zsh.cutN D picks D.pending.length;rw[hx] at hd hc ha hn;cases hy:D.flush;rw[hy] at hd hc ha hn;simp only at hd hc ha hn;subst hd hc ha hn
 rfl
def zop (C:zsh)(k:Nat):zsh:={ C with armed:=fun i=>if i<k then none else C.armed i }
theorem zmA (C:zsh):zop C 0=C:=by
 unfold zop;simp
theorem zmz (C:zsh)(k:Nat):{ zop C k with armed:=za7 (zop C k).armed k none }=zop C (k+1):=by
 show (⟨C.n,C.dur,C.cache,za7 (fun i=>if i<k then none else C.armed i) k none⟩:zsh)=⟨C.n,C.dur,C.cache,fun i=>if i<k+1 then none else C.armed i⟩;congr 1
 funext i
 unfold za7
 by_cases h:i=k
 ·rw[if_pos h,if_pos (by omega)]
 ·rw[if_neg h]
  show (if i<k then none else C.armed i)=if i<k+1 then none else C.armed i
  by_cases h2:i<k
  ·rw[if_pos h2,if_pos (by omega)]
  ·rw[if_neg h2,if_neg (by omega)]
theorem zoy {C:zsh}(h:C.WF):zop C C.n={ C with armed:=fun _=>none }:=by
 unfold zop;congr 1
 funext i
 by_cases h2:i<C.n
 ·rw[if_pos h2]
 ·rw[if_neg h2]
  cases hc:C.armed i with
  | none=>rfl
  | some j=>exact absurd (h.armed i j hc).1 h2
end Go.Sl
namespace Go.Proofs.YtmcclbiaoeilkaaGreat
open Go.Proofs.Tryz Go.RowKit Go.Sl Go.ChangeMaps
structure zrW (w:World)(g n:Nat)(X:zsi)(i:Value)(wr:World):Prop where
 st:∃ (k:Nat) (cur:Array Value),k≤n∧i = .int .i64 (k:Int)∧cur.size=n∧(∀ j,j<k→cur[j]?=some (.int .i64 64))∧Hid (Same w wr∧Sat wr (pts g (.cells cur TIn (0,0))*X))
theorem zl7 (p:Nat)(D:zsh)(F:zsi)(w:World)(hS:Sat w (zbF RT p D*F)):
  Calls prog 109 #[.pointer (some ⟨p,0,none⟩)] w fun e w'=>e = .returned (.tuple #[])∧Hid (Same w w'∧Sat w' (zbF RT p D.flush*F)):=by
 obtain⟨v,L,⟨hwf,hr⟩,hs⟩:=zbz.1 hS;obtain⟨ao,cap,rfl⟩:=zal hs.right;have c0:w.cell? ⟨p,0,none⟩=some (.slice ao L.length cap):=zab hs.block 0;obtain⟨n,hn⟩:∃ n,L.length=n:=⟨_,rfl⟩;rw[hn] at c0;have HN:=zh (show D.n=n from by rw[← hr.len];exact hn)
 have hn6:n≤65536:=by rw[← HN.out];exact hwf.small
 have HW:=zh hwf;have H0:=zh hS;clear hS hs hr hwf hn;obtain⟨ti,hi,hz0,hz1,hz2⟩:=info_parts zm9;go_enter func109,ntmps109;go_wp2_with (at_make;refine wpList_make_full _ rfl _ _ 38 rfl w.heap.size TIn ti (.int .i64 0) 1 underlying38 hi hz0 hz1 .i64 .i64 _ _ n rfl rfl ?_ ?_ ?_ ?_ ?_ ?_)
 all_goals first|rfl|omega|(rw[hz2];omega)|(unfold maxLen;omega)|exact Nat.zero_le _|exact Nat.le_refl _|skip
 intro w2 hown hg;have hs2:=Sat.ownRow H0.out (fun k hk=>hg.block k hk (by simp)) (Nat.le_refl _) hown;have hsm2:Same w w2:=⟨hg.os,hg.tape,hg.output,hg.size⟩;rcases za4.1 hs2 with ⟨h,_⟩|⟨g,cp,cur,⟨hv,_,_,hcs,_,_⟩,hs3⟩
 ·simp at h
 injection hv with hv1 hv2 hv3
 obtain rfl:w.heap.size=g:=by simpa using hv1
 subst hv3;have HST:=zh (show zrW w w.heap.size n (zbF RT p D*F) (.int .i64 0) w2 from⟨0,cur,Nat.zero_le _,rfl,by rw[hcs,Nat.mul_one],by intro j hj;omega,hsm2,hs3⟩);clear hs3 hs2 hsm2 hown hg hcs c0 hi hz0 hz1 hz2;generalize w.heap.size=g at HST ⊢;go_wp2
 go_loopw [3] (fun i wr=>zrW w g n (zbF RT p D*F) i wr) (fun i _=>n - (intOf i).toNat)
 case atStart=>exact HST.out
 case round =>
  clear HST;obtain⟨k,cur,hk,rfl,hcz,hcells,H1⟩:=hrel.st;clear hrel;have HC:=zh hcells;clear hcells
  by_cases hlt:k<n
  ·have hltd:decide (k<n)=true:=decide_eq_true hlt
   have hki:(k:Int)<(n:Int):=by omega
   have hk0:(0:Int)≤(k:Int):=by omega
   have hk6:(k:Int)≤65536:=by omega
   have hw1:IntKind.i64.wrap ((k:Int)+1)=(k:Int)+1:=IntWalk.i64_in _ (by omega);obtain⟨u,hu⟩:∃ u,cur[k]?=some u:=⟨_,Array.getElem?_eq_getElem (by omega)⟩
   have ck:wr.cell? ⟨g,k,none⟩=some u:=by rw[zab H1.out.2.block];exact hu
   have fk:wr.frozen? ⟨g,k,none⟩=false:=zaj H1.out.2.block _;have HL:=(zd hk hlt);go_wp2;refine⟨⟨k+1,cur.setIfInBounds k (.int .i64 64),HL.out.2,rfl,by rw[Array.size_setIfInBounds,hcz],?_,H1.out.1.setCell _ _,H1.out.2.setCell (i:=k) (.int .i64 64)⟩,by have:=HL.out;simp only[intOf];omega⟩;intro j hj;rw[Array.getElem?_setIfInBounds];split
   ·rw[if_pos (by omega)]
   ·exact HC.out j (by omega)
  ·obtain rfl:k=n:=by omega
   have hltd:decide (k<k)=false:=decide_eq_false (by omega)
   have HS:=zh (zg9 p D (pts g (.cells cur TIn (0,0))*F) (.slice (some ⟨g,0,none⟩) k k) (List.replicate k 64) wr (H1.out.2.perm (by ac_rfl)) (by
    intro w' h
    refine⟨_,_,by rw[List.length_replicate],fun _=>⟨g,0,rfl,fun j x hx=>?_⟩⟩
    have hj:=(List.getElem?_eq_some_iff.1 hx).1;rw[List.length_replicate] at hj;rw[List.getElem?_replicate,if_pos hj] at hx;obtain rfl:=Option.some.inj hx;rw[zab h.block,Nat.mul_one,Nat.zero_add]
    exact HC.out j hj))
   have HF:=zh (show zsh.cutN D (List.replicate k 64) D.pending.length=D.flush from zlG HW.out _ (by
    intro j hj;have h1:D.pending.length≤D.n:=zik D D.n
    rw[List.getD_eq_getElem?_getD,List.getElem?_replicate,if_pos (by rw[← HN.out];omega)];rfl))
   clear hlt hk hcz;go_wp2_with (go_at_call 144;refine HS.out.mono ?_;rintro e w5 ⟨rfl,h5⟩;rw[HF.out] at h5)
   go_end0
   exact⟨rfl,H1.out.1.trans h5.out.1,((h5.out.2.perm (show _=pts g (.cells cur TIn (0,0))*(zbF RT p D.flush*F) from by ac_rfl)).right)⟩
structure zrV (w:World)(p:Nat)(ao:Option Addr)(n cap:Nat)(C:zsh)(F:zsi)(i:Value)(wr:World):Prop where
 st:∃ (k:Nat) (L:List SecV),k≤n∧i = .int .i64 (k:Int)∧L.length=n∧RefOf (zop C k) L∧Hid (Same w wr∧Sat wr (zhA p ao n cap L F))
theorem zk1 (p:Nat)(D:zsh)(F:zsi)(pv:Value)(picks:List Int)(w:World)(hS:Sat w (zbF RT p D*F))(hpk:∀ w',Sat w' F→IntsAt w' pv picks):
  Calls prog 111 #[.pointer (some ⟨p,0,none⟩),pv] w fun e w'=>e = .returned (.tuple #[])∧Hid (Same w w'∧Sat w' (zbF RT p (D.cut picks)*F)):=by
 have hwf:D.WF:=by obtain⟨_,_,⟨h,_⟩,_⟩:=zbz.1 hS;exact h
 have HS:=zh (zg9 p D F pv picks w hS hpk);have HE:=zh (show zop (zsh.cutN D picks D.pending.length) (zsh.cutN D picks D.pending.length).n=D.cut picks from by rw[zoy (hwf.cutN picks _)];exact zsh.cutN_all D hwf picks);have HWC:=zh (hwf.cut picks);have HWN:=zh (hwf.cutN picks D.pending.length);obtain⟨E,hE⟩:∃ E,Hid (D.cut picks=E):=⟨_,zh rfl⟩;rw[hE.out] at HE HWC ⊢;generalize zsh.cutN D picks D.pending.length=C at HS HE HWN;clear hS hpk hwf;go_enter func111,ntmps111;go_upto_region 1 with (go_at_call 144;refine HS.out.mono ?_;rintro e w1 ⟨rfl,h1⟩)
 obtain⟨v,L,⟨_,hr⟩,hs⟩:=zbz.1 h1.out.2;obtain⟨ao,cap,rfl⟩:=zal hs.right;obtain⟨n,hn⟩:∃ n,L.length=n:=⟨_,rfl⟩
 have hCn:C.n=n:=by rw[← hr.len];exact hn
 have hn6:n≤65536:=by rw[← hCn];exact HWN.out.small
 have hs1:Sat w1 (zhA p ao n cap L F):=by unfold zhA;rw[hn] at hs ⊢;exact hs
 have H0:=zh (show zrV w p ao n cap C F (.int .i64 0) w1 from⟨0,L,Nat.zero_le _,rfl,hn,by rw[zmA];exact hr,h1.out.1,hs1⟩);rw[hCn] at HE;clear hs hs1 hr hn h1 hCn HS;go_upto_region 2 with (fail)
 go_loopw [4] (fun i wr=>zrV w p ao n cap C F i wr) (fun i _=>n - (intOf i).toNat)
 case atStart=>exact H0.out
 case round =>
  clear H0;obtain⟨k,L,hk,rfl,hn,hr,H1⟩:=hrel.st;clear hrel;have c0:wr.cell? ⟨p,0,none⟩=some (.slice ao n cap):=zab (Sat.block H1.out.2) 0
  by_cases hlt:k<n
  ·have hltd:decide (k<n)=true:=decide_eq_true hlt
   have hki:(k:Int)<(n:Int):=by omega
   have hk0:(0:Int)≤(k:Int):=by omega
   have hk6:(k:Int)≤65536:=by omega
   have hw1:IntKind.i64.wrap ((k:Int)+1)=(k:Int)+1:=IntWalk.i64_in _ (by omega);obtain⟨x,hx⟩:∃ x,L[k]?=some x:=⟨_,List.getElem?_eq_getElem (by omega)⟩;obtain⟨g,rfl,-⟩:=zco (Sat.right H1.out.2) hx;have ho:Sat wr (zcV p g n cap L F):=H1.out.2;obtain⟨-,-,-,-,e3,ff⟩:=zaW ho hx;have f3:=ff (k*4+3);have HNX:=zh (show Same w (wr.setCell ⟨g,k*4+3,none⟩ (.int .i64 (-2)))∧Sat (wr.setCell ⟨g,k*4+3,none⟩ (.int .i64 (-2))) (zhA p (some ⟨g,0,none⟩) n cap (L.set k (x.1.arm (-2),x.2)) F) from⟨H1.out.1.setCell _ _,zgx ho hx (-2)⟩)
   have HR:=zh (show RefOf (zop C (k+1)) (L.set k (x.1.arm (-2),x.2)) from by have h:=hr.arm hx none;rw[zmz] at h;exact h);have HL:=(zd hlt hn);clear ho hx hr hn ff hlt hk H1;go_wp2
   go_roundw
   case rel=>exact⟨⟨k+1,_,HL.out.1,rfl,by rw[List.length_set];exact HL.out.2,HR.out,HNX.out⟩⟩
   case measure=>have:=HL.out;simp only[intOf];omega
  ·obtain rfl:k=n:=by omega
   have hltd:decide (k<k)=false:=decide_eq_false (by omega);rw[HE.out] at hr;have HF:=zh (zg3 HWC.out hr H1.out.2);clear hr hlt hk hn;go_wp2
   go_end0
   exact⟨rfl,H1.out.1,HF.out⟩
end Go.Proofs.YtmcclbiaoeilkaaGreat
end
section
namespace Go.Proofs.YtmcclbiaoeilkaaGreat
open Go.Proofs.Tryz Go.RowKit Go.Sl Go.ChangeMaps
def zos (p:Nat)(S:zsg)(vb vs vi:Value)(ps qs:List Nat)(R F:zsi):zsi:=
 pts p (.cells (rsC S.cfg vb vs vi (!S.off) S.rleft) ze9 (0,0))*(zaf TRp 1 vb S.bays.length (ps.map zaB)*(zaf 3 1 vs S.bays.length (S.bays.map stV)*(zaf TRp 1 vi S.images.length (qs.map zaB)*(R*(zbA RT qs S.images*F)))))
theorem zcl (p:Nat)(S:zsg)(vb vs vi:Value)(ps qs:List Nat)(q:Nat)(D:zsh)(R F:zsi):zha p S vb vs vi ps qs q D R F=zbF RT q D*zos p S vb vs vi ps qs R F:=by
 unfold zha zos
 ac_rfl
theorem zbw {p:Nat}{S:zsg}{F:zsi}{w:World}{k:Nat}{vb vs vi:Value}{ps qs:List Nat}{q:Nat}{R:zsi}{D:zsh}(ho:zfe S k ps qs q R)(h:Sat w (zha p S vb vs vi ps qs q D R F)):
  ∃ g capb,vb = .slice (some ⟨g,0,none⟩) S.bays.length capb∧w.cell? ⟨p,6,none⟩=some vb∧w.cell? ⟨g,k,none⟩=some (.pointer (some ⟨q,0,none⟩))∧w.frozen? ⟨g,k,none⟩=false:=by
 have hk:=(List.getElem?_eq_some_iff.1 ho.bay).1;unfold zha at h;obtain⟨⟨q6,_,_,_,_⟩,_,_⟩:=zbN h;obtain⟨g,cap,cur,rfl,_,hc,hf,_⟩:=zaO h.right (by omega);exact⟨g,cap,rfl,q6,hc k (zaB q) (by rw[List.getElem?_map,ho.at_];rfl),hf k⟩
theorem zeC (p:Nat)(S:zsg)(F:zsi)(d:Int)(w:World)(hS:Sat w (zad RS p S*F)):
  Calls prog 58 #[.pointer (some ⟨p,0,none⟩),d] w fun e w'=>e = .returned (.int .i64 (S.flush d).2)∧Hid (Same w w'∧Sat w' (zad RS p (S.flush d).1*F)):=by
 have hwf:=zbm hS;have HST:=zh (zcj p S F d w hS);have HS:=zh hS
 by_cases h0:S.state d=0
 ·have hk:S.flush d=(S,1):=by unfold zsg.flush;rw[if_pos h0]
  rw[hk];rw[h0] at HST;clear hk h0 hwf hS;go_enter func58,ntmps58;go_wp2_with (go_at_call 41;refine HST.out.mono ?_;rintro e w1 ⟨rfl,rfl⟩);go_ret;exact⟨rfl,Same.refl w,HS.out⟩
 ·obtain⟨hd0,hd1⟩:=zsg.state_in hwf h0
  obtain⟨k,rfl⟩:=Int.eq_ofNat_of_zero_le hd0;have HRD:=zh (zf8 p S F k (by omega) w hS)
  have hfl:S.flush (k:Int)=S.step k zsh.flush:=by unfold zsg.flush;rw[if_neg h0]
  have e0:(S.state (k:Int)==0)=false:=by simp[h0]
  by_cases ha:S.access (k:Int)=0
  case neg =>
   rw[hfl,zsg.step_acc _ ha]
   have e1:(S.access (k:Int) != 0)=true:=by simp[ha]
   clear hfl ha h0 hwf hS hd0 hd1
   generalize S.access (k:Int)=ac at *
   generalize S.state (k:Int)=st at *
   go_enter func58,ntmps58
   go_wp2_with (first
    | (go_at_call 41;refine HST.out.mono ?_;rintro e w1 ⟨rfl,rfl⟩)
    | (go_at_call 106;refine HRD.out.mono ?_;rintro e w1 ⟨rfl,rfl⟩))
   go_ret;exact⟨rfl,Same.refl w,HS.out⟩
  case pos =>
   rw[ha] at HRD;rw[hfl,zsg.step_tick _ ha];have HTK:=zh (zjr p S F w hS);obtain⟨hb1,-,-⟩:=S.tick_bays;obtain⟨hs1,hs2⟩:=S.tick_bay (k:Int);have HWF:=zh (zsg.tick_wf hwf);have HB:=(zd hb1 (And.intro hs1 hs2))
   by_cases ht:S.tick.2=0
   case neg =>
    rw[if_neg ht]
    have e1:(S.tick.2 != 0)=true:=by simp[ht]
    clear hfl ha h0 hwf hS hd0 hd1 ht hb1 hs1 hs2 HWF HB
    generalize S.tick.2=tk at *
    generalize S.state (k:Int)=st at *
    go_enter func58,ntmps58
    go_wp2_with (first
     | (go_at_call 41;refine HST.out.mono ?_;rintro e w1 ⟨rfl,rfl⟩)
     | (go_at_call 106;refine HRD.out.mono ?_;rintro e w1 ⟨rfl,rfl⟩)
     | (go_at_call 107;refine HTK.out.mono ?_;rintro e w4 ⟨rfl,h4⟩))
    go_ret;exact⟨rfl,h4.out.1,h4.out.2⟩
   case pos =>
    rw[if_pos ht];rw[ht] at HTK
    have hk2:k<S.bays.length:=by omega
    have HK:=zh hk2;clear hfl ha hwf hS hd0 hd1 ht hb1 hs1 hs2 hk2;have H0:=zh h0;clear h0;generalize S.state (k:Int)=st at HST e0;go_enter func58,ntmps58
    go_upto_region 9 with (first
     | (go_at_call 41;refine HST.out.mono ?_;rintro e w1 ⟨rfl,rfl⟩)
     | (go_at_call 106;refine HRD.out.mono ?_;rintro e w1 ⟨rfl,rfl⟩)
     | (go_at_call 107;refine HTK.out.mono ?_;rintro e w4 ⟨rfl,h4⟩))
    obtain⟨vb,vs,vi,ps,qs,q,R,ho,hs⟩:=zcL h4.out.2 (k:=k) (by rw[HB.out.1];exact HK.out);obtain⟨g,capb,rfl,c6,cq,-⟩:=zbw ho hs;have HO:=zh ho;rw[zcl] at hs
    have hkn:(k:Int)<(S.tick.1.bays.length:Int):=by
     have:=HK.out;rw[HB.out.1];omega
    obtain⟨n,hn⟩:∃ n,S.tick.1.bays.length=n:=⟨_,rfl⟩;rw[hn] at hkn c6 hs;have HQ:=zh hs;have HN:=zh hn
    have hk0:(0:Int)≤(k:Int):=by omega
    clear ho hs hn;go_wp2_with (go_at_call 109;refine (zl7 q _ _ w4 HQ.out).mono ?_;rintro e w5 ⟨rfl,h5⟩);go_ret;refine⟨rfl,h4.out.1.trans h5.out.1,?_⟩;have h6:=h5.out.2;rw[← HN.out,← zcl] at h6;have h7:=ze3 HO.out (HWF.out.setDisk (by rw[HB.out.2.1];exact H0.out) (zsh.flush_n _)) h6;rw[HB.out.2.2] at h7;exact h7
theorem zef (p:Nat)(S:zsg)(F:zsi)(a:zsj)(w:World)(hS:Sat w (zad RS p S*F)):
  Calls prog 57 #[.pointer (some ⟨p,0,none⟩),.agg (plA a)] w fun e w'=>e = .returned (.tuple #[.string (zh2 (S.read a).1),.int .i64 (S.read a).2])∧Hid (Same w w'∧Sat w' (zad RS p S*F)):=by
 have hwf:=zbm hS;obtain⟨d,ar,ix⟩:=a;have HA:=zh (show Same w (w.alloc (.cells (plA ⟨d,ar,ix⟩) TPl))∧Sat (w.alloc (.cells (plA ⟨d,ar,ix⟩) TPl)) (zad RS p S*(pts w.heap.size (.cells (plA ⟨d,ar,ix⟩) TPl (0,0))*F)) from⟨(Same.refl w).alloc _,(hS.alloc (.cells (plA ⟨d,ar,ix⟩) TPl)).perm (by ac_rfl)⟩)
 have HNB:=zh (fun G W (h:Sat W (zad RS p S*G))=>zcx p S G ⟨d,ar,ix⟩ W h)
 have hwr:S.read ⟨d,ar,ix⟩=if S.number ⟨d,ar,ix⟩<0 then ([],1) else if S.access d≠0 then ([],S.access d) else (S.disk d).read (S.number ⟨d,ar,ix⟩):=rfl
 clear hS
 by_cases hn:S.number ⟨d,ar,ix⟩<0
 ·rw[if_pos hn] at hwr
  rw[hwr];rw[show zeU S ⟨d,ar,ix⟩=0 by unfold zeU;rw[if_pos hn],decide_eq_false (by omega:¬ 0≤S.number ⟨d,ar,ix⟩)] at HNB;clear hwr hn hwf;go_enter func57,ntmps57;go_upto_region 1 with (fail)
  unfold plA at HA;generalize w.alloc _=W1 at HA ⊢;generalize w.heap.size=B at HA ⊢;have hbx:=HA.out.2.perm (show _=pts B (.cells #[d,ar,ix] TPl (0,0))*(zad RS p S*F) from by ac_rfl);have b0:W1.cell? ⟨B,0,none⟩=some (.int .i64 d):=zab hbx.block 0;have b1:W1.cell? ⟨B,1,none⟩=some (.int .i64 ar):=zab hbx.block 1;have b2:W1.cell? ⟨B,2,none⟩=some (.int .i64 ix):=zab hbx.block 2;clear hbx
  go_wp2_with (first
   | (go_at_call 74;refine (HNB.out _ W1 HA.out.2).mono ?_;rintro e w2 ⟨rfl,hb⟩;clear b0 b1 b2;have H2:=(zd (HA.out.1.below hb) (HA.out.2.below hb));clear hb;have b0:w2.cell? ⟨B,0,none⟩=some (.int .i64 d):=zab (H2.out.2.perm (show _=pts B (.cells #[d,ar,ix] TPl (0,0))*(zad RS p S*F) from by ac_rfl)).block 0))
  go_ret2;exact⟨rfl,H2.out.1,(H2.out.2.perm (show _=pts B (.cells #[d,ar,ix] TPl (0,0))*(zad RS p S*F) from by ac_rfl)).right⟩
 have hnm:zeU S ⟨d,ar,ix⟩=S.number ⟨d,ar,ix⟩:=by unfold zeU;rw[if_neg hn]
 rw[hnm,decide_eq_true (by omega:0≤S.number ⟨d,ar,ix⟩)] at HNB;rw[if_neg hn] at hwr;have hlt:=zsg.number_lt hwf (a:=⟨d,ar,ix⟩) (by omega);dsimp only at hlt;obtain⟨hd0,hd1⟩:=zsg.state_in hwf hlt.1;obtain⟨k,rfl⟩:=Int.eq_ofNat_of_zero_le hd0
 have hkb:k<S.bays.length:=by omega
 have HRD:=zh (fun G W (h:Sat W (zad RS p S*G))=>zf8 p S G k hkb W h)
 obtain⟨nu,hnu⟩:∃ nu,nu=S.number ⟨(k:Int),ar,ix⟩:=⟨_,rfl⟩;rw[← hnu] at HNB hwr;clear hnu hnm hlt hd0 hd1 hwf hn
 by_cases ha:S.access (k:Int)=0
 case neg =>
  rw[if_pos ha] at hwr;rw[hwr]
  have e1:(S.access (k:Int) != 0)=true:=by simp[ha]
  clear hwr ha hkb
  generalize S.access (k:Int)=ac at *
  go_enter func57,ntmps57;go_upto_region 1 with (fail)
  unfold plA at HA;generalize w.alloc _=W1 at HA ⊢;generalize w.heap.size=B at HA ⊢;have hbx:=HA.out.2.perm (show _=pts B (.cells #[(k:Int),ar,ix] TPl (0,0))*(zad RS p S*F) from by ac_rfl);have b0:W1.cell? ⟨B,0,none⟩=some (.int .i64 (k:Int)):=zab hbx.block 0;have b1:W1.cell? ⟨B,1,none⟩=some (.int .i64 ar):=zab hbx.block 1;have b2:W1.cell? ⟨B,2,none⟩=some (.int .i64 ix):=zab hbx.block 2;clear hbx
  go_wp2_with (first
   | (go_at_call 74;refine (HNB.out _ W1 HA.out.2).mono ?_;rintro e w2 ⟨rfl,hb⟩;clear b0 b1 b2;have H2:=(zd (HA.out.1.below hb) (HA.out.2.below hb));clear hb;have b0:w2.cell? ⟨B,0,none⟩=some (.int .i64 (k:Int)):=zab (H2.out.2.perm (show _=pts B (.cells #[(k:Int),ar,ix] TPl (0,0))*(zad RS p S*F) from by ac_rfl)).block 0)
   | (go_at_call 106;refine (HRD.out _ w2 H2.out.2).mono ?_;rintro e w3 ⟨rfl,rfl⟩))
  go_ret2;exact⟨rfl,H2.out.1,(H2.out.2.perm (show _=pts B (.cells #[(k:Int),ar,ix] TPl (0,0))*(zad RS p S*F) from by ac_rfl)).right⟩
 case pos =>
  rw[if_neg (by simp[ha])] at hwr;rw[ha] at HRD
  have HRE:=zh (fun q G W (h:Sat W (zbF RT q (S.disk k)*G))=>zjo q (S.disk k) G nu W h)
  rw[hwr]
  generalize (S.disk k).read nu=rd at *
  have HK:=zh hkb;clear ha hkb hwr;go_enter func57,ntmps57;go_upto_region 1 with (fail)
  unfold plA at HA;generalize w.alloc _=W1 at HA ⊢;generalize w.heap.size=B at HA ⊢;have hbx:=HA.out.2.perm (show _=pts B (.cells #[(k:Int),ar,ix] TPl (0,0))*(zad RS p S*F) from by ac_rfl);have b0:W1.cell? ⟨B,0,none⟩=some (.int .i64 (k:Int)):=zab hbx.block 0;have b1:W1.cell? ⟨B,1,none⟩=some (.int .i64 ar):=zab hbx.block 1;have b2:W1.cell? ⟨B,2,none⟩=some (.int .i64 ix):=zab hbx.block 2;clear hbx
  go_upto_region 7 with (first
   | (go_at_call 74;refine (HNB.out _ W1 HA.out.2).mono ?_;rintro e w2 ⟨rfl,hb⟩;clear b0 b1 b2;have H2:=(zd (HA.out.1.below hb) (HA.out.2.below hb));clear hb;have b0:w2.cell? ⟨B,0,none⟩=some (.int .i64 (k:Int)):=zab (H2.out.2.perm (show _=pts B (.cells #[(k:Int),ar,ix] TPl (0,0))*(zad RS p S*F) from by ac_rfl)).block 0)
   | (go_at_call 106;refine (HRD.out _ w2 H2.out.2).mono ?_;rintro e w3 ⟨rfl,rfl⟩))
  obtain⟨vb,vs,vi,ps,qs,q,R,ho,hs⟩:=zcL H2.out.2 (k:=k) HK.out;obtain⟨g,capb,rfl,c6,cq,-⟩:=zbw ho hs;rw[zcl] at hs
  have hkn:(k:Int)<(S.bays.length:Int):=by have:=HK.out;omega
  obtain⟨n,hn⟩:∃ n,S.bays.length=n:=⟨_,rfl⟩;rw[hn] at hkn c6 hs;have HQ:=zh hs
  have hk0:(0:Int)≤(k:Int):=by omega
  clear ho hs hn;have hS0:w2.drew.cell? ⟨p,6,none⟩=some (.slice (some ⟨g,0,none⟩) n capb)∧w2.drew.cell? ⟨g,k,none⟩=some (.pointer (some ⟨q,0,none⟩))∧w2.drew.cell? ⟨B,0,none⟩=some (.int .i64 (k:Int)):=⟨c6,cq,b0⟩
  refine zah (fun w'=>w'.cell? ⟨p,6,none⟩=some (.slice (some ⟨g,0,none⟩) n capb)∧w'.cell? ⟨g,k,none⟩=some (.pointer (some ⟨q,0,none⟩))∧w'.cell? ⟨B,0,none⟩=some (.int .i64 (k:Int))) (by kernel_rfl) ?_
  clear c6 cq b0;(apply zaa 0 rfl rfl (by kernel_rfl) rfl);(rintro w' ⟨h1,h2,h3⟩;go_simp;rfl);exact hS0;simp only[zq];(apply zaa 1 rfl rfl (by kernel_rfl) rfl);(rintro w' ⟨h1,h2,h3⟩;go_simp;rfl);exact hS0;simp only[zq];(apply zaa 2 rfl rfl (by kernel_rfl) rfl);(rintro w' ⟨h1,h2,h3⟩;go_simp;rfl);exact hS0;simp only[zq];(apply zaa 3 rfl rfl (by kernel_rfl) rfl);(rintro w' ⟨h1,h2,h3⟩;go_simp;rfl);exact hS0;simp only[zq];(apply zaa 4 rfl rfl (by kernel_rfl) rfl);(rintro w' ⟨h1,h2,h3⟩;go_simp;rfl);exact hS0;simp only[zq]
  (apply zaa 5 rfl rfl (by kernel_rfl) rfl);(rintro w' ⟨h1,h2,h3⟩;go_simp;rfl);exact hS0;simp only[zq];(apply zaa 6 rfl rfl (by kernel_rfl) rfl);(rintro w' ⟨h1,h2,h3⟩;go_simp;rfl);exact hS0;simp only[zq];(apply zaa 7 rfl rfl (by kernel_rfl) rfl);(rintro w' ⟨h1,h2,h3⟩;go_simp;rfl);exact hS0;simp only[zq];(apply zaa 8 rfl rfl (by kernel_rfl) rfl);(rintro w' ⟨h1,h2,h3⟩;go_simp;rfl);exact hS0;simp only[zq];refine zan 9 rfl rfl (by kernel_rfl) rfl (R:=fun v w'=>v = .tuple #[.string (zh2 rd.1),rd.2]∧w2.drew=w') (by kernel_rfl) ((HRE.out q _ w2.drew HQ.out.drew).mono fun e w' h=>⟨_,h.1,rfl,h.2⟩) ?_
  rintro _ w5 ⟨rfl,rfl⟩;simp only[zq];refine⟨hS0,?_⟩;(apply zaa 10 rfl rfl (by kernel_rfl) rfl);(rintro w' ⟨h1,h2,h3⟩;go_simp;rfl);exact hS0;simp only[zq];(apply zaa 11 rfl rfl (by kernel_rfl) rfl);(rintro w' ⟨h1,h2,h3⟩;go_simp;rfl);exact hS0;simp only[zq];(apply zaa 12 rfl rfl (by kernel_rfl) rfl);(rintro w' ⟨h1,h2,h3⟩;go_simp;rfl);exact hS0;simp only[zq];(apply zaa 13 rfl rfl (by kernel_rfl) rfl);(rintro w' ⟨h1,h2,h3⟩;go_simp;rfl);exact hS0;simp only[zq];refine zar (by kernel_rfl) ?_;clear hS0;go_wp2
  go_ret2;exact⟨rfl,H2.out.1.drew,(H2.out.2.drew.perm (show _=pts B (.cells #[(k:Int),ar,ix] TPl (0,0))*(zad RS p S*F) from by ac_rfl)).right⟩
end Go.Proofs.YtmcclbiaoeilkaaGreat
end
