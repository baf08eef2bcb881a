import Derived.Test.YtmcclbiaoeilkaaGreatQ31
set_option maxHeartbeats 8000000
set_option maxRecDepth 20000
/- Part 32 of a proof;the last part says what is proved. -/
namespace Go.Proofs.YtmcclbiaoeilkaaGreat
open Go.Proofs.Tryz Go.RowKit Go.Sl Go.ChangeMaps
theorem zfz (a b:List UInt8):za2 (a++b)=za2 a++za2 b:=List.map_append
theorem zdd (a:List UInt8):(za2 a).length=a.length:=List.length_map _
theorem zev {l:List UInt8}{j:Nat}{u:Value}(h:(za2 l)[j]?=some u):∃ hj:j<l.length,u = .int .u8 ((l[j]'hj).toNat:Int):=by
 unfold za2 at h;rw[List.getElem?_map] at h;obtain⟨b,hb,rfl⟩:=Option.map_eq_some_iff.1 h;obtain⟨hj,rfl⟩:=List.getElem?_eq_some_iff.1 hb;exact⟨hj,rfl⟩
theorem zde (l:List UInt8):∀ u ∈ za2 l,u.oneCell'=true:=by
 intro u hu;obtain⟨b,_,rfl⟩:=List.mem_map.1 hu
 rfl
theorem clamp_le (z:Int):zsh.clamp z≤64:=by unfold zsh.clamp;omega
def zkJ (x:SecM)(t:List UInt8):SecM:={ x with dur:=t }
theorem zit (x:SecV)(t:List UInt8)(v:Value)(F:zsi):zhD TU8 x*(zbW TU8 v t*F)=zhD TU8 (zkJ x.1 t,v,x.2.2)*(zbW TU8 x.2.1 x.1.dur*F):=by
 show zbW TU8 x.2.1 x.1.dur*zbW TU8 x.2.2 x.1.cac*(zbW TU8 v t*F)=zbW TU8 v t*zbW TU8 x.2.2 x.1.cac*(zbW TU8 x.2.1 x.1.dur*F)
 ac_rfl
theorem zdT {p g n cap:Nat}{L:List SecV}{F:zsi}{w:World}(h:Sat w (zcV p g n cap L F)){k:Nat}{x:SecV}(hx:L[k]?=some x):∃ R1 R2,Sat w (zbW TU8 x.2.1 x.1.dur*R1)∧Sat w (zbW TU8 x.2.2 x.1.cac*R2):=by
 obtain⟨R,hR⟩:=zej TU8 L k (List.getElem?_eq_some_iff.1 hx).1;have e:=hR x;rw[zbn hx] at e;unfold zcV at h;have h2:=h.right.right;rw[e] at h2;have h3:=h2.perm (show _=zbW TU8 x.2.1 x.1.dur*(zbW TU8 x.2.2 x.1.cac*(R*F)) from by unfold zhD;ac_rfl);exact⟨_,_,h3,h3.right⟩
theorem zpj (D:zsh)(picks:List Int){k i:Nat}(hk:k<D.pending.length)(hi:D.pending[k]?=some i):i<D.n∧∃ s,(zsh.cutN D picks k).cache i=some s∧
  zsh.cutN D picks (k+1)={ zsh.cutN D picks k with dur:=za7 (zsh.cutN D picks k).dur i (zsh.torn s ((zsh.cutN D picks k).dur i) (picks.getD k 0)),cache:=za7 (zsh.cutN D picks k).cache i none }:=by
 obtain⟨e1,e2,e3,e4⟩:=zsh.cutN_spec D picks k (by omega);have him:i ∈ D.pending:=List.mem_of_getElem? hi
 have hnot:i ∉ D.pending.take k:=by
  intro hm;obtain⟨j,hj⟩:=List.mem_iff_getElem?.1 hm;rw[List.getElem?_take] at hj;split at hj
  ·have r1:=zsh.rank_pending D hj
   have r2:=zsh.rank_pending D hi;omega
  ·cases hj
 obtain⟨hin,his⟩:i<D.n∧(D.cache i).isSome=true:=by
  unfold zsh.pending at him;rw[List.mem_filter,List.mem_range] at him;exact him
 obtain⟨s,hs⟩:=Option.isSome_iff_exists.1 his
 have hca:(zsh.cutN D picks k).cache i=some s:=by rw[e3,if_neg hnot,hs]
 refine⟨hin,s,hca,?_⟩;show zsh.cutStep (zsh.cutN D picks k) (D.pending.getD k 0) (picks.getD k 0)=_;rw[show D.pending.getD k 0=i by rw[List.getD_eq_getElem?_getD,hi];rfl];unfold zsh.cutStep;rw[hca]
structure zq1 (w:World)(p:Nat)(ao:Option Addr)(n cap:Nat)(D:zsh)(picks:List Int)(v:Value)(m:Nat)(F:zsi)(i:Value)(wr:World):Prop where
 st:∃ (k:Nat) (L:List SecV),k≤m∧i = .int .i64 (k:Int)∧L.length=n∧RefOf (zsh.cutN D picks k) L∧Hid (Same w wr∧Sat wr (zhA p ao n cap L (zaf TIn 1 v m (D.pending.map zhL)*F)))
theorem zdm {w:World}{p g n cap:Nat}{L:List SecV}{ro:Option Addr}{m rc:Nat}{D:zsh}{F:zsi}(h:Sat w (zcV p g n cap L (zaf TIn 1 (.slice ro m rc) m (D.pending.map zhL)*F))){k i:Nat}(hi:D.pending[k]?=some i)(hm:D.pending.length=m):∃ gl:Nat,ro=some ⟨gl,0,none⟩∧w.cell? ⟨gl,k,none⟩=some (.int .i64 (i:Int)):=by
 have hk:=(List.getElem?_eq_some_iff.1 hi).1;unfold zcV at h;obtain⟨gl,rc',e,hc⟩:=zbd (h.right.right.right) (by omega);simp only[Value.slice.injEq] at e;exact⟨gl,e.1,hc k _ (by rw[List.getElem?_map,hi];rfl)⟩
theorem zpC:(prog.info? TU8).map (·.size)=some 1:=by kernel_rfl
theorem zg9 (p:Nat)(D:zsh)(F:zsi)(pv:Value)(picks:List Int)(w:World)(hS:Sat w (zbF RT p D*F))(hpk:∀ w',Sat w' F→IntsAt w' pv picks):
  Calls prog 144 #[.pointer (some ⟨p,0,none⟩),pv] w fun e w'=>e = .returned (.tuple #[])∧Hid (Same w w'∧Sat w' (zbF RT p (zsh.cutN D picks D.pending.length)*F)):=by
 obtain⟨pao,pcap,rfl,hpc⟩:=hpk w (hS.right);have HPK:=zh hpk;have HPN:=zh (zgj p D F w hS)
 have hwf:D.WF:=by obtain⟨_,_,⟨h,_⟩,_⟩:=zbz.1 hS;exact h
 have HW:=zh hwf;obtain⟨pn,hpn⟩:∃ pn,Hid (picks.length=pn):=⟨_,zh rfl⟩;rw[hpn.out];clear hS hpk hpc hwf;go_enter func144,ntmps144;go_upto_region 1 with (go_at_call 110;refine HPN.out.mono ?_;rintro e w1 ⟨v,rfl,h1⟩)
 clear HPN;have hm6:D.pending.length≤65536:=Nat.le_trans (zik D D.n) HW.out.small;obtain⟨m,hm⟩:∃ m,Hid (D.pending.length=m):=⟨_,zh rfl⟩;rw[hm.out] at h1 hm6;obtain⟨lv,L,⟨_,hr0⟩,hs0⟩:=zbz.1 (h1.out.2.perm (show _=zbF RT p D*(zaf TIn 1 v m (D.pending.map zhL)*F) from by ac_rfl));obtain⟨ao,cap,rfl⟩:=zal hs0.right;obtain⟨ro,rc,rfl⟩:=zal h1.out.2;obtain⟨n,hn⟩:∃ n,L.length=n:=⟨_,rfl⟩
 have hs1:Sat w1 (zhA p ao n cap L (zaf TIn 1 (.slice ro m rc) m (D.pending.map zhL)*F)):=by unfold zhA;rw[hn] at hs0 ⊢;exact hs0
 have HDN:=zh (show D.n=n from by rw[← hr0.len];exact hn);have H0:=zh (show zq1 w p ao n cap D picks (.slice ro m rc) m F (.int .i64 0) w1 from⟨0,L,Nat.zero_le _,rfl,hn,hr0,h1.out.1,hs1⟩);clear hs0 hs1 hn hr0 h1;go_upto_region 2 with (fail)
 go_loopw [5] (fun i wr=>zq1 w p ao n cap D picks (.slice ro m rc) m F i wr) (fun i _=>m - (intOf i).toNat)
 case atStart=>exact H0.out
 case round =>
  clear H0;obtain⟨k,L,hk,rfl,hn,hr,H1⟩:=hrel.st;clear hrel
  by_cases hlt:k<m
  case neg =>
   obtain rfl:k=m:=by omega
   have hltd:decide (k<k)=false:=decide_eq_false (by omega);have HF:=zh (zg3 (HW.out.cutN picks k) hr H1.out.2);clear hlt hk hr;go_wp2
   go_end0
   have h:=HF.out.perm (show _=zaf TIn 1 (.slice ro k rc) k (D.pending.map zhL)*(zbF RT p (zsh.cutN D picks k)*F) from by ac_rfl);exact⟨rfl,H1.out.1,by rw[hm.out];exact h.right⟩
  obtain⟨i,hi⟩:∃ i,D.pending[k]?=some i:=⟨_,List.getElem?_eq_getElem (by rw[hm.out];exact hlt)⟩;obtain⟨hin,s,hca,hstep⟩:=zpj D picks (by rw[hm.out];exact hlt) hi;have hwk:=HW.out.cutN picks k
  have hcn:(zsh.cutN D picks k).n=n:=by rw[← hr.len];exact hn
  rw[HDN.out] at hin;obtain⟨x,hx⟩:∃ x,L[i]?=some x:=⟨_,List.getElem?_eq_getElem (by omega)⟩;obtain⟨g,rfl,-⟩:=zco (Sat.right H1.out.2) hx;have ho:Sat wr (zcV p g n cap L (zaf TIn 1 (.slice ro m rc) m (D.pending.map zhL)*F)):=H1.out.2;obtain⟨gl,rfl,cl⟩:=zdm ho hi hm.out;obtain⟨c0,e0,e1,e2,-,-⟩:=zaW ho hx;have hpc:=HPK.out wr (Sat.right (Sat.right (Sat.right (Sat.right ho))));generalize hC:zsh.cutN D picks k=C at hr hca hstep hwk hcn;have hxs:x.1.cac=s:=hr.cac i x s hx hca;have hxd:x.1.dur=C.dur i:=hr.dur i x hx
  have hs64:s.length=64:=(hwk.cache i s hca).2
  have hd64:x.1.dur.length=64:=by rw[hxd];exact hwk.dur i (by omega)
  obtain⟨R1,R2,hrd,hrc⟩:=zdT ho hx;rw[hxs] at hrc;obtain⟨aod,capd,ed,hd⟩:=zbI hrd;obtain⟨gd,rfl,⟨hgd,hcd⟩,-⟩:=hd (by intro h;rw[h] at hd64;simp at hd64);obtain⟨aoc,capc,ec,hcc⟩:=zbI hrc;obtain⟨gc,rfl,⟨hgc,hcc1⟩,hccell⟩:=hcc (by intro h;rw[h] at hs64;simp at hs64);rw[hd64] at ed hcd;rw[hs64] at ec hcc1;rw[ed] at e0;rw[ec] at e1
  have hki:(k:Int)<(m:Int):=by omega
  have hk0:(0:Int)≤(k:Int):=by omega
  have hk6:(k:Int)≤65536:=by omega
  have hii:(i:Int)<(n:Int):=by omega
  have hi0:(0:Int)≤(i:Int):=by omega
  have hw1:IntKind.i64.wrap ((k:Int)+1)=(k:Int)+1:=IntWalk.i64_in _ (by omega);have HK:=(zd hk hlt);have HST:=zh hstep;have HRF:=zh hr;have HX:=zh hx;have HI:=zh hi;have HO:=zh ho;have HLN:=zh hn;have HSD:=(zd hs64 (And.intro hd64 (And.intro hxs (And.intro hxd hC))));have HCC:=zh hccell;have HCL:=(zd hcd hcc1);have HED:=(zd ed ec);obtain⟨z,hz⟩:∃ z,Hid (picks.getD k 0=z):=⟨_,zh rfl⟩
  by_cases hp:k<pn
  case pos =>
   have hpd:decide (k<pn)=true:=decide_eq_true hp;obtain⟨pao',pcap',epk,hpk2⟩:=hpc;simp only[Value.slice.injEq] at epk;obtain⟨bp,op,rfl,hpcell⟩:=hpk2 (by intro h;have:=hpn.out;rw[h] at this;simp at this;omega)
   have hgz:picks[k]?=some z:=by
    have:=hz.out
    have hlk:k<picks.length:=by rw[hpn.out];exact hp
    rw[List.getD_eq_getElem?_getD,List.getElem?_eq_getElem hlk] at this;rw[List.getElem?_eq_getElem hlk];exact congrArg some this
   have cpk:=hpcell k z hgz;rw[Nat.mul_one] at cpk;obtain rfl:pao=some ⟨bp,op,none⟩:=epk.1;obtain⟨c,hc⟩:∃ c,Hid (zsh.clamp z=c):=⟨_,zh rfl⟩
   have hc64:c≤64:=by rw[← hc.out];exact clamp_le z
   have hcz:(if 0<(if 64<z then 64 else z) then (if 64<z then 64 else z) else 0)=(c:Int):=by rw[← hc.out];unfold zsh.clamp;split <;> split <;> omega
   have hpi:(k:Int)<(pn:Int):=by omega
   have hcz2:max 0 (min z 64)=(c:Int):=by rw[← hc.out];unfold zsh.clamp;omega
   have HCZ:=zh hcz;have HCZ2:=zh hcz2;clear hcz2;clear hcz hpcell hgz epk hpk2 hrd hrc hd hcc hccell hcd hcc1 ed ec hs64 hd64 hxs hxd hx hi ho hr hca hstep hwk hcn hlt hk hn hin hp hC;go_upto_region 8 with (fail)
   first|rw[HCZ.out]|rw[HCZ2.out]
   clear cpk hpi;have hcl64:c≤64:=hc64;clear e2 hpd;have hS0:wr.drew.cell? ⟨p,0,none⟩=some (.slice (some ⟨g,0,none⟩) n cap)∧wr.drew.cell? ⟨gl,k,none⟩=some (.int .i64 (i:Int))∧wr.drew.cell? ⟨g,i*4+1,none⟩=some (.slice (some ⟨gc,0,none⟩) 64 capc):=⟨c0,cl,e1⟩
   refine zah (fun w'=>w'.cell? ⟨p,0,none⟩=some (.slice (some ⟨g,0,none⟩) n cap)∧w'.cell? ⟨gl,k,none⟩=some (.int .i64 (i:Int))∧w'.cell? ⟨g,i*4+1,none⟩=some (.slice (some ⟨gc,0,none⟩) 64 capc)) (by kernel_rfl) ?_
   clear c0 cl e0 e1;(apply zaa 0 rfl rfl (by kernel_rfl) rfl);(rintro w' ⟨h1,h2,h3⟩;go_simp;rfl);exact hS0;simp only[zq];(apply zaa 1 rfl rfl (by kernel_rfl) rfl);(rintro w' ⟨h1,h2,h3⟩;go_simp;rfl);exact hS0;simp only[zq];(apply zaa 2 rfl rfl (by kernel_rfl) rfl);(rintro w' ⟨h1,h2,h3⟩;go_simp;rfl);exact hS0;simp only[zq];(apply zaa 3 rfl rfl (by kernel_rfl) rfl);(rintro w' ⟨h1,h2,h3⟩;go_simp;rfl);exact hS0;simp only[zq];(apply zaa 4 rfl rfl (by kernel_rfl) rfl);(rintro w' ⟨h1,h2,h3⟩;go_simp;rfl);exact hS0;simp only[zq]
   (apply zaa 5 rfl rfl (by kernel_rfl) rfl);(rintro w' ⟨h1,h2,h3⟩;go_simp;rfl);exact hS0;simp only[zq];(apply zaa 6 rfl rfl (by kernel_rfl) rfl);(rintro w' ⟨h1,h2,h3⟩;go_simp;rfl);exact hS0;simp only[zq];(apply zaa 7 rfl rfl (by kernel_rfl) rfl);(rintro w' ⟨h1,h2,h3⟩;go_simp;rfl);exact hS0;simp only[zq];(apply zaa 8 rfl rfl (by kernel_rfl) rfl);(rintro w' ⟨h1,h2,h3⟩;go_simp;rfl);exact hS0;simp only[zq];(apply zaa 9 rfl rfl (by kernel_rfl) rfl);(rintro w' ⟨h1,h2,h3⟩;go_simp;rfl);exact hS0;simp only[zq]
   (apply zaa 10 rfl rfl (by kernel_rfl) rfl);(rintro w' ⟨h1,h2,h3⟩;go_simp;rfl);exact hS0;simp only[zq];(apply zaa 11 rfl rfl (by kernel_rfl) rfl);(rintro w' ⟨h1,h2,h3⟩;go_simp;rfl);exact hS0;simp only[zq];(apply zaa 12 rfl rfl (by kernel_rfl) rfl);(rintro w' ⟨h1,h2,h3⟩;go_simp;rfl);exact hS0;simp only[zq]
   refine zaa 13 (v:=.slice (some ⟨gc,0,none⟩) c capc) rfl rfl (by kernel_rfl) rfl (fun w' _=>zd7 rfl rfl (zjt underlying69 zpC gc 0 64 capc c (Nat.le_trans hcl64 HCL.out.2) w')) hS0 ?_;simp only[zq]
   obtain⟨ti,hti,hz0,hts,hz2⟩:=info_parts zfm;obtain⟨v5,w5,hr5,hsm5,hs5⟩:=zaH (P:=prog) 69 69 TU8 ti _ underlying69 hti hz0 (by rw[hts];rfl) (.slice none 0 0) 0 [] (by rw[hts];exact zbp.2 HO.out.drew) ⟨gc,0,none⟩ c capc (za2 (s.take c)) (by rw[hts,zdd,List.length_take,HSD.out.1];omega)
    (by
     intro j u hu;obtain⟨hj,rfl⟩:=zev hu;rw[List.length_take] at hj;rw[Addr.add_mid,Nat.zero_add,List.getElem_take]
     exact HCC.out j (by omega)) (zde _) (by unfold maxLen;omega) (by rw[hz2];omega)
   rw[hts,List.nil_append,Nat.zero_add] at hs5;have ho5:Sat w5 (zcV p g n cap L (zaf TU8 1 v5 c (za2 (s.take c))*(zaf TIn 1 (.slice (some ⟨gl,0,none⟩) m rc) m (D.pending.map zhL)*F))):=hs5.perm (by unfold zcV;ac_rfl);have ho5':Sat w5 (zcV p g n cap L (zaf TIn 1 (.slice (some ⟨gl,0,none⟩) m rc) m (D.pending.map zhL)*(zaf TU8 1 v5 c (za2 (s.take c))*F))):=hs5.perm (by unfold zcV;ac_rfl);obtain⟨gl',egl,cl⟩:=zdm ho5' HI.out hm.out
   obtain rfl:gl'=gl:=by simp only[Option.some.injEq,Addr.mk.injEq,and_true] at egl;exact egl.symm
   obtain⟨c0,e0,e1,-,-,-⟩:=zaW ho5 HX.out;rw[HED.out.1] at e0;rw[HED.out.2] at e1;have hS5:w5.cell? ⟨p,0,none⟩=some (.slice (some ⟨g,0,none⟩) n cap)∧w5.cell? ⟨gl',k,none⟩=some (.int .i64 (i:Int))∧w5.cell? ⟨g,i*4+1,none⟩=some (.slice (some ⟨gc,0,none⟩) 64 capc):=⟨c0,cl,e1⟩;refine zaV 14 (v5) (w5) rfl rfl (by kernel_rfl) rfl (zbc rfl rfl rfl hr5) (hS5) ?_;simp only[zq];refine zdB 15 (v5) (w5) rfl rfl (by kernel_rfl) rfl (by go_simp) ?_;simp only[zq];have H5:=(zd (H1.out.1.drew.trans hsm5) ho5);clear hS0 hS5 hr5 hsm5 hs5 ho5' hti hz0 hts hz2 egl e1
   obtain⟨R1,R2,hrd,-⟩:=zdT ho5 HX.out;obtain⟨aod',capd',ed,hd⟩:=zbI hrd;obtain⟨gd',rfl,-,hdcell⟩:=hd (by intro h;have:=HSD.out.2.1;rw[h] at this;simp at this);rw[HED.out.1,HSD.out.2.1] at ed;simp only[Value.slice.injEq,Option.some.injEq,Addr.mk.injEq,and_true,true_and] at ed;obtain⟨rfl,rfl⟩:=ed;have HDC:=zh hdcell;clear hrd hd hdcell ho5;go_upto_region 9 with (fail)
   have hS0:w5.drew.cell? ⟨p,0,none⟩=some (.slice (some ⟨g,0,none⟩) n cap)∧w5.drew.cell? ⟨gl',k,none⟩=some (.int .i64 (i:Int))∧w5.drew.cell? ⟨g,i*4,none⟩=some (.slice (some ⟨gd,0,none⟩) 64 capd):=⟨c0,cl,e0⟩
   refine zah (fun w'=>w'.cell? ⟨p,0,none⟩=some (.slice (some ⟨g,0,none⟩) n cap)∧w'.cell? ⟨gl',k,none⟩=some (.int .i64 (i:Int))∧w'.cell? ⟨g,i*4,none⟩=some (.slice (some ⟨gd,0,none⟩) 64 capd)) (by kernel_rfl) ?_
   clear c0 cl e0;(apply zaa 0 rfl rfl (by kernel_rfl) rfl);(rintro w' ⟨h1,h2,h3⟩;go_simp;rfl);exact hS0;simp only[zq];(apply zaa 1 rfl rfl (by kernel_rfl) rfl);(rintro w' ⟨h1,h2,h3⟩;go_simp;rfl);exact hS0;simp only[zq];(apply zaa 2 rfl rfl (by kernel_rfl) rfl);(rintro w' ⟨h1,h2,h3⟩;go_simp;rfl);exact hS0;simp only[zq];(apply zaa 3 rfl rfl (by kernel_rfl) rfl);(rintro w' ⟨h1,h2,h3⟩;go_simp;rfl);exact hS0;simp only[zq];(apply zaa 4 rfl rfl (by kernel_rfl) rfl);(rintro w' ⟨h1,h2,h3⟩;go_simp;rfl);exact hS0;simp only[zq]
   (apply zaa 5 rfl rfl (by kernel_rfl) rfl);(rintro w' ⟨h1,h2,h3⟩;go_simp;rfl);exact hS0;simp only[zq];(apply zaa 6 rfl rfl (by kernel_rfl) rfl);(rintro w' ⟨h1,h2,h3⟩;go_simp;rfl);exact hS0;simp only[zq];(apply zaa 7 rfl rfl (by kernel_rfl) rfl);(rintro w' ⟨h1,h2,h3⟩;go_simp;rfl);exact hS0;simp only[zq];(apply zaa 8 rfl rfl (by kernel_rfl) rfl);(rintro w' ⟨h1,h2,h3⟩;go_simp;rfl);exact hS0;simp only[zq];(apply zaa 9 rfl rfl (by kernel_rfl) rfl);(rintro w' ⟨h1,h2,h3⟩;go_simp;rfl);exact hS0;simp only[zq]
   (apply zaa 10 rfl rfl (by kernel_rfl) rfl);(rintro w' ⟨h1,h2,h3⟩;go_simp;rfl);exact hS0;simp only[zq];(apply zaa 11 rfl rfl (by kernel_rfl) rfl);(rintro w' ⟨h1,h2,h3⟩;go_simp;rfl);exact hS0;simp only[zq];(apply zaa 12 rfl rfl (by kernel_rfl) rfl);(rintro w' ⟨h1,h2,h3⟩;go_simp;rfl);exact hS0;simp only[zq];(apply zaa 13 rfl rfl (by kernel_rfl) rfl);(rintro w' ⟨h1,h2,h3⟩;go_simp;rfl);exact hS0;simp only[zq];(apply zaa 14 rfl rfl (by kernel_rfl) rfl);(rintro w' ⟨h1,h2,h3⟩;go_simp;rfl);exact hS0;simp only[zq]
   (apply zaa 15 rfl rfl (by kernel_rfl) rfl);(rintro w' ⟨h1,h2,h3⟩;go_simp;rfl);exact hS0;simp only[zq];(apply zaa 16 rfl rfl (by kernel_rfl) rfl);(rintro w' ⟨h1,h2,h3⟩;go_simp;rfl);exact hS0;simp only[zq];(apply zaa 17 rfl rfl (by kernel_rfl) rfl);(rintro w' ⟨h1,h2,h3⟩;go_simp;rfl);exact hS0;simp only[zq];(apply zaa 18 rfl rfl (by kernel_rfl) rfl);(rintro w' ⟨h1,h2,h3⟩;go_simp;rfl);exact hS0;simp only[zq];(apply zaa 19 rfl rfl (by kernel_rfl) rfl);(rintro w' ⟨h1,h2,h3⟩;go_simp;rfl);exact hS0;simp only[zq]
   (apply zaa 20 rfl rfl (by kernel_rfl) rfl);(rintro w' ⟨h1,h2,h3⟩;go_simp;rfl);exact hS0;simp only[zq];refine zaa 21 (v:=.slice (some (if capd=c then ⟨gd,0,none⟩ else ⟨gd,0+c*1,none⟩)) (64 - c) (capd - c)) rfl rfl (by kernel_rfl) rfl (fun w' _=>zd7 rfl rfl (zju underlying69 zpC gd 0 64 capd c hcl64 w')) hS0 ?_;simp only[zq];obtain⟨ti,hti,hz0,hts,hz2⟩:=info_parts zfm;have hA6:=H5.out.2.drew.perm (show _=zaf TU8 1 v5 c (za2 (s.take c))*zcV p g n cap L (zaf TIn 1 (.slice (some ⟨gl',0,none⟩) m rc) m (D.pending.map zhL)*F) from by unfold zcV;ac_rfl)
   obtain⟨v6,w6,hr6,hsm6,hs6⟩:=zaH (P:=prog) 69 69 TU8 ti _ underlying69 hti hz0 (by rw[hts];rfl) v5 c (za2 (s.take c)) (by rw[hts];exact hA6) (if capd=c then ⟨gd,0,none⟩ else ⟨gd,0+c*1,none⟩) (64 - c) (capd - c) (za2 (x.1.dur.drop c)) (by rw[hts,zdd,List.length_drop,HSD.out.2.1] <;> omega)
    (by
     intro j u hu;obtain⟨hj,rfl⟩:=zev hu;rw[List.length_drop,HSD.out.2.1] at hj;rw[if_neg (by have:=HCL.out.1;omega),Addr.add_mid];refine (congrArg (fun q=>World.cell? w5.drew ⟨gd,q,none⟩) (show 0+c*1+j=c+j by omega)).trans ?_;rw[List.getElem_drop]
     exact HDC.out (c+j) (by rw[HSD.out.2.1];omega)) (zde _) (by unfold maxLen;omega) (by rw[hz2];omega)
   rw[hts,← zfz] at hs6
   have htl:(s.take c++x.1.dur.drop c).length=64:=by rw[List.length_append,List.length_take,List.length_drop,HSD.out.1,HSD.out.2.1];omega
   rw[show c+(64 - c)=(s.take c++x.1.dur.drop c).length by rw[htl] <;> omega] at hs6
   have ho6:Sat w6 (zcV p g n cap L (zbW TU8 v6 (s.take c++x.1.dur.drop c)*(zaf TIn 1 (.slice (some ⟨gl',0,none⟩) m rc) m (D.pending.map zhL)*F))):=(zee hs6).perm (by unfold zcV;ac_rfl);have ho6':Sat w6 (zcV p g n cap L (zaf TIn 1 (.slice (some ⟨gl',0,none⟩) m rc) m (D.pending.map zhL)*(zbW TU8 v6 (s.take c++x.1.dur.drop c)*F))):=(zee hs6).perm (by unfold zcV;ac_rfl);obtain⟨gl2,egl,cl⟩:=zdm ho6' HI.out hm.out
   obtain rfl:gl2=gl':=by simp only[Option.some.injEq,Addr.mk.injEq,and_true] at egl;exact egl.symm
   obtain⟨c0,e0,-,-,-,ff⟩:=zaW ho6 HX.out;rw[HED.out.1] at e0;have hS6:w6.cell? ⟨p,0,none⟩=some (.slice (some ⟨g,0,none⟩) n cap)∧w6.cell? ⟨gl2,k,none⟩=some (.int .i64 (i:Int))∧w6.cell? ⟨g,i*4,none⟩=some (.slice (some ⟨gd,0,none⟩) 64 capd):=⟨c0,cl,e0⟩;refine zaV 22 (v6) (w6) rfl rfl (by kernel_rfl) rfl (zbc rfl rfl rfl hr6) (hS6) ?_;simp only[zq];(apply zaa 23 rfl rfl (by kernel_rfl) rfl);(rintro w' ⟨h1,h2,h3⟩;go_simp;rfl);exact hS6;simp only[zq];(apply zaa 24 rfl rfl (by kernel_rfl) rfl);(rintro w' ⟨h1,h2,h3⟩;go_simp;rfl);exact hS6;simp only[zq]
   obtain⟨ip,hip,hip2⟩:=Option.map_eq_some_iff.1 (show (prog.info? 69).map (·.size)=some 1 by kernel_rfl);obtain⟨ao6,cp6,rfl⟩:=zal hs6;refine zat 25 (w6.setCell ⟨g,i*4,none⟩ (.slice ao6 (s.take c++x.1.dur.drop c).length cp6)) rfl rfl (by kernel_rfl) rfl (zay rfl rfl rfl hip hip2 rfl e0 (ff (i*4))) ?_;have hst:=zbR ho6 HX.out (zkJ x.1 (s.take c++x.1.dur.drop c),.slice ao6 (s.take c++x.1.dur.drop c).length cp6,x.2.2) 0 (.slice ao6 (s.take c++x.1.dur.drop c).length cp6) (by omega) rfl (zit x _ _ _);have H7:=zh (show Same w (w6.setCell ⟨g,i*4,none⟩ (.slice ao6 (s.take c++x.1.dur.drop c).length cp6))∧_ from And.intro ((H5.out.1.drew.trans hsm6).setCell _ _) (zdS hst))
   clear hS0 hS6 hr6 hsm6 hs6 ho6 ho6' hA6 hti hz0 hts hz2 egl c0 e0 cl ff hst hip hip2 ip;generalize hW7:w6.setCell ⟨g,i*4,none⟩ _=W7 at H7 ⊢;clear hW7;obtain⟨t,ht⟩:∃ t,Hid (s.take c++x.1.dur.drop c=t):=⟨_,zh rfl⟩;rw[ht.out] at H7 htl;rw[htl] at H7;go_upto_region 10 with (fail)
   have hil:i<L.length:=(List.getElem?_eq_some_iff.1 HX.out).1
   have hx7:(L.set i (zkJ x.1 t,Value.slice ao6 64 cp6,x.2.2))[i]?=some (zkJ x.1 t,Value.slice ao6 64 cp6,x.2.2):=by rw[List.getElem?_set_self hil]
   obtain⟨gl3,egl,cl⟩:=zdm H7.out.2 HI.out hm.out
   obtain rfl:gl3=gl2:=by simp only[Option.some.injEq,Addr.mk.injEq,and_true] at egl;exact egl.symm
   obtain⟨c0,-,-,e2,-,ff⟩:=zaW H7.out.2 hx7;have hS0:W7.drew.cell? ⟨p,0,none⟩=some (.slice (some ⟨g,0,none⟩) n cap)∧W7.drew.cell? ⟨gl3,k,none⟩=some (.int .i64 (i:Int)):=⟨c0,cl⟩
   refine zah (fun w'=>w'.cell? ⟨p,0,none⟩=some (.slice (some ⟨g,0,none⟩) n cap)∧w'.cell? ⟨gl3,k,none⟩=some (.int .i64 (i:Int))) (by kernel_rfl) ?_
   (apply zaa 0 rfl rfl (by kernel_rfl) rfl);(rintro w' ⟨h1,h2⟩;go_simp;rfl);exact hS0;simp only[zq];(apply zaa 1 rfl rfl (by kernel_rfl) rfl);(rintro w' ⟨h1,h2⟩;go_simp;rfl);exact hS0;simp only[zq];(apply zaa 2 rfl rfl (by kernel_rfl) rfl);(rintro w' ⟨h1,h2⟩;go_simp;rfl);exact hS0;simp only[zq];(apply zaa 3 rfl rfl (by kernel_rfl) rfl);(rintro w' ⟨h1,h2⟩;go_simp;rfl);exact hS0;simp only[zq];(apply zaa 4 rfl rfl (by kernel_rfl) rfl);(rintro w' ⟨h1,h2⟩;go_simp;rfl);exact hS0;simp only[zq];(apply zaa 5 rfl rfl (by kernel_rfl) rfl);(rintro w' ⟨h1,h2⟩;go_simp;rfl);exact hS0;simp only[zq]
   (apply zaa 6 rfl rfl (by kernel_rfl) rfl);(rintro w' ⟨h1,h2⟩;go_simp;rfl);exact hS0;simp only[zq];(apply zaa 7 rfl rfl (by kernel_rfl) rfl);(rintro w' ⟨h1,h2⟩;go_simp;rfl);exact hS0;simp only[zq];(apply zaa 8 rfl rfl (by kernel_rfl) rfl);(rintro w' ⟨h1,h2⟩;go_simp;rfl);exact hS0;simp only[zq];(apply zaa 9 rfl rfl (by kernel_rfl) rfl);(rintro w' ⟨h1,h2⟩;go_simp;rfl);exact hS0;simp only[zq];obtain⟨ip,hip,hip2⟩:=Option.map_eq_some_iff.1 (show (prog.info? 4).map (·.size)=some 1 by kernel_rfl);refine zat 10 (W7.drew.setCell ⟨g,i*4+2,none⟩ (.bool false)) rfl rfl (by kernel_rfl) rfl (zay rfl rfl rfl hip hip2 rfl e2 (ff (i*4+2))) ?_
   have hst:=zbR H7.out.2.drew hx7 (x.1.settle t,.slice ao6 64 cp6,x.2.2) 2 (.bool false) (by omega) rfl rfl;rw[List.set_set] at hst;have H8:=(zd (H7.out.1.drew.setCell ⟨g,i*4+2,none⟩ (.bool false)) hst);have HRN:=zh (HRF.out.settle HX.out t (.slice ao6 64 cp6));clear hS0 egl c0 cl e2 ff hst hip hip2 ip hx7 hil;go_wp2
   go_roundw
   case rel =>
    refine⟨⟨k+1,_,HK.out.2,rfl,by rw[List.length_set];exact HLN.out,?_,H8.out⟩⟩;rw[HST.out,hz.out]
    have e:zsh.torn s (C.dur i) z=t:=by rw[← HSD.out.2.2.2.1,← ht.out];unfold zsh.torn;rw[hc.out]
    rw[e];exact HRN.out
   case measure=>have:=HK.out;simp only[intOf];omega
  case neg =>
   have hpd:decide (k<pn)=false:=decide_eq_false hp
   have hc:Hid (zsh.clamp z=0):=zh (by
    have:=hz.out;rw[List.getD_eq_getElem?_getD,List.getElem?_eq_none (by rw[hpn.out];omega)] at this
    rw[← this];rfl)
   have hc64:0≤64:=by omega
   clear hpc hrd hrc hd hcc hccell hcd hcc1 ed ec hs64 hd64 hxs hxd hx hi ho hr hca hstep hwk hcn hlt hk hn hin hp hC;go_upto_region 8 with (fail)
   have hcl64:0≤64:=hc64;clear e2 hpd;have hS0:wr.drew.cell? ⟨p,0,none⟩=some (.slice (some ⟨g,0,none⟩) n cap)∧wr.drew.cell? ⟨gl,k,none⟩=some (.int .i64 (i:Int))∧wr.drew.cell? ⟨g,i*4+1,none⟩=some (.slice (some ⟨gc,0,none⟩) 64 capc):=⟨c0,cl,e1⟩
   refine zah (fun w'=>w'.cell? ⟨p,0,none⟩=some (.slice (some ⟨g,0,none⟩) n cap)∧w'.cell? ⟨gl,k,none⟩=some (.int .i64 (i:Int))∧w'.cell? ⟨g,i*4+1,none⟩=some (.slice (some ⟨gc,0,none⟩) 64 capc)) (by kernel_rfl) ?_
   clear c0 cl e0 e1;(apply zaa 0 rfl rfl (by kernel_rfl) rfl);(rintro w' ⟨h1,h2,h3⟩;go_simp;rfl);exact hS0;simp only[zq];(apply zaa 1 rfl rfl (by kernel_rfl) rfl);(rintro w' ⟨h1,h2,h3⟩;go_simp;rfl);exact hS0;simp only[zq];(apply zaa 2 rfl rfl (by kernel_rfl) rfl);(rintro w' ⟨h1,h2,h3⟩;go_simp;rfl);exact hS0;simp only[zq];(apply zaa 3 rfl rfl (by kernel_rfl) rfl);(rintro w' ⟨h1,h2,h3⟩;go_simp;rfl);exact hS0;simp only[zq];(apply zaa 4 rfl rfl (by kernel_rfl) rfl);(rintro w' ⟨h1,h2,h3⟩;go_simp;rfl);exact hS0;simp only[zq]
   (apply zaa 5 rfl rfl (by kernel_rfl) rfl);(rintro w' ⟨h1,h2,h3⟩;go_simp;rfl);exact hS0;simp only[zq];(apply zaa 6 rfl rfl (by kernel_rfl) rfl);(rintro w' ⟨h1,h2,h3⟩;go_simp;rfl);exact hS0;simp only[zq];(apply zaa 7 rfl rfl (by kernel_rfl) rfl);(rintro w' ⟨h1,h2,h3⟩;go_simp;rfl);exact hS0;simp only[zq];(apply zaa 8 rfl rfl (by kernel_rfl) rfl);(rintro w' ⟨h1,h2,h3⟩;go_simp;rfl);exact hS0;simp only[zq];(apply zaa 9 rfl rfl (by kernel_rfl) rfl);(rintro w' ⟨h1,h2,h3⟩;go_simp;rfl);exact hS0;simp only[zq]
   (apply zaa 10 rfl rfl (by kernel_rfl) rfl);(rintro w' ⟨h1,h2,h3⟩;go_simp;rfl);exact hS0;simp only[zq];(apply zaa 11 rfl rfl (by kernel_rfl) rfl);(rintro w' ⟨h1,h2,h3⟩;go_simp;rfl);exact hS0;simp only[zq];(apply zaa 12 rfl rfl (by kernel_rfl) rfl);(rintro w' ⟨h1,h2,h3⟩;go_simp;rfl);exact hS0;simp only[zq]
   refine zaa 13 (v:=.slice (some ⟨gc,0,none⟩) 0 capc) rfl rfl (by kernel_rfl) rfl (fun w' _=>zd7 rfl rfl (zjt underlying69 zpC gc 0 64 capc 0 (Nat.le_trans hcl64 HCL.out.2) w')) hS0 ?_;simp only[zq]
   obtain⟨ti,hti,hz0,hts,hz2⟩:=info_parts zfm;obtain⟨v5,w5,hr5,hsm5,hs5⟩:=zaH (P:=prog) 69 69 TU8 ti _ underlying69 hti hz0 (by rw[hts];rfl) (.slice none 0 0) 0 [] (by rw[hts];exact zbp.2 HO.out.drew) ⟨gc,0,none⟩ 0 capc (za2 (s.take 0)) (by rw[hts,zdd,List.length_take,HSD.out.1];omega)
    (by
     intro j u hu;obtain⟨hj,rfl⟩:=zev hu;rw[List.length_take] at hj;rw[Addr.add_mid,Nat.zero_add,List.getElem_take]
     exact HCC.out j (by omega)) (zde _) (by unfold maxLen;omega) (by rw[hz2];omega)
   rw[hts,List.nil_append,Nat.zero_add] at hs5;have ho5:Sat w5 (zcV p g n cap L (zaf TU8 1 v5 0 (za2 (s.take 0))*(zaf TIn 1 (.slice (some ⟨gl,0,none⟩) m rc) m (D.pending.map zhL)*F))):=hs5.perm (by unfold zcV;ac_rfl);have ho5':Sat w5 (zcV p g n cap L (zaf TIn 1 (.slice (some ⟨gl,0,none⟩) m rc) m (D.pending.map zhL)*(zaf TU8 1 v5 0 (za2 (s.take 0))*F))):=hs5.perm (by unfold zcV;ac_rfl);obtain⟨gl',egl,cl⟩:=zdm ho5' HI.out hm.out
   obtain rfl:gl'=gl:=by simp only[Option.some.injEq,Addr.mk.injEq,and_true] at egl;exact egl.symm
   obtain⟨c0,e0,e1,-,-,-⟩:=zaW ho5 HX.out;rw[HED.out.1] at e0;rw[HED.out.2] at e1;have hS5:w5.cell? ⟨p,0,none⟩=some (.slice (some ⟨g,0,none⟩) n cap)∧w5.cell? ⟨gl',k,none⟩=some (.int .i64 (i:Int))∧w5.cell? ⟨g,i*4+1,none⟩=some (.slice (some ⟨gc,0,none⟩) 64 capc):=⟨c0,cl,e1⟩;refine zaV 14 (v5) (w5) rfl rfl (by kernel_rfl) rfl (zbc rfl rfl rfl hr5) (hS5) ?_;simp only[zq];refine zdB 15 (v5) (w5) rfl rfl (by kernel_rfl) rfl (by go_simp) ?_;simp only[zq];have H5:=(zd (H1.out.1.drew.trans hsm5) ho5);clear hS0 hS5 hr5 hsm5 hs5 ho5' hti hz0 hts hz2 egl e1
   obtain⟨R1,R2,hrd,-⟩:=zdT ho5 HX.out;obtain⟨aod',capd',ed,hd⟩:=zbI hrd;obtain⟨gd',rfl,-,hdcell⟩:=hd (by intro h;have:=HSD.out.2.1;rw[h] at this;simp at this);rw[HED.out.1,HSD.out.2.1] at ed;simp only[Value.slice.injEq,Option.some.injEq,Addr.mk.injEq,and_true,true_and] at ed;obtain⟨rfl,rfl⟩:=ed;have HDC:=zh hdcell;clear hrd hd hdcell ho5;go_upto_region 9 with (fail)
   have hS0:w5.drew.cell? ⟨p,0,none⟩=some (.slice (some ⟨g,0,none⟩) n cap)∧w5.drew.cell? ⟨gl',k,none⟩=some (.int .i64 (i:Int))∧w5.drew.cell? ⟨g,i*4,none⟩=some (.slice (some ⟨gd,0,none⟩) 64 capd):=⟨c0,cl,e0⟩
   refine zah (fun w'=>w'.cell? ⟨p,0,none⟩=some (.slice (some ⟨g,0,none⟩) n cap)∧w'.cell? ⟨gl',k,none⟩=some (.int .i64 (i:Int))∧w'.cell? ⟨g,i*4,none⟩=some (.slice (some ⟨gd,0,none⟩) 64 capd)) (by kernel_rfl) ?_
   clear c0 cl e0;(apply zaa 0 rfl rfl (by kernel_rfl) rfl);(rintro w' ⟨h1,h2,h3⟩;go_simp;rfl);exact hS0;simp only[zq];(apply zaa 1 rfl rfl (by kernel_rfl) rfl);(rintro w' ⟨h1,h2,h3⟩;go_simp;rfl);exact hS0;simp only[zq];(apply zaa 2 rfl rfl (by kernel_rfl) rfl);(rintro w' ⟨h1,h2,h3⟩;go_simp;rfl);exact hS0;simp only[zq];(apply zaa 3 rfl rfl (by kernel_rfl) rfl);(rintro w' ⟨h1,h2,h3⟩;go_simp;rfl);exact hS0;simp only[zq];(apply zaa 4 rfl rfl (by kernel_rfl) rfl);(rintro w' ⟨h1,h2,h3⟩;go_simp;rfl);exact hS0;simp only[zq]
   (apply zaa 5 rfl rfl (by kernel_rfl) rfl);(rintro w' ⟨h1,h2,h3⟩;go_simp;rfl);exact hS0;simp only[zq];(apply zaa 6 rfl rfl (by kernel_rfl) rfl);(rintro w' ⟨h1,h2,h3⟩;go_simp;rfl);exact hS0;simp only[zq];(apply zaa 7 rfl rfl (by kernel_rfl) rfl);(rintro w' ⟨h1,h2,h3⟩;go_simp;rfl);exact hS0;simp only[zq];(apply zaa 8 rfl rfl (by kernel_rfl) rfl);(rintro w' ⟨h1,h2,h3⟩;go_simp;rfl);exact hS0;simp only[zq];(apply zaa 9 rfl rfl (by kernel_rfl) rfl);(rintro w' ⟨h1,h2,h3⟩;go_simp;rfl);exact hS0;simp only[zq]
   (apply zaa 10 rfl rfl (by kernel_rfl) rfl);(rintro w' ⟨h1,h2,h3⟩;go_simp;rfl);exact hS0;simp only[zq];(apply zaa 11 rfl rfl (by kernel_rfl) rfl);(rintro w' ⟨h1,h2,h3⟩;go_simp;rfl);exact hS0;simp only[zq];(apply zaa 12 rfl rfl (by kernel_rfl) rfl);(rintro w' ⟨h1,h2,h3⟩;go_simp;rfl);exact hS0;simp only[zq];(apply zaa 13 rfl rfl (by kernel_rfl) rfl);(rintro w' ⟨h1,h2,h3⟩;go_simp;rfl);exact hS0;simp only[zq];(apply zaa 14 rfl rfl (by kernel_rfl) rfl);(rintro w' ⟨h1,h2,h3⟩;go_simp;rfl);exact hS0;simp only[zq]
   (apply zaa 15 rfl rfl (by kernel_rfl) rfl);(rintro w' ⟨h1,h2,h3⟩;go_simp;rfl);exact hS0;simp only[zq];(apply zaa 16 rfl rfl (by kernel_rfl) rfl);(rintro w' ⟨h1,h2,h3⟩;go_simp;rfl);exact hS0;simp only[zq];(apply zaa 17 rfl rfl (by kernel_rfl) rfl);(rintro w' ⟨h1,h2,h3⟩;go_simp;rfl);exact hS0;simp only[zq];(apply zaa 18 rfl rfl (by kernel_rfl) rfl);(rintro w' ⟨h1,h2,h3⟩;go_simp;rfl);exact hS0;simp only[zq];(apply zaa 19 rfl rfl (by kernel_rfl) rfl);(rintro w' ⟨h1,h2,h3⟩;go_simp;rfl);exact hS0;simp only[zq]
   (apply zaa 20 rfl rfl (by kernel_rfl) rfl);(rintro w' ⟨h1,h2,h3⟩;go_simp;rfl);exact hS0;simp only[zq];refine zaa 21 (v:=.slice (some (if capd=0 then ⟨gd,0,none⟩ else ⟨gd,0+0*1,none⟩)) (64 - 0) (capd - 0)) rfl rfl (by kernel_rfl) rfl (fun w' _=>zd7 rfl rfl (zju underlying69 zpC gd 0 64 capd 0 hcl64 w')) hS0 ?_;simp only[zq];obtain⟨ti,hti,hz0,hts,hz2⟩:=info_parts zfm;have hA6:=H5.out.2.drew.perm (show _=zaf TU8 1 v5 0 (za2 (s.take 0))*zcV p g n cap L (zaf TIn 1 (.slice (some ⟨gl',0,none⟩) m rc) m (D.pending.map zhL)*F) from by unfold zcV;ac_rfl)
   obtain⟨v6,w6,hr6,hsm6,hs6⟩:=zaH (P:=prog) 69 69 TU8 ti _ underlying69 hti hz0 (by rw[hts];rfl) v5 0 (za2 (s.take 0)) (by rw[hts];exact hA6) (if capd=0 then ⟨gd,0,none⟩ else ⟨gd,0+0*1,none⟩) (64 - 0) (capd - 0) (za2 (x.1.dur.drop 0)) (by rw[hts,zdd,List.length_drop,HSD.out.2.1] <;> omega)
    (by
     intro j u hu;obtain⟨hj,rfl⟩:=zev hu;rw[List.length_drop,HSD.out.2.1] at hj;rw[if_neg (by have:=HCL.out.1;omega),Addr.add_mid];refine (congrArg (fun q=>World.cell? w5.drew ⟨gd,q,none⟩) (show 0+0*1+j=0+j by omega)).trans ?_;rw[List.getElem_drop]
     exact HDC.out (0+j) (by rw[HSD.out.2.1];omega)) (zde _) (by unfold maxLen;omega) (by rw[hz2];omega)
   rw[hts,← zfz] at hs6
   have htl:(s.take 0++x.1.dur.drop 0).length=64:=by rw[List.length_append,List.length_take,List.length_drop,HSD.out.1,HSD.out.2.1];omega
   rw[show 0+(64 - 0)=(s.take 0++x.1.dur.drop 0).length by rw[htl] <;> omega] at hs6
   have ho6:Sat w6 (zcV p g n cap L (zbW TU8 v6 (s.take 0++x.1.dur.drop 0)*(zaf TIn 1 (.slice (some ⟨gl',0,none⟩) m rc) m (D.pending.map zhL)*F))):=(zee hs6).perm (by unfold zcV;ac_rfl);have ho6':Sat w6 (zcV p g n cap L (zaf TIn 1 (.slice (some ⟨gl',0,none⟩) m rc) m (D.pending.map zhL)*(zbW TU8 v6 (s.take 0++x.1.dur.drop 0)*F))):=(zee hs6).perm (by unfold zcV;ac_rfl);obtain⟨gl2,egl,cl⟩:=zdm ho6' HI.out hm.out
   obtain rfl:gl2=gl':=by simp only[Option.some.injEq,Addr.mk.injEq,and_true] at egl;exact egl.symm
   obtain⟨c0,e0,-,-,-,ff⟩:=zaW ho6 HX.out;rw[HED.out.1] at e0;have hS6:w6.cell? ⟨p,0,none⟩=some (.slice (some ⟨g,0,none⟩) n cap)∧w6.cell? ⟨gl2,k,none⟩=some (.int .i64 (i:Int))∧w6.cell? ⟨g,i*4,none⟩=some (.slice (some ⟨gd,0,none⟩) 64 capd):=⟨c0,cl,e0⟩;refine zaV 22 (v6) (w6) rfl rfl (by kernel_rfl) rfl (zbc rfl rfl rfl hr6) (hS6) ?_;simp only[zq];(apply zaa 23 rfl rfl (by kernel_rfl) rfl);(rintro w' ⟨h1,h2,h3⟩;go_simp;rfl);exact hS6;simp only[zq];(apply zaa 24 rfl rfl (by kernel_rfl) rfl);(rintro w' ⟨h1,h2,h3⟩;go_simp;rfl);exact hS6;simp only[zq]
   obtain⟨ip,hip,hip2⟩:=Option.map_eq_some_iff.1 (show (prog.info? 69).map (·.size)=some 1 by kernel_rfl);obtain⟨ao6,cp6,rfl⟩:=zal hs6;refine zat 25 (w6.setCell ⟨g,i*4,none⟩ (.slice ao6 (s.take 0++x.1.dur.drop 0).length cp6)) rfl rfl (by kernel_rfl) rfl (zay rfl rfl rfl hip hip2 rfl e0 (ff (i*4))) ?_;have hst:=zbR ho6 HX.out (zkJ x.1 (s.take 0++x.1.dur.drop 0),.slice ao6 (s.take 0++x.1.dur.drop 0).length cp6,x.2.2) 0 (.slice ao6 (s.take 0++x.1.dur.drop 0).length cp6) (by omega) rfl (zit x _ _ _);have H7:=zh (show Same w (w6.setCell ⟨g,i*4,none⟩ (.slice ao6 (s.take 0++x.1.dur.drop 0).length cp6))∧_ from And.intro ((H5.out.1.drew.trans hsm6).setCell _ _) (zdS hst))
   clear hS0 hS6 hr6 hsm6 hs6 ho6 ho6' hA6 hti hz0 hts hz2 egl c0 e0 cl ff hst hip hip2 ip;generalize hW7:w6.setCell ⟨g,i*4,none⟩ _=W7 at H7 ⊢;clear hW7;obtain⟨t,ht⟩:∃ t,Hid (s.take 0++x.1.dur.drop 0=t):=⟨_,zh rfl⟩;rw[ht.out] at H7 htl;rw[htl] at H7;go_upto_region 10 with (fail)
   have hil:i<L.length:=(List.getElem?_eq_some_iff.1 HX.out).1
   have hx7:(L.set i (zkJ x.1 t,Value.slice ao6 64 cp6,x.2.2))[i]?=some (zkJ x.1 t,Value.slice ao6 64 cp6,x.2.2):=by rw[List.getElem?_set_self hil]
   obtain⟨gl3,egl,cl⟩:=zdm H7.out.2 HI.out hm.out
   obtain rfl:gl3=gl2:=by simp only[Option.some.injEq,Addr.mk.injEq,and_true] at egl;exact egl.symm
   obtain⟨c0,-,-,e2,-,ff⟩:=zaW H7.out.2 hx7;have hS0:W7.drew.cell? ⟨p,0,none⟩=some (.slice (some ⟨g,0,none⟩) n cap)∧W7.drew.cell? ⟨gl3,k,none⟩=some (.int .i64 (i:Int)):=⟨c0,cl⟩
   refine zah (fun w'=>w'.cell? ⟨p,0,none⟩=some (.slice (some ⟨g,0,none⟩) n cap)∧w'.cell? ⟨gl3,k,none⟩=some (.int .i64 (i:Int))) (by kernel_rfl) ?_
   (apply zaa 0 rfl rfl (by kernel_rfl) rfl);(rintro w' ⟨h1,h2⟩;go_simp;rfl);exact hS0;simp only[zq];(apply zaa 1 rfl rfl (by kernel_rfl) rfl);(rintro w' ⟨h1,h2⟩;go_simp;rfl);exact hS0;simp only[zq];(apply zaa 2 rfl rfl (by kernel_rfl) rfl);(rintro w' ⟨h1,h2⟩;go_simp;rfl);exact hS0;simp only[zq];(apply zaa 3 rfl rfl (by kernel_rfl) rfl);(rintro w' ⟨h1,h2⟩;go_simp;rfl);exact hS0;simp only[zq];(apply zaa 4 rfl rfl (by kernel_rfl) rfl);(rintro w' ⟨h1,h2⟩;go_simp;rfl);exact hS0;simp only[zq];(apply zaa 5 rfl rfl (by kernel_rfl) rfl);(rintro w' ⟨h1,h2⟩;go_simp;rfl);exact hS0;simp only[zq]
   (apply zaa 6 rfl rfl (by kernel_rfl) rfl);(rintro w' ⟨h1,h2⟩;go_simp;rfl);exact hS0;simp only[zq];(apply zaa 7 rfl rfl (by kernel_rfl) rfl);(rintro w' ⟨h1,h2⟩;go_simp;rfl);exact hS0;simp only[zq];(apply zaa 8 rfl rfl (by kernel_rfl) rfl);(rintro w' ⟨h1,h2⟩;go_simp;rfl);exact hS0;simp only[zq];(apply zaa 9 rfl rfl (by kernel_rfl) rfl);(rintro w' ⟨h1,h2⟩;go_simp;rfl);exact hS0;simp only[zq];obtain⟨ip,hip,hip2⟩:=Option.map_eq_some_iff.1 (show (prog.info? 4).map (·.size)=some 1 by kernel_rfl);refine zat 10 (W7.drew.setCell ⟨g,i*4+2,none⟩ (.bool false)) rfl rfl (by kernel_rfl) rfl (zay rfl rfl rfl hip hip2 rfl e2 (ff (i*4+2))) ?_
   have hst:=zbR H7.out.2.drew hx7 (x.1.settle t,.slice ao6 64 cp6,x.2.2) 2 (.bool false) (by omega) rfl rfl;rw[List.set_set] at hst;have H8:=(zd (H7.out.1.drew.setCell ⟨g,i*4+2,none⟩ (.bool false)) hst);have HRN:=zh (HRF.out.settle HX.out t (.slice ao6 64 cp6));clear hS0 egl c0 cl e2 ff hst hip hip2 ip hx7 hil;go_wp2
   go_roundw
   case rel =>
    refine⟨⟨k+1,_,HK.out.2,rfl,by rw[List.length_set];exact HLN.out,?_,H8.out⟩⟩;rw[HST.out,hz.out]
    have e:zsh.torn s (C.dur i) z=t:=by rw[← HSD.out.2.2.2.1,← ht.out];unfold zsh.torn;rw[hc.out]
    rw[e];exact HRN.out
   case measure=>have:=HK.out;simp only[intOf];omega
end Go.Proofs.YtmcclbiaoeilkaaGreat
