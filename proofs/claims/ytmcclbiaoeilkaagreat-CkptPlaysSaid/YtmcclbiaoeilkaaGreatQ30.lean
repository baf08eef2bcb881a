import Derived.Test.YtmcclbiaoeilkaaGreatQ29
set_option maxHeartbeats 8000000
set_option maxRecDepth 40000
/- Part 30 of a proof;the last part says what is proved. -/
section
namespace Go.Proofs.YtmcclbiaoeilkaaGreat
open Go.Proofs.Tryz Go.RowKit Go.Sl Go.ChangeMaps
theorem zfr {w:World}{p:Nat}{S:zsg}{F:zsi}(h:Sat w (zad RS p S*F)):
  (w.cell? ⟨p,0,none⟩=some (.int .i64 S.cfg.disks)∧w.cell? ⟨p,1,none⟩=some (.int .i64 S.cfg.racks)∧w.cell? ⟨p,2,none⟩=some (.int .i64 S.cfg.rows)∧w.cell? ⟨p,3,none⟩=some (.int .i64 S.cfg.spare)∧w.cell? ⟨p,4,none⟩=some (.int .i64 S.cfg.log)∧w.cell? ⟨p,5,none⟩=some (.int .i64 S.cfg.image))∧w.cell? ⟨p,9,none⟩=some (.bool (!S.off))∧p<w.heap.size:=by
 obtain⟨vb,vs,vi,ps,qs,_,hs⟩:=za9.1 h;obtain⟨⟨_,_,_,q9,_⟩,hp,hra⟩:=zbN hs;have c0:=hra 0 _ rfl;have c1:=hra 1 _ rfl;have c2:=hra 2 _ rfl;have c3:=hra 3 _ rfl;have c4:=hra 4 _ rfl;have c5:=hra 5 _ rfl;simp only[Nat.zero_add] at c0 c1 c2 c3 c4 c5;exact⟨⟨c0,c1,c2,c3,c4,c5⟩,q9,hp⟩
theorem zdo {p:Nat}{S:zsg}{F:zsi}{w:World}(hS:Sat w (zad RS p S*F)){k:Nat}(hk:k<S.bays.length):∃ g capb gs caps q R,
  (w.cell? ⟨p,6,none⟩=some (.slice (some ⟨g,0,none⟩) S.bays.length capb)∧w.cell? ⟨p,7,none⟩=some (.slice (some ⟨gs,0,none⟩) S.bays.length caps))∧
  (w.cell? ⟨g,k,none⟩=some (.pointer (some ⟨q,0,none⟩))∧w.cell? ⟨gs,k,none⟩=some (.int .i64 (S.state k)))∧Sat w (zbF RT q (S.disk k)*R):=by
 obtain⟨vb,vs,vi,ps,qs,⟨_,h1,h2⟩,hs⟩:=za9.1 hS;obtain⟨⟨q6,q7,_,_,_⟩,_,_⟩:=zbN hs;obtain⟨g,capb,rfl,hb⟩:=zbd hs.right (by omega);obtain⟨gs,caps,rfl,hst⟩:=zbd hs.right.right (by omega);have hbay:=zsg.bay_of (S:=S) (d:=(k:Int)) (by omega) (by omega);rw[Int.toNat_natCast] at hbay;obtain⟨q,hq⟩:∃ q,ps[k]?=some q:=⟨_,List.getElem?_eq_getElem (by omega)⟩;obtain⟨R,hR⟩:=zed (T:=RT) ps (S.bays.map zsk.disk) k (by omega) (by simpa using hk)
 have hd:(S.bays.map zsk.disk)[k]?=some (S.disk k):=by rw[List.getElem?_map,hbay];rfl
 have e:=hR q (S.disk k);rw[zbn hq,zbn hd] at e;refine⟨g,capb,gs,caps,q,R*(zbA RT qs S.images*F),⟨q6,q7⟩,⟨hb k (zaB q) (by rw[List.getElem?_map,hq];rfl),hst k _ (by rw[List.getElem?_map,hbay];rfl)⟩,?_⟩;have h:=hs.right.right.right.right;rw[show RS.rf=RT from rfl,e] at h;rw[← zax] at h;exact h.perm (show _=zbF RT q (S.disk k)*(R*(zbA RT qs S.images*F)) from by ac_rfl)
theorem zcj (p:Nat)(S:zsg)(F:zsi)(d:Int)(w:World)(hS:Sat w (zad RS p S*F)):
  Calls prog 41 #[.pointer (some ⟨p,0,none⟩),d] w fun e w'=>e = .returned (.int .i64 (S.state d))∧w=w':=by
 have hwf:=zbm hS
 by_cases h:0≤d∧d<(S.bays.length:Int)
 ·obtain⟨k,rfl⟩:=Int.eq_ofNat_of_zero_le h.1
  obtain⟨g,capb,gs,caps,q,R,⟨_,c7⟩,⟨_,cs⟩,_⟩:=zdo hS (k:=k) (by omega);have h2:=h.2;obtain⟨n,hn⟩:∃ n,S.bays.length=n:=⟨_,rfl⟩;rw[hn] at c7 h2;clear hS hwf h hn;go_enter func41,ntmps41;go_wp2;go_ret;exact⟨rfl,rfl⟩
 ·have h0:=(zsg.state_pos hwf).2 h
  rw[h0];obtain⟨vb,vs,vi,ps,qs,⟨_,h1,h2⟩,hs⟩:=za9.1 hS;obtain⟨⟨_,q7,_,_,_⟩,_,_⟩:=zbN hs;obtain⟨ao,cap,rfl⟩:=zal hs.right.right;obtain⟨n,hn⟩:∃ n,S.bays.length=n:=⟨_,rfl⟩;rw[hn] at q7 h;clear hs hS hwf h0 hn h1 h2
  by_cases hd:d<0
  ·have hd':decide (d<0)=true:=decide_eq_true hd
   clear hd h;go_enter func41,ntmps41;go_wp2;go_ret;exact⟨rfl,rfl⟩
  ·have hd':decide (d<0)=false:=decide_eq_false hd
   have hd2:decide ((n:Int)≤d)=true:=decide_eq_true (by omega);clear hd h;go_enter func41,ntmps41;go_wp2;go_ret;exact⟨rfl,rfl⟩
theorem znS (p:Nat)(S:zsg)(F:zsi)(w:World)(hS:Sat w (zad RS p S*F)):
  Calls prog 40 #[.pointer (some ⟨p,0,none⟩)] w fun e w'=>e = .returned (.bool (!S.off))∧w=w':=by
 obtain⟨_,c9,_⟩:=zfr hS;generalize (!S.off)=b at c9 ⊢;clear hS;go_enter func40,ntmps40;go_wp2;go_ret;exact⟨rfl,rfl⟩
theorem zec (p:Nat)(S:zsg)(F:zsi)(w:World)(hS:Sat w (zad RS p S*F)):
  Calls prog 39 #[.pointer (some ⟨p,0,none⟩)] w fun e w'=>e = .returned (.agg (za8 S.cfg))∧Below w.heap.size w w':=by
 obtain⟨⟨c0,c1,c2,c3,c4,c5⟩,_,hp⟩:=zfr hS
 generalize S.cfg=c at *
 clear hS;go_enter func39,ntmps39;go_wp2;refine bodyPost_ret (v:=.agg (za8 c)) (by simp[results,results39,go_sem]) rfl ⟨rfl,?_⟩;exact (Below.refl _ _).alloc (Nat.le_refl _) _
def zeU (S:zsg)(a:zsj):Int:=if S.number a<0 then 0 else S.number a
structure zrH (W:World)(ix:Int)(c:zsl)(m:Nat)(n i:Value)(wr:World):Prop where
 st:wr=W∧∃ k:Nat,k≤m∧i = .int .i64 k∧n = .int .i64 (ix+zgi c k)
theorem zpM (c:zsl){k:Nat}(h:k<3):zgi c (k+1)=zgi c k+szN c k:=by
 match k,h with
 | 0,_=>show c.log=0+c.log;omega
 | 1,_=>rfl
 | 2,_=>rfl
theorem znF {c:zsl}(h:c.WF){k:Nat}(hk:k≤3):0≤zgi c k∧zgi c k≤65536:=by
 have:=h.log;have:=h.image;have:=h.rows;have h5:=h.small;unfold zsl.sectors at h5
 match k,hk with
 | 0,_=>show 0≤(0:Int)∧(0:Int)≤65536;omega
 | 1,_=>show 0≤c.log∧c.log≤65536;omega
 | 2,_=>show 0≤c.log+c.image∧c.log+c.image≤65536;omega
 | 3,_=>show 0≤c.log+c.image+c.image∧c.log+c.image+c.image≤65536;omega
theorem zmk (c:zsl){m:Nat}(h:m<4):c.size ((m:Int)+1)=szN c m∧c.base ((m:Int)+1)=zgi c m:=by
 match m,h with
 | 0,_=>exact⟨rfl,rfl⟩
 | 1,_=>exact⟨rfl,rfl⟩
 | 2,_=>exact⟨rfl,rfl⟩
 | 3,_=>exact⟨rfl,rfl⟩
theorem zbx {B:Nat}{a w:World}(h:Below B a w)(n:Nat):Below B a (w.drewN n):=⟨h.os,h.tape,h.output,h.size,h.block⟩
structure zrZ (w W:World)(B g:Nat)(d ar ix:Int)(c:zsl)(p:Nat):Prop where
 below:Below w.heap.size w W
 box:W.cell? ⟨B,0,none⟩=some (.int .i64 d)∧W.cell? ⟨B,1,none⟩=some (.int .i64 ar)∧W.cell? ⟨B,2,none⟩=some (.int .i64 ix)
 row:∀ j,j<4→W.cell? ⟨g,j,none⟩=some (.int .i64 (szN c j))
 cfg:W.cell? ⟨p,0,none⟩=some (.int .i64 c.disks)
theorem zcx (p:Nat)(S:zsg)(F:zsi)(a:zsj)(w:World)(hS:Sat w (zad RS p S*F)):
  Calls prog 74 #[.pointer (some ⟨p,0,none⟩),.agg (plA a)] w fun e w'=>e = .returned (.tuple #[.int .i64 (zeU S a),.bool (decide (0≤S.number a))])∧Below w.heap.size w w':=by
 have hwf:=zbm hS;obtain⟨d,ar,ix⟩:=a;have HWF:=zh hwf;have hlen:=hwf.bays;have hdk:=hwf.cfg.disks
 have hnum:S.number ⟨d,ar,ix⟩=if S.state d=0∨ar<1∨4<ar∨ix<0∨S.cfg.size ar≤ix then -1 else ix+S.cfg.base ar:=rfl
 have hst:=zsg.state_pos hwf (d:=d)
 have hst2:S.state d=0↔¬ (0≤d∧d<S.cfg.disks):=by rw[hst];constructor <;> intro h1 h2 <;> apply h1 <;> omega
 have hA:=hS.alloc (.cells (plA ⟨d,ar,ix⟩) TPl);have HA:=zh hA;have HST:=zh hst2;have HNUM:=zh hnum;obtain⟨nu,hnu⟩:∃ nu,Hid (S.number ⟨d,ar,ix⟩=nu):=⟨_,zh rfl⟩;obtain⟨nv,hnv⟩:∃ nv,Hid (zeU S ⟨d,ar,ix⟩=nv):=⟨_,zh rfl⟩;obtain⟨nb,hnb⟩:∃ nb,Hid (decide (0≤nu)=nb):=⟨_,zh rfl⟩;rw[hnu.out,hnv.out,hnb.out];have HC:=(zd hlen hdk);obtain⟨c,hc⟩:∃ c,S.cfg=c:=⟨_,rfl⟩;have HCC:=zh hc;have hL:c.log=szN c 0∧c.image=szN c 1∧c.rows=szN c 3:=⟨rfl,rfl,rfl⟩;clear hS hA hwf hlen hdk hnum hst hst2 hc hL;go_enter func74,ntmps74
 go_upto_region 1 with (fail);have hbl:Below w.heap.size w (w.alloc (.cells (plA ⟨d,ar,ix⟩) TPl)).drew:=zbx ((Below.refl _ _).alloc (Nat.le_refl _) _) 1;replace HA:=(zd hbl HA.out.drew);clear hbl;unfold plA at HA;refine zah (fun w'=>w'.cell? ⟨p,4,none⟩=some (.int .i64 c.log)∧w'.cell? ⟨p,5,none⟩=some (.int .i64 c.image)∧w'.cell? ⟨p,2,none⟩=some (.int .i64 c.rows)) (by kernel_rfl) ?_;generalize hw1:(w.alloc _).drew=W1 at HA ⊢;clear hw1;obtain⟨⟨c0,c1,c2,c3,c4,c5⟩,_,hp⟩:=zfr HA.out.2.right;rw[HCC.out] at c0 c2 c4 c5
 have hS0:W1.cell? ⟨p,4,none⟩=some (.int .i64 c.log)∧W1.cell? ⟨p,5,none⟩=some (.int .i64 c.image)∧W1.cell? ⟨p,2,none⟩=some (.int .i64 c.rows):=⟨c4,c5,c2⟩;clear c0 c1 c2 c3 c4 c5 hp;(apply zaa 0 rfl rfl (by kernel_rfl) rfl);(rintro w' ⟨h1,h2,h3⟩;go_simp;rfl);exact hS0;simp only[zq];(apply zaa 1 rfl rfl (by kernel_rfl) rfl);(rintro w' ⟨h1,h2,h3⟩;go_simp;rfl);exact hS0;simp only[zq];(apply zaa 2 rfl rfl (by kernel_rfl) rfl);(rintro w' ⟨h1,h2,h3⟩;go_simp;rfl);exact hS0;simp only[zq];(apply zaa 3 rfl rfl (by kernel_rfl) rfl);(rintro w' ⟨h1,h2,h3⟩;go_simp;rfl);exact hS0;simp only[zq]
 (apply zaa 4 rfl rfl (by kernel_rfl) rfl);(rintro w' ⟨h1,h2,h3⟩;go_simp;rfl);exact hS0;simp only[zq];(apply zaa 5 rfl rfl (by kernel_rfl) rfl);(rintro w' ⟨h1,h2,h3⟩;go_simp;rfl);exact hS0;simp only[zq];(apply zaa 6 rfl rfl (by kernel_rfl) rfl);(rintro w' ⟨h1,h2,h3⟩;go_simp;rfl);exact hS0;simp only[zq];(apply zaa 7 rfl rfl (by kernel_rfl) rfl);(rintro w' ⟨h1,h2,h3⟩;go_simp;rfl);exact hS0;simp only[zq];(apply zaa 8 rfl rfl (by kernel_rfl) rfl);(rintro w' ⟨h1,h2,h3⟩;go_simp;rfl);exact hS0;simp only[zq]
 (apply zaa 9 rfl rfl (by kernel_rfl) rfl);(rintro w' ⟨h1,h2,h3⟩;go_simp;rfl);exact hS0;simp only[zq];(apply zaa 10 rfl rfl (by kernel_rfl) rfl);(rintro w' ⟨h1,h2,h3⟩;go_simp;rfl);exact hS0;simp only[zq];(apply zaa 11 rfl rfl (by kernel_rfl) rfl);(rintro w' ⟨h1,h2,h3⟩;go_simp;rfl);exact hS0;simp only[zq];(apply zaa 12 rfl rfl (by kernel_rfl) rfl);(rintro w' ⟨h1,h2,h3⟩;go_simp;rfl);exact hS0;simp only[zq];(apply zaa 13 rfl rfl (by kernel_rfl) rfl);(rintro w' ⟨h1,h2,h3⟩;go_simp;rfl);exact hS0;simp only[zq]
 (apply zaa 14 rfl rfl (by kernel_rfl) rfl);(rintro w' ⟨h1,h2,h3⟩;go_simp;rfl);exact hS0;simp only[zq];(apply zaa 15 rfl rfl (by kernel_rfl) rfl);(rintro w' ⟨h1,h2,h3⟩;go_simp;rfl);exact hS0;simp only[zq];(apply zaa 16 rfl rfl (by kernel_rfl) rfl);(rintro w' ⟨h1,h2,h3⟩;go_simp;rfl);exact hS0;simp only[zq];(apply zaa 17 rfl rfl (by kernel_rfl) rfl);(rintro w' ⟨h1,h2,h3⟩;go_simp;rfl);exact hS0;simp only[zq];(apply zaa 18 rfl rfl (by kernel_rfl) rfl);(rintro w' ⟨h1,h2,h3⟩;go_simp;rfl);exact hS0;simp only[zq]
 (apply zaa 19 rfl rfl (by kernel_rfl) rfl);(rintro w' ⟨h1,h2,h3⟩;go_simp;rfl);exact hS0;simp only[zq];have hA2:=HA.out.2.alloc (.cells (szA c) 3)
 have HN0:=zh (show zrZ w (W1.alloc (.cells (szA c) 3)) w.heap.size W1.heap.size d ar ix c p from⟨HA.out.1.alloc HA.out.1.size _,⟨zab hA2.right.block 0,zab hA2.right.block 1,zab hA2.right.block 2⟩,fun j hj=>by rw[zab hA2.block];exact zpZ c hj,by have:=(zfr hA2.right.right).1.1;rwa [HCC.out] at this⟩)
 obtain⟨⟨c0,c1,c2,c3,c4,c5⟩,_,hp⟩:=zfr hA2.right.right;rw[HCC.out] at c0 c2 c4 c5;have hS1:(W1.alloc (.cells (szA c) 3)).cell? ⟨p,4,none⟩=some (.int .i64 c.log)∧(W1.alloc (.cells (szA c) 3)).cell? ⟨p,5,none⟩=some (.int .i64 c.image)∧(W1.alloc (.cells (szA c) 3)).cell? ⟨p,2,none⟩=some (.int .i64 c.rows):=⟨c4,c5,c2⟩;clear c0 c1 c2 c3 c4 c5 hp hA2;unfold szA at hS1 HN0;refine zaV 20 (.slice (some ⟨W1.heap.size,0,none⟩) 4 4) (W1.alloc (.cells #[c.log,c.image,c.image,c.rows] 3)) rfl rfl (by kernel_rfl) rfl (by go_simp) (hS1) ?_;simp only[zq]
 clear hS0;generalize W1.alloc _=W at HN0 hS1 ⊢;generalize W1.heap.size=g at HN0 ⊢;generalize hB:w.heap.size=B at HN0 ⊢;refine zdB 21 (.slice (some ⟨g,0,none⟩) 4 4) (W) rfl rfl (by kernel_rfl) rfl (by go_simp) ?_;simp only[zq];clear hS1 HA;go_upto_region 2 with (fail)
 obtain⟨b0,b1,b2⟩:=HN0.out.box;have r0:=HN0.out.cfg
 by_cases k0:d<0
 case pos =>
  have d0:decide (d<0)=true:=decide_eq_true k0
  have hneg:S.number ⟨d,ar,ix⟩ = -1:=by rw[HNUM.out];exact if_pos (.inl (HST.out.2 (by omega)))
  have e1:=hnb.out;have e2:=hnv.out;rw[← hnu.out,hneg] at e1;unfold zeU at e2;rw[hneg] at e2
  obtain rfl:nb=false:=by rw[← e1];rfl
  obtain rfl:nv=0:=by rw[← e2];rfl
  clear e1 e2 hneg;clear k0
  go_quiet (fail)
  go_wp2;go_ret2;exact⟨rfl,zbx HN0.out.below _⟩
 have d0:decide (d<0)=false:=decide_eq_false k0
 by_cases k1:c.disks≤d
 case pos =>
  have d1:decide (c.disks≤d)=true:=decide_eq_true k1
  have hneg:S.number ⟨d,ar,ix⟩ = -1:=by rw[HNUM.out];exact if_pos (.inl (HST.out.2 (by rw[HCC.out];omega)))
  have e1:=hnb.out;have e2:=hnv.out;rw[← hnu.out,hneg] at e1;unfold zeU at e2;rw[hneg] at e2
  obtain rfl:nb=false:=by rw[← e1];rfl
  obtain rfl:nv=0:=by rw[← e2];rfl
  clear e1 e2 hneg;clear k0 k1
  go_quiet (fail)
  go_wp2;go_ret2;exact⟨rfl,zbx HN0.out.below _⟩
 have d1:decide (c.disks≤d)=false:=decide_eq_false k1
 by_cases k2:ar<1
 case pos =>
  have d2:decide (ar<1)=true:=decide_eq_true k2
  have hneg:S.number ⟨d,ar,ix⟩ = -1:=by rw[HNUM.out];exact if_pos (.inr (.inl k2))
  have e1:=hnb.out;have e2:=hnv.out;rw[← hnu.out,hneg] at e1;unfold zeU at e2;rw[hneg] at e2
  obtain rfl:nb=false:=by rw[← e1];rfl
  obtain rfl:nv=0:=by rw[← e2];rfl
  clear e1 e2 hneg;clear k0 k1 k2
  go_quiet (fail)
  go_wp2;go_ret2;exact⟨rfl,zbx HN0.out.below _⟩
 have d2:decide (ar<1)=false:=decide_eq_false k2
 by_cases k3:4<ar
 case pos =>
  have d3:decide (4<ar)=true:=decide_eq_true k3
  have hneg:S.number ⟨d,ar,ix⟩ = -1:=by rw[HNUM.out];exact if_pos (.inr (.inr (.inl k3)))
  have e1:=hnb.out;have e2:=hnv.out;rw[← hnu.out,hneg] at e1;unfold zeU at e2;rw[hneg] at e2
  obtain rfl:nb=false:=by rw[← e1];rfl
  obtain rfl:nv=0:=by rw[← e2];rfl
  clear e1 e2 hneg;clear k0 k1 k2 k3
  go_quiet (fail)
  go_wp2;go_ret2;exact⟨rfl,zbx HN0.out.below _⟩
 have d3:decide (4<ar)=false:=decide_eq_false k3
 by_cases k4:ix<0
 case pos =>
  have d4:decide (ix<0)=true:=decide_eq_true k4
  have hneg:S.number ⟨d,ar,ix⟩ = -1:=by rw[HNUM.out];exact if_pos (.inr (.inr (.inr (.inl k4))))
  have e1:=hnb.out;have e2:=hnv.out;rw[← hnu.out,hneg] at e1;unfold zeU at e2;rw[hneg] at e2
  obtain rfl:nb=false:=by rw[← e1];rfl
  obtain rfl:nv=0:=by rw[← e2];rfl
  clear e1 e2 hneg;clear k0 k1 k2 k3 k4
  go_quiet (fail)
  go_wp2;go_ret2;exact⟨rfl,zbx HN0.out.below _⟩
 have d4:decide (ix<0)=false:=decide_eq_false k4;obtain⟨m,rfl⟩:∃ m:Nat,ar=(m:Int)+1:=⟨(ar - 1).toNat,by omega⟩
 have hm:m<4:=by omega
 have hwm:IntKind.i64.wrap ((m:Int)+1 - 1)=(m:Int):=by rw[IntWalk.i64_in _ (by omega)];omega
 have hm0:(0:Int)≤(m:Int):=by omega
 have hm4:(m:Int)<4:=by omega
 have cm:=HN0.out.row m hm;obtain⟨hsz,hbs⟩:=zmk c hm;have HSZ:=(zd hsz hbs);clear hsz hbs
 by_cases k5:szN c m≤ix
 case pos =>
  have d5:decide (szN c m≤ix)=true:=decide_eq_true k5
  have hneg:S.number ⟨d,(m:Int)+1,ix⟩ = -1:=by rw[HNUM.out];exact if_pos (.inr (.inr (.inr (.inr (by rw[HCC.out,HSZ.out.1];exact k5)))))
  have e1:=hnb.out;have e2:=hnv.out;rw[← hnu.out,hneg] at e1;unfold zeU at e2;rw[hneg] at e2
  obtain rfl:nb=false:=by rw[← e1];rfl
  obtain rfl:nv=0:=by rw[← e2];rfl
  clear e1 e2 hneg;clear k0 k1 k2 k3 k4 k5
  go_quiet (fail)
  go_wp2;go_ret2;exact⟨rfl,zbx HN0.out.below _⟩
 have d5:decide (szN c m≤ix)=false:=decide_eq_false k5
 have hpos:S.number ⟨d,(m:Int)+1,ix⟩=ix+zgi c m:=by
  rw[HNUM.out,HCC.out,HSZ.out.1,HSZ.out.2];refine if_neg ?_;have:=HST.out;rw[HCC.out] at this
  have hs0:S.state d≠0:=fun h=>(this.1 h) ⟨by omega,by omega⟩
  omega
 have hps:=znF (c:=c) (by rw[← HCC.out];exact HWF.out.cfg) (k:=m) (by omega);have e1:=hnb.out;have e2:=hnv.out;rw[← hnu.out,hpos] at e1;unfold zeU at e2;rw[hpos,if_neg (by omega)] at e2
 obtain rfl:nb=true:=by rw[← e1];exact decide_eq_true (by omega)
 subst e2
 have HIX:=zh (show 0≤ix∧ix≤65536∧szN c m≤65536 from by
  have h:=HWF.out.cfg;rw[HCC.out] at h;have:=h.log;have:=h.image;have:=h.rows
  have:szN c m≤65536:=by unfold szN;split <;> (try split) <;> (try split) <;> omega
  omega)
 clear e1 hpos hps k0 k1 k2 k3 k4 k5
 go_quiet (fail)
 go_upto_region 6 with (fail);generalize hW2:W.drewN _=W2;replace HN0:=zh (show zrZ w W2 B g d ((m:Int)+1) ix c p from by rw[← hW2];exact⟨zbx HN0.out.below _,HN0.out.box,HN0.out.row,HN0.out.cfg⟩);clear hW2;obtain⟨b0,b1,b2⟩:=HN0.out.box;have r0:=HN0.out.cfg;clear d0 d1 d2 d3 d4 d5 cm r0 b0
 go_loopw [7,8] (fun n i wr=>zrH W2 ix c m n i wr) (fun _ i _=>m - (intOf i).toNat)
 case atStart=>exact⟨rfl,0,by omega,rfl,by show _=Value.int .i64 (ix+0);rw[Int.add_zero]⟩
 case round =>
  obtain⟨rfl,k,hk,rfl,rfl⟩:=hrel.st;clear hrel
  by_cases hlt:k<m
  ·have hltd:decide ((k:Int)<(m:Int))=true:=decide_eq_true (by omega)
   have hk0:(0:Int)≤(k:Int):=by omega
   have hk4:(k:Int)<4:=by omega
   have ck:=HN0.out.row k (by omega);have hw1:IntKind.i64.wrap ((k:Int)+1)=(k:Int)+1:=IntWalk.i64_in _ (by omega);have h:=HWF.out.cfg;rw[HCC.out] at h;have hp1:=znF h (k:=k+1) (by omega);have hps:=zpM c (k:=k) (by omega);rw[hps] at hp1;have hix:=HIX.out;have hw2:IntKind.i64.wrap (ix+zgi c k+szN c k)=ix+zgi c k+szN c k:=IntWalk.i64_in _ (by omega);have HPS:=zh hps;clear h hps hp1 hix;go_wp2
   go_roundw
   case rel=>exact⟨⟨rfl,k+1,by omega,rfl,by rw[HPS.out,Int.add_assoc]⟩⟩
   case measure=>simp only[intOf];omega
  ·obtain rfl:k=m:=by omega
   have hltd:decide ((k:Int)<(k:Int))=false:=decide_eq_false (by omega);clear hlt;go_wp2;go_ret2;exact⟨rfl,HN0.out.below⟩
def zha (p:Nat)(S:zsg)(vb vs vi:Value)(ps qs:List Nat)(q:Nat)(D:zsh)(R F:zsi):zsi:=
 pts p (.cells (rsC S.cfg vb vs vi (!S.off) S.rleft) ze9 (0,0))*(zaf TRp 1 vb S.bays.length (ps.map zaB)*(zaf 3 1 vs S.bays.length (S.bays.map stV)*(zaf TRp 1 vi S.images.length (qs.map zaB) *
  (zbF RT q D*(R*(zbA RT qs S.images*F))))))
structure zfe (S:zsg)(k:Nat)(ps qs:List Nat)(q:Nat)(R:zsi):Prop where
 wf:S.WF
 lb:ps.length=S.bays.length
 li:qs.length=S.images.length
 at_:ps[k]?=some q
 bay:S.bays[k]?=some ⟨S.disk k,S.state k⟩
 set:∀ q' D',zbA RT (ps.set k q') ((S.bays.map zsk.disk).set k D')=zbF RT q' D'*R
theorem zcL {p:Nat}{S:zsg}{F:zsi}{w:World}(hS:Sat w (zad RS p S*F)){k:Nat}(hk:k<S.bays.length):
  ∃ vb vs vi ps qs q R,zfe S k ps qs q R∧Sat w (zha p S vb vs vi ps qs q (S.disk k) R F):=by
 obtain⟨vb,vs,vi,ps,qs,⟨hwf,h1,h2⟩,hs⟩:=za9.1 hS;have hbay:=zsg.bay_of (S:=S) (d:=(k:Int)) (by omega) (by omega);rw[Int.toNat_natCast] at hbay;obtain⟨q,hq⟩:∃ q,ps[k]?=some q:=⟨_,List.getElem?_eq_getElem (by omega)⟩;obtain⟨R,hR⟩:=zed (T:=RT) ps (S.bays.map zsk.disk) k (by omega) (by simpa using hk)
 have hd:(S.bays.map zsk.disk)[k]?=some (S.disk k):=by rw[List.getElem?_map,hbay];rfl
 have e:=hR q (S.disk k);rw[zbn hq,zbn hd] at e;refine⟨vb,vs,vi,ps,qs,q,R,⟨hwf,h1,h2,hq,hbay,hR⟩,?_⟩;rw[show RS.rf=RT from rfl,e] at hs;unfold zha;rw[zax] at hs;exact hs
theorem ze3 {p:Nat}{S:zsg}{F:zsi}{w:World}{k:Nat}{vb vs vi:Value}{ps qs:List Nat}{q:Nat}{R:zsi}{D:zsh}(ho:zfe S k ps qs q R)(hwf:(S.setDisk k D).WF)(h:Sat w (zha p S vb vs vi ps qs q D R F)):Sat w (zad RS p (S.setDisk k D)*F):=by
 have e1:(S.setDisk k D).bays=S.bays.set k ⟨D,S.state k⟩:=by unfold zsg.setDisk zsg.setBay;rw[Int.toNat_natCast]
 have e2:(S.setDisk k D).bays.map zsk.disk=(S.bays.map zsk.disk).set k D:=by rw[e1,List.map_set]
 have e3:(S.setDisk k D).bays.map stV=S.bays.map stV:=by
  rw[e1,List.map_set];refine zbn ?_;rw[List.getElem?_map,ho.bay];rfl
 have e4:(S.setDisk k D).bays.length=S.bays.length:=by rw[e1,List.length_set]
 refine za9.2 ⟨vb,vs,vi,ps,qs,⟨hwf,by rw[e4];exact ho.lb,ho.li⟩,?_⟩;rw[e2,e3,e4];have e:=ho.set q D;rw[zbn ho.at_] at e;rw[show RS.rf=RT from rfl,e,zax];exact h
theorem znR {p:Nat}{S:zsg}{F:zsi}{w:World}{k gs n cap:Nat}{vb vi:Value}{ps qs:List Nat}{q:Nat}{R:zsi}{D:zsh}(ho:zfe S k ps qs q R)(st:Int)(hn:S.bays.length=n)(hwf:(S.setBay k ⟨D,st⟩).WF)(h:Sat w (zha p S vb (.slice (some ⟨gs,0,none⟩) n cap) vi ps qs q D R F)):Sat (w.setCell ⟨gs,k,none⟩ (.int .i64 st)) (zad RS p (S.setBay k ⟨D,st⟩)*F):=by
 have hk:=(List.getElem?_eq_some_iff.1 ho.bay).1
 have e1:(S.setBay k ⟨D,st⟩).bays=S.bays.set k ⟨D,st⟩:=by unfold zsg.setBay;rw[Int.toNat_natCast]
 have e2:(S.setBay k ⟨D,st⟩).bays.map zsk.disk=(S.bays.map zsk.disk).set k D:=by rw[e1,List.map_set]
 have e3:(S.setBay k ⟨D,st⟩).bays.map stV=(S.bays.map stV).set k (.int .i64 st):=by rw[e1,List.map_set];rfl
 have e4:(S.setBay k ⟨D,st⟩).bays.length=S.bays.length:=by rw[e1,List.length_set]
 refine za9.2 ⟨vb,.slice (some ⟨gs,0,none⟩) n cap,vi,ps,qs,⟨hwf,by rw[e4];exact ho.lb,ho.li⟩,?_⟩;rw[e2,e3,e4];have e:=ho.set q D;rw[zbn ho.at_] at e;rw[show RS.rf=RT from rfl,e,zax];unfold zha at h
 have h1:=zby (h.perm (show _=zaf 3 1 (.slice (some ⟨gs,0,none⟩) n cap) S.bays.length (S.bays.map stV)*(pts p (.cells (rsC S.cfg vb (.slice (some ⟨gs,0,none⟩) n cap) vi (!S.off) S.rleft) ze9 (0,0))*(zaf TRp 1 vb S.bays.length (ps.map zaB)*(zaf TRp 1 vi S.images.length (qs.map zaB) *
  (zbF RT q D*(R*(zbA RT qs S.images*F)))))) from by ac_rfl)) (by omega) (g:=gs) (cap:=cap) (by rw[hn]) (j:=k) (.int .i64 st)
 exact h1.perm (show _=pts p (.cells (rsC S.cfg vb (.slice (some ⟨gs,0,none⟩) n cap) vi (!S.off) S.rleft) ze9 (0,0))*(zaf TRp 1 vb S.bays.length (ps.map zaB)*(zaf 3 1 (.slice (some ⟨gs,0,none⟩) n cap) S.bays.length ((S.bays.map stV).set k (.int .i64 st))*(zaf TRp 1 vi S.images.length (qs.map zaB) *
  (zbF RT q D*(R*(zbA RT qs S.images*F)))))) from by ac_rfl)
end Go.Proofs.YtmcclbiaoeilkaaGreat
end
section
namespace Go.Sl
open Go Go.RowKit
def zsg.tick (S:zsg):zsg×Int:=if S.fused then (if S.left=0 then ({ S with off:=true,fused:=false },14) else ({ S with left:=S.left - 1 },0)) else (S,0)
theorem zsg.step_acc {S:zsg}{d:Int}(f:zsh→zsh)(h:S.access d≠0):S.step d f=(S,S.access d):=by
 unfold zsg.access at h ⊢;unfold zsg.step;split
 ·rfl
 ·rename_i ho
  rw[if_neg ho] at h;split
  ·rename_i h1;first|rfl|rw[if_neg h1]
  ·rename_i h1;exact absurd (if_pos (by simpa using h1)) h
theorem zsg.step_tick {S:zsg}{d:Int}(f:zsh→zsh)(h:S.access d=0):S.step d f=if S.tick.2=0 then (S.tick.1.setDisk d (f (S.disk d)),0) else (S.tick.1,S.tick.2):=by
 unfold zsg.access at h
 have ho:¬ S.off=true:=fun e=>by rw[if_pos e] at h;cases h
 rw[if_neg ho] at h
 have h1:S.state d=1:=by
  by_cases h1:S.state d=1
  ·exact h1
  ·rw[if_neg h1] at h;cases h
 unfold zsg.step zsg.tick;rw[if_neg ho,if_neg (by rw[h1];simp)]
 cases hf:S.fused with
 | false=>simp
 | true =>
  by_cases hl:S.left=0
  ·simp[hl]
  ·simp[hl]
theorem zsg.tick_bays (S:zsg):S.tick.1.bays=S.bays∧S.tick.1.cfg=S.cfg∧S.tick.1.images=S.images:=by
 unfold zsg.tick;split
 ·split
  ·exact⟨rfl,rfl,rfl⟩
  ·exact⟨rfl,rfl,rfl⟩
 ·exact⟨rfl,rfl,rfl⟩
theorem zsg.tick_bay (S:zsg)(d:Int):S.tick.1.state d=S.state d∧S.tick.1.disk d=S.disk d:=by
 unfold zsg.state zsg.disk zsg.bay;rw[S.tick_bays.1];exact⟨rfl,rfl⟩
theorem zsg.tick_wf {S:zsg}(h:S.WF):S.tick.1.WF:=by
 obtain⟨h1,h2,h3⟩:=S.tick_bays;refine⟨by rw[h2];exact h.cfg,by rw[h1,h2];exact h.bays,by rw[h1,h2];exact h.st,by rw[h3,h2];exact h.images,?_⟩;unfold zsg.tick
 cases hf:S.fused with
 | false=>intro h4;simp[hf] at h4
 | true =>
  have:=h.left hf
  by_cases hl:S.left=0
  ·simp[hl]
  ·simp[hl];omega
end Go.Sl
namespace Go.Proofs.YtmcclbiaoeilkaaGreat
open Go.Proofs.Tryz Go.RowKit Go.Sl Go.ChangeMaps
theorem zf8 (p:Nat)(S:zsg)(F:zsi)(k:Nat)(hk:k<S.bays.length)(w:World)(hS:Sat w (zad RS p S*F)):
  Calls prog 106 #[.pointer (some ⟨p,0,none⟩),(k:Int)] w fun e w'=>e = .returned (.int .i64 (S.access k))∧w=w':=by
 obtain⟨_,c9,_⟩:=zfr hS;obtain⟨g,capb,gs,caps,q,R,⟨_,c7⟩,⟨_,cs⟩,_⟩:=zdo hS hk
 have hacc:S.access (k:Int)=if S.off then 14 else if S.state k=1 then 0 else 15:=rfl
 obtain⟨n,hn⟩:∃ n,S.bays.length=n:=⟨_,rfl⟩;rw[hn] at c7 hk
 have hki:(k:Int)<(n:Int):=by omega
 have hk0:(0:Int)≤(k:Int):=by omega
 obtain⟨x,hx⟩:∃ x,S.access (k:Int)=x:=⟨_,rfl⟩;rw[hx] at hacc ⊢;obtain⟨st,hst⟩:∃ st,S.state (k:Int)=st:=⟨_,rfl⟩;rw[hst] at hacc cs;clear hx hst hn hS hk
 cases ho:S.off with
 | true =>
  rw[ho] at hacc c9;obtain rfl:x=14:=hacc;clear ho;go_enter func106,ntmps106;go_wp2;go_ret;exact⟨rfl,rfl⟩
 | false =>
  rw[ho] at hacc c9
  by_cases h1:st=1
  ·subst h1
   obtain rfl:x=0:=hacc;clear ho;go_enter func106,ntmps106;go_wp2;go_ret;exact⟨rfl,rfl⟩
  ·have h2:(st != 1)=true:=by simp[h1]
   obtain rfl:x=15:=by rw[hacc,if_neg (by decide),if_neg h1]
   clear ho h1 hacc;go_enter func106,ntmps106;go_wp2;go_ret;exact⟨rfl,rfl⟩
theorem zjr (p:Nat)(S:zsg)(F:zsi)(w:World)(hS:Sat w (zad RS p S*F)):
  Calls prog 107 #[.pointer (some ⟨p,0,none⟩)] w fun e w'=>e = .returned (.int .i64 S.tick.2)∧Hid (Same w w'∧Sat w' (zad RS p S.tick.1*F)):=by
 obtain⟨vb,vs,vi,ps,qs,⟨hwf,h1,h2⟩,hs⟩:=za9.1 hS;obtain⟨⟨_,_,_,q9,q10⟩,hp,_⟩:=zbN hs;have f9:=zaj hs.block 9;have f10:=zaj hs.block 10;have HS:=zh hS;have HSS:=zh hs;have HWF:=zh (zsg.tick_wf hwf);have HL:=(zd h1 h2)
 have htk:S.tick=if S.fused then (if S.left=0 then ({ S with off:=true,fused:=false },14) else ({ S with left:=S.left - 1 },0)) else (S,0):=rfl
 have hlf:=hwf.left;unfold zsg.rleft at q10;clear hS hs hwf h1 h2
 cases hfu:S.fused with
 | false =>
  rw[hfu] at htk q10;simp only[Bool.false_eq_true,if_false] at htk q10;rw[htk];clear htk hlf hfu;go_enter func107,ntmps107;go_wp2;go_ret;exact⟨rfl,Same.refl w,HS.out⟩
 | true =>
  obtain⟨hl0,hl1⟩:=hlf hfu;rw[hfu] at htk q10;simp only[if_true] at htk q10;have HFU:=zh hfu;clear hlf hfu
  by_cases hl:S.left=0
  ·rw[if_pos hl] at htk
   rw[hl] at q10;rw[htk] at HWF ⊢;clear htk hl hl0 hl1;go_enter func107,ntmps107;go_wp2;go_ret;refine⟨rfl,((Same.refl w).setCell _ _).setCell _ _,za9.2 ⟨vb,vs,vi,ps,qs,⟨HWF.out,HL.out.1,HL.out.2⟩,?_⟩⟩;have h9:=(HSS.out.setCell (i:=9) (.bool false)).setCell (i:=10) (.int .i64 (-1));unfold rsC at h9;simp only[zq] at h9;exact h9
  ·rw[if_neg hl] at htk
   rw[htk] at HWF ⊢;clear htk;obtain⟨lf,hlf⟩:∃ lf,S.left=lf:=⟨_,rfl⟩;rw[hlf] at q10 hl hl0 hl1
   have hd0:(lf==0)=false:=by simp[hl]
   have hd1:decide (0<lf)=true:=decide_eq_true (by omega);have hw1:IntKind.i64.wrap (lf - 1)=lf - 1:=IntWalk.i64_in _ (by omega);have HLF:=zh hlf;clear hlf hl;go_enter func107,ntmps107;go_wp2;go_ret;refine⟨rfl,(Same.refl w).setCell _ _,za9.2 ⟨vb,vs,vi,ps,qs,⟨HWF.out,HL.out.1,HL.out.2⟩,?_⟩⟩;have h9:=HSS.out.setCell (i:=10) (.int .i64 (lf - 1));unfold rsC at h9;simp only[zq] at h9;unfold rsC zsg.rleft;dsimp only
   first|rw[HFU.out,if_pos rfl,HLF.out]|rw[if_pos rfl,HLF.out]
   exact h9
theorem zm2 (S:zsg)(n:Int):(S.fuse n).rleft=max n (-1):=by
 unfold zsg.fuse zsg.rleft;dsimp only
 by_cases h:0≤n
 ·rw[decide_eq_true h,if_pos rfl];omega
 ·rw[decide_eq_false h,if_neg (by decide)];omega
theorem zqf {S:zsg}(h:S.WF){n:Int}(hn:n<9223372036854775808):(S.fuse n).WF:=⟨h.cfg,h.bays,h.st,h.images,fun hf=>by
 unfold zsg.fuse at hf ⊢;simp at hf ⊢
 omega⟩
theorem znK (p:Nat)(S:zsg)(F:zsi)(n:Int)(hn:n<9223372036854775808)(w:World)(hS:Sat w (zad RS p S*F)):
  Calls prog 60 #[.pointer (some ⟨p,0,none⟩),n] w fun e w'=>e = .returned (.tuple #[])∧Hid (Same w w'∧Sat w' (zad RS p (S.fuse n)*F)):=by
 obtain⟨vb,vs,vi,ps,qs,⟨hwf,h1,h2⟩,hs⟩:=za9.1 hS;obtain⟨⟨_,_,_,q9,q10⟩,hp,_⟩:=zbN hs;have f10:=zaj hs.block 10;have HSS:=zh hs;have HWF:=zh (zqf hwf hn);have HL:=(zd h1 h2);have HFL:=zh (zm2 S n);clear hS hs hwf h1 h2 hn
 by_cases h0:n ≤ -1
 ·have hm:max n (-1) = -1:=by omega
  have hm2:decide (n < -1)=decide (n < -1):=rfl;rw[hm] at HFL;go_enter func60,ntmps60;go_wp2
  go_end0
  refine⟨rfl,(Same.refl w).setCell _ _,za9.2 ⟨vb,vs,vi,ps,qs,⟨HWF.out,HL.out.1,HL.out.2⟩,?_⟩⟩;have h9:=HSS.out.setCell (i:=10) (.int .i64 (-1));unfold rsC at h9;simp only[zq] at h9;rw[HFL.out];exact h9
 ·have hm:max n (-1)=n:=by omega
  rw[hm] at HFL;go_enter func60,ntmps60;go_wp2
  go_end0
  refine⟨rfl,(Same.refl w).setCell _ _,za9.2 ⟨vb,vs,vi,ps,qs,⟨HWF.out,HL.out.1,HL.out.2⟩,?_⟩⟩;have h9:=HSS.out.setCell (i:=10) (.int .i64 n);unfold rsC at h9;simp only[zq] at h9;rw[HFL.out];exact h9
end Go.Proofs.YtmcclbiaoeilkaaGreat
end
section
namespace Go.Proofs.YtmcclbiaoeilkaaGreat
open Go.Proofs.Tryz Go.RowKit Go.Sl Go.ChangeMaps
theorem zdV {p:Nat}{S:zsg}{F:zsi}{w:World}{k:Nat}{vb vs vi:Value}{ps qs:List Nat}{q:Nat}{R:zsi}{D:zsh}(ho:zfe S k ps qs q R)(h:Sat w (zha p S vb vs vi ps qs q D R F)):
  ∃ gs caps,vs = .slice (some ⟨gs,0,none⟩) S.bays.length caps∧w.cell? ⟨p,7,none⟩=some vs∧w.cell? ⟨gs,k,none⟩=some (.int .i64 (S.state k))∧w.frozen? ⟨gs,k,none⟩=false:=by
 have hk:=(List.getElem?_eq_some_iff.1 ho.bay).1;unfold zha at h;obtain⟨⟨_,q7,_,_,_⟩,_,_⟩:=zbN h;have h1:=h.perm (show _=zaf 3 1 vs S.bays.length (S.bays.map stV)*(pts p (.cells (rsC S.cfg vb vs vi (!S.off) S.rleft) ze9 (0,0))*(zaf TRp 1 vb S.bays.length (ps.map zaB)*(zaf TRp 1 vi S.images.length (qs.map zaB)*(zbF RT q D*(R*(zbA RT qs S.images*F)))))) from by ac_rfl);obtain⟨gs,cap,cur,rfl,_,hc,hf,_⟩:=zaO h1 (by omega);exact⟨gs,cap,rfl,q7,hc k _ (by rw[List.getElem?_map,ho.bay];rfl),hf k⟩
theorem znL (p:Nat)(S:zsg)(F:zsi)(d:Int)(w:World)(hS:Sat w (zad RS p S*F)):
  Calls prog 62 #[.pointer (some ⟨p,0,none⟩),d] w fun e w'=>e = .returned (.int .i64 (S.kill d).2)∧Hid (Same w w'∧Sat w' (zad RS p (S.kill d).1*F)):=by
 have hwf:=zbm hS;have HST:=zh (zcj p S F d w hS);have HS:=zh hS
 by_cases h0:S.state d=0
 ·have hk:S.kill d=(S,1):=by unfold zsg.kill zsg.want;rw[if_pos h0];rfl
  rw[hk];rw[h0] at HST;clear hk h0 hwf hS;go_enter func62,ntmps62;go_wp2_with (go_at_call 41;refine HST.out.mono ?_;rintro e w1 ⟨rfl,rfl⟩);go_ret;exact⟨rfl,Same.refl w,HS.out⟩
 ·obtain⟨hd0,hd1⟩:=zsg.state_in hwf h0
  obtain⟨k,rfl⟩:=Int.eq_ofNat_of_zero_le hd0;obtain⟨vb,vs,vi,ps,qs,q,R,ho,hs⟩:=zcL hS (k:=k) (by omega);obtain⟨gs,caps,rfl,c7,cs,fs⟩:=zdV ho hs
  have hkd:S.kill (k:Int)=if S.state k=1 then (S.setBay k ⟨S.disk k,3⟩,0) else (S,15):=by
   unfold zsg.kill zsg.want;rw[if_neg h0]
   by_cases h1:S.state k=1
   ·rw[if_pos h1,decide_eq_true h1];simp
   ·rw[if_neg h1,decide_eq_false h1];simp
  have HWF:=zh hwf;have HO:=(zd ho hs);obtain⟨n,hn⟩:∃ n,S.bays.length=n:=⟨_,rfl⟩;rw[hn] at c7 hd1;have HN:=zh hn;obtain⟨st,hst⟩:∃ st,S.state (k:Int)=st:=⟨_,rfl⟩;rw[hst] at cs h0 hkd HST;rw[hkd]
  have e0:(st==0)=false:=by simp[h0]
  have HH:=zh hst;clear hs ho hwf hS hn hkd hst h0
  by_cases h1:st=1
  ·subst h1
   rw[if_pos rfl];go_enter func62,ntmps62;go_wp2_with (go_at_call 41;refine HST.out.mono ?_;rintro e w1 ⟨rfl,rfl⟩);go_ret;refine⟨rfl,(Same.refl w).setCell _ _,znR HO.out.1 3 HN.out (HWF.out.setBay _ ⟨.inr (.inr rfl),fun h=>by cases h⟩) (by have:=HO.out.2;rwa [HN.out] at this)⟩
  ·have e1:(st != 1)=true:=by simp[h1]
   rw[if_neg h1];clear h1;go_enter func62,ntmps62;go_wp2_with (go_at_call 41;refine HST.out.mono ?_;rintro e w1 ⟨rfl,rfl⟩);go_ret;exact⟨rfl,Same.refl w,HS.out⟩
end Go.Proofs.YtmcclbiaoeilkaaGreat
end
