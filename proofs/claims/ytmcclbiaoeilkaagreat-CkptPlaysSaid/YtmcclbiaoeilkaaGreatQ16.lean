import Derived.Test.YtmcclbiaoeilkaaGreatQ15
set_option maxHeartbeats 1000000
set_option maxRecDepth 20000
/- Part 16 of a proof;the last part says what is proved. -/
section
namespace Go.Proofs.YtmcclbiaoeilkaaGreat
open Go.Proofs.Tryz Go.RowKit Go.Sl Go.ChangeMaps
theorem zgV (a b:GenM)(w:World):Calls prog 70 #[.agg (zcH a),.agg (zcH b)] w fun e w'=>e = .returned (.bool (zcm a b))∧Below w.heap.size w w':=by
 obtain⟨ae,ac⟩:=a;obtain⟨be,bc⟩:=b;have hbl:Below w.heap.size w ((w.alloc (.cells (zcH ⟨ae,ac⟩) zam)).alloc (.cells (zcH ⟨be,bc⟩) zam)):=((Below.refl _ _).alloc (Nat.le_refl _) _).alloc (by rw[World.size_alloc];omega) _;have HB:=zh hbl;clear hbl
 have he:zcm ⟨ae,ac⟩ ⟨be,bc⟩=(decide (be<ae) || ((ae==be)&&decide (bc<ac))):=by
  show (decide (be<ae) || (decide (ae=be)&&decide (bc<ac)))=_;rw[show decide (ae=be)=(ae==be) from rfl]
 have HE:=zh he;clear he;cases h1:decide (be<ae)
 ·cases h2:(ae==be)
  ·have HR:=zh (show zcm ⟨ae,ac⟩ ⟨be,bc⟩=false by rw[HE.out,h1,h2];rfl)
   rw[HR.out];clear HE HR;go_enter func70,ntmps70;go_wp2;go_ret;exact⟨rfl,HB.out⟩
  ·have HR:=zh (show zcm ⟨ae,ac⟩ ⟨be,bc⟩=decide (bc<ac) by rw[HE.out,h1,h2];rfl)
   rw[HR.out];clear HE HR;cases h3:decide (bc<ac)
   all_goals
    go_enter func70,ntmps70;go_wp2;go_ret;exact⟨rfl,HB.out⟩
 ·have HR:=zh (show zcm ⟨ae,ac⟩ ⟨be,bc⟩=true by rw[HE.out,h1];rfl)
  rw[HR.out];clear HE HR;go_enter func70,ntmps70;go_wp2;go_ret;exact⟨rfl,HB.out⟩
theorem zlV (a:zsj)(s:List UInt8)(ha:zbk a=true)(hs:s.length=64)(hl:zbB s=false)(F:zsi)(w:World)(hF:Sat w F):
  Calls prog 125 #[.agg (plA a),.string (zae s)] w fun e w'=>e = .returned (.tuple #[.agg zbr,.string (zae []),.int .i64 7])∧Hid (Same w w'∧Sat w' F):=by
 have hLP:zeS s=⟨0,0,0⟩:=by unfold zeS;rw[hl];rfl
 have hLG:zeR s=g0:=by unfold zeR;rw[hl];rfl
 have hLE:zeQ s=7:=by unfold zeQ;rw[hl];rfl
 have hva:=fun W=>zcR a W
 rw[ha] at hva;have HVA:=zh hva
 have hlb:=fun (F':zsi) (W:World) (h:Sat W F')=>zfn s hs F' W h
 rw[hLP,hLG,hLE] at hlb;have HLB:=zh hlb;have HS:=zh hs;have H1:=(zd (((Same.refl w).alloc (.cells (plA a) TPl)).alloc (.cells zbr zam)) (((hF.alloc (.cells (plA a) TPl)).alloc (.cells zbr zam)).perm (show _=pts w.heap.size (.cells (plA a) TPl (0,0))*(pts (w.alloc (.cells (plA a) TPl)).heap.size (.cells zbr zam (0,0))*F) from by ac_rfl)));rw[World.size_alloc] at H1;clear hva hlb hF hs hl ha hLP hLG hLE;go_enter func125,ntmps125;go_upto_region 1 with ((with_reducible (refine zai ?_ zam ?_ _ (zcT _) ?_));rfl;rfl)
 generalize (w.alloc (.cells (plA a) TPl)).alloc (.cells zbr zam)=w1 at H1 ⊢;generalize w.heap.size=B at H1 ⊢;obtain⟨⟨b0,b1,b2⟩,⟨c0,c1⟩,lb,lc⟩:=zaG (g:=g0) H1.out.2
 go_upto_region 5 with (first
  | (go_at_call 129;refine (HVA.out _).mono ?_;rintro e w2 ⟨rfl,hb⟩;replace H1:=(zd (H1.out.1.below hb) (H1.out.2.below hb));clear b0 b1 b2 c0 c1 lb lc hb;obtain⟨⟨b0,b1,b2⟩,⟨c0,c1⟩,lb,lc⟩:=zaG (g:=g0) H1.out.2)
  | (go_at_call 82;refine (HLB.out _ _ H1.out.2).mono ?_;rintro e w3 ⟨rfl,h3⟩;replace H1:=(zt H1 h3);clear b0 b1 b2 c0 c1 lb lc h3;obtain⟨⟨b0,b1,b2⟩,⟨c0,c1⟩,lb,lc⟩:=zaG (g:=g0) H1.out.2))
 have hw:=((H1.out.2.alloc (.cells #[.int .i64 0,.int .i64 0,.int .i64 0] TPl)).alloc (.cells #[g0.epoch,g0.count] zam));rw[World.size_alloc] at hw;replace H1:=(zd ((H1.out.1.alloc (.cells #[.int .i64 0,.int .i64 0,.int .i64 0] TPl)).alloc (.cells #[g0.epoch,g0.count] zam)) (hw.perm (show _=pts w3.heap.size (.cells #[.int .i64 0,.int .i64 0,.int .i64 0] TPl (0,0))*(pts (w3.heap.size+1) (.cells #[g0.epoch,g0.count] zam (0,0))*(pts B (.cells (plA a) TPl (0,0))*(pts (B+1) (.cells zbr zam (0,0))*F))) from by ac_rfl)))
 clear hw b0 b1 b2 c0 c1 lb lc;generalize (w3.alloc (.cells #[.int .i64 0,.int .i64 0,.int .i64 0] TPl)).alloc (.cells #[g0.epoch,g0.count] zam)=w4 at H1 ⊢;generalize w3.heap.size=C at H1 ⊢;obtain⟨⟨b0,b1,b2⟩,⟨c0,c1⟩,d0,d1,d2,e0,e1,f0,f1⟩:=zdg H1.out.2;go_wp2;replace H1:=zh (zcy (g:=0) (h:=0) H1.out.1 H1.out.2);refine bodyPost_ret (v:=.tuple #[.agg zbr,.string (zae []),.int .i64 7]) (zaz results125 (ResIs.row rfl H1.out.2.block underlying42 rfl (za1 rfl)) (.tmp rfl) (.tmp rfl)) rfl ?_;exact⟨rfl,H1.out.1,H1.out.2.right⟩
theorem zj7 (a:zsj)(s:List UInt8)(ha:zbk a=true)(hs:s.length=64)(hl:zbB s=true)(x y z g h:Int)(hp:zcv s=⟨x,y,z⟩)(hg:zex s 8=⟨g,h⟩)(hne:(⟨x,y,z⟩:zsj)≠a)(F:zsi)(w:World)(hF:Sat w F):
  Calls prog 125 #[.agg (plA a),.string (zae s)] w fun e w'=>e = .returned (.tuple #[.agg zbr,.string (zae []),.int .i64 8])∧Hid (Same w w'∧Sat w' F):=by
 have hLP:zeS s=⟨x,y,z⟩:=by unfold zeS;rw[hl];exact hp
 have hLG:zeR s=⟨g,h⟩:=by unfold zeR;rw[hl];exact hg
 have hLE:zeQ s=0:=by unfold zeQ;rw[hl];rfl
 clear hp hg
 have HNE:=zh (show (x==a.disk&&(y==a.area&&z==a.index))=false from by
  rw[Bool.eq_false_iff];intro hh;simp only[Bool.and_eq_true,beq_iff_eq] at hh;obtain⟨d,e,f⟩:=a;simp only at hh;obtain⟨rfl,rfl,rfl⟩:=hh
  exact hne rfl)
 clear hne
 have hva:=fun W=>zcR a W
 rw[ha] at hva;have HVA:=zh hva
 have hlb:=fun (F':zsi) (W:World) (h:Sat W F')=>zfn s hs F' W h
 rw[hLP,hLG,hLE] at hlb;have HLB:=zh hlb;have HS:=zh hs;have H1:=(zd (((Same.refl w).alloc (.cells (plA a) TPl)).alloc (.cells zbr zam)) (((hF.alloc (.cells (plA a) TPl)).alloc (.cells zbr zam)).perm (show _=pts w.heap.size (.cells (plA a) TPl (0,0))*(pts (w.alloc (.cells (plA a) TPl)).heap.size (.cells zbr zam (0,0))*F) from by ac_rfl)));rw[World.size_alloc] at H1;clear hva hlb hF hs hl ha hLP hLG hLE;go_enter func125,ntmps125;go_upto_region 1 with ((with_reducible (refine zai ?_ zam ?_ _ (zcT _) ?_));rfl;rfl)
 generalize (w.alloc (.cells (plA a) TPl)).alloc (.cells zbr zam)=w1 at H1 ⊢;generalize w.heap.size=B at H1 ⊢;obtain⟨⟨b0,b1,b2⟩,⟨c0,c1⟩,lb,lc⟩:=zaG (g:=g0) H1.out.2
 go_upto_region 5 with (first
  | (go_at_call 129;refine (HVA.out _).mono ?_;rintro e w2 ⟨rfl,hb⟩;replace H1:=(zd (H1.out.1.below hb) (H1.out.2.below hb));clear b0 b1 b2 c0 c1 lb lc hb;obtain⟨⟨b0,b1,b2⟩,⟨c0,c1⟩,lb,lc⟩:=zaG (g:=g0) H1.out.2)
  | (go_at_call 82;refine (HLB.out _ _ H1.out.2).mono ?_;rintro e w3 ⟨rfl,h3⟩;replace H1:=(zt H1 h3);clear b0 b1 b2 c0 c1 lb lc h3;obtain⟨⟨b0,b1,b2⟩,⟨c0,c1⟩,lb,lc⟩:=zaG (g:=g0) H1.out.2))
 have hw:=((H1.out.2.alloc (.cells (plA ⟨x,y,z⟩) TPl)).alloc (.cells (zcH ⟨g,h⟩) zam));rw[World.size_alloc] at hw;replace H1:=(zd ((H1.out.1.alloc (.cells (plA ⟨x,y,z⟩) TPl)).alloc (.cells (zcH ⟨g,h⟩) zam)) (hw.perm (show _=pts w3.heap.size (.cells (plA ⟨x,y,z⟩) TPl (0,0))*(pts (w3.heap.size+1) (.cells (zcH ⟨g,h⟩) zam (0,0))*(pts B (.cells (plA a) TPl (0,0))*(pts (B+1) (.cells zbr zam (0,0))*F))) from by ac_rfl)));clear hw b0 b1 b2 c0 c1 lb lc;generalize (w3.alloc (.cells (plA ⟨x,y,z⟩) TPl)).alloc (.cells (zcH ⟨g,h⟩) zam)=w4 at H1 ⊢
 generalize w3.heap.size=C at H1 ⊢;obtain⟨⟨b0,b1,b2⟩,⟨c0,c1⟩,d0,d1,d2,e0,e1,f0,f1⟩:=zdg H1.out.2;cases z1:(x==a.disk)
 ·clear HNE
  go_wp2;replace H1:=zh (zcy (g:=0) (h:=0) H1.out.1 H1.out.2);refine bodyPost_ret (v:=.tuple #[.agg zbr,.string (zae []),.int .i64 8]) (zaz results125 (ResIs.row rfl H1.out.2.block underlying42 rfl (za1 rfl)) (.tmp rfl) (.tmp rfl)) rfl ?_;exact⟨rfl,H1.out.1,H1.out.2.right⟩
 cases z2:(y==a.area)
 ·clear HNE
  go_wp2;replace H1:=zh (zcy (g:=0) (h:=0) H1.out.1 H1.out.2);refine bodyPost_ret (v:=.tuple #[.agg zbr,.string (zae []),.int .i64 8]) (zaz results125 (ResIs.row rfl H1.out.2.block underlying42 rfl (za1 rfl)) (.tmp rfl) (.tmp rfl)) rfl ?_;exact⟨rfl,H1.out.1,H1.out.2.right⟩
 have z3:(z==a.index)=false:=by have e:=HNE.out;rw[z1,z2] at e;simpa using e
 clear HNE;go_wp2;replace H1:=zh (zcy (g:=0) (h:=0) H1.out.1 H1.out.2);refine bodyPost_ret (v:=.tuple #[.agg zbr,.string (zae []),.int .i64 8]) (zaz results125 (ResIs.row rfl H1.out.2.block underlying42 rfl (za1 rfl)) (.tmp rfl) (.tmp rfl)) rfl ?_;exact⟨rfl,H1.out.1,H1.out.2.right⟩
theorem zj8 (a:zsj)(s:List UInt8)(ha:zbk a=true)(hs:s.length=64)(hl:zbB s=true)(g h:Int)(hp:zcv s=a)(hg:zex s 8=⟨g,h⟩)(F:zsi)(w:World)(hF:Sat w F):
  Calls prog 125 #[.agg (plA a),.string (zae s)] w fun e w'=>e = .returned (.tuple #[.agg (zcH ⟨g,h⟩),.string (zae (zav s 16 56)),.int .i64 0])∧Hid (Same w w'∧Sat w' F):=by
 obtain⟨x,y,z⟩:=a
 have hLP:zeS s=⟨x,y,z⟩:=by unfold zeS;rw[hl];exact hp
 have hLG:zeR s=⟨g,h⟩:=by unfold zeR;rw[hl];exact hg
 have hLE:zeQ s=0:=by unfold zeQ;rw[hl];rfl
 clear hp hg
 have hva:=fun W=>zcR ⟨x,y,z⟩ W
 rw[ha] at hva;have HVA:=zh hva
 have hlb:=fun (F':zsi) (W:World) (h:Sat W F')=>zfn s hs F' W h
 rw[hLP,hLG,hLE] at hlb;have HLB:=zh hlb;have HS:=zh hs;have H1:=(zd (((Same.refl w).alloc (.cells (plA ⟨x,y,z⟩) TPl)).alloc (.cells zbr zam)) (((hF.alloc (.cells (plA ⟨x,y,z⟩) TPl)).alloc (.cells zbr zam)).perm (show _=pts w.heap.size (.cells (plA ⟨x,y,z⟩) TPl (0,0))*(pts (w.alloc (.cells (plA ⟨x,y,z⟩) TPl)).heap.size (.cells zbr zam (0,0))*F) from by ac_rfl)));rw[World.size_alloc] at H1;clear hva hlb hF hs hl ha hLP hLG hLE;go_enter func125,ntmps125;go_upto_region 1 with ((with_reducible (refine zai ?_ zam ?_ _ (zcT _) ?_));rfl;rfl)
 generalize (w.alloc (.cells (plA ⟨x,y,z⟩) TPl)).alloc (.cells zbr zam)=w1 at H1 ⊢;generalize w.heap.size=B at H1 ⊢;obtain⟨⟨b0,b1,b2⟩,⟨c0,c1⟩,lb,lc⟩:=zaG (g:=g0) H1.out.2
 go_upto_region 5 with (first
  | (go_at_call 129;refine (HVA.out _).mono ?_;rintro e w2 ⟨rfl,hb⟩;replace H1:=(zd (H1.out.1.below hb) (H1.out.2.below hb));clear b0 b1 b2 c0 c1 lb lc hb;obtain⟨⟨b0,b1,b2⟩,⟨c0,c1⟩,lb,lc⟩:=zaG (g:=g0) H1.out.2)
  | (go_at_call 82;refine (HLB.out _ _ H1.out.2).mono ?_;rintro e w3 ⟨rfl,h3⟩;replace H1:=(zt H1 h3);clear b0 b1 b2 c0 c1 lb lc h3;obtain⟨⟨b0,b1,b2⟩,⟨c0,c1⟩,lb,lc⟩:=zaG (g:=g0) H1.out.2))
 have hw:=((H1.out.2.alloc (.cells (plA ⟨x,y,z⟩) TPl)).alloc (.cells (zcH ⟨g,h⟩) zam));rw[World.size_alloc] at hw;replace H1:=(zd ((H1.out.1.alloc (.cells (plA ⟨x,y,z⟩) TPl)).alloc (.cells (zcH ⟨g,h⟩) zam)) (hw.perm (show _=pts w3.heap.size (.cells (plA ⟨x,y,z⟩) TPl (0,0))*(pts (w3.heap.size+1) (.cells (zcH ⟨g,h⟩) zam (0,0))*(pts B (.cells (plA ⟨x,y,z⟩) TPl (0,0))*(pts (B+1) (.cells zbr zam (0,0))*F))) from by ac_rfl)));clear hw b0 b1 b2 c0 c1 lb lc;generalize (w3.alloc (.cells (plA ⟨x,y,z⟩) TPl)).alloc (.cells (zcH ⟨g,h⟩) zam)=w4 at H1 ⊢
 generalize w3.heap.size=C at H1 ⊢;obtain⟨⟨b0,b1,b2⟩,⟨c0,c1⟩,d0,d1,d2,e0,e1,f0,f1⟩:=zdg H1.out.2;go_upto_region 9 with (fail)
 replace H1:=(zd H1.out.1.drew H1.out.2.drew);have hS0:=zfp H1.out.2;clear b0 b1 b2 c0 c1 d0 d1 d2 e0 e1 f0 f1;refine zah (fun w'=>w'.cell? ⟨C+1,0,none⟩=some (.int .i64 g)∧w'.cell? ⟨C+1,1,none⟩=some (.int .i64 h)) (by kernel_rfl) ?_;(apply zaa 0 rfl rfl (by kernel_rfl) rfl);(rintro w' ⟨h1,h2⟩;go_simp;rfl);exact hS0;simp only[zq];(apply zaa 1 rfl rfl (by kernel_rfl) rfl);(rintro w' ⟨h1,h2⟩;go_simp;rfl);exact hS0;simp only[zq];refine zaa 2 (v:=.string (zae (zav s 16 56))) rfl rfl (by kernel_rfl) rfl (fun w' _=>za3 (i:=16) (j:=56) rfl underlying9 rfl rfl rfl (by decide) (by rw[HS.out];decide)) hS0 ?_;simp only[zq]
 refine zbG 3 (T:=zam) (old:=zbr) (new:=#[.int .i64 g,.int .i64 h]) rfl rfl (by kernel_rfl) rfl rfl rfl rfl (H1.out.2.perm (zjf _ _ _ _ _)) (za1 rfl) rfl (by simp[Value.oneCell']) ?_;intro w6 h6;replace H1:=(zt H1 h6);replace hS0:=zgX h6.out.2;refine⟨hS0,?_⟩;clear h6;(apply zaa 4 rfl rfl (by kernel_rfl) rfl);(rintro w' ⟨h1,h2⟩;go_simp;rfl);exact hS0;simp only[zq];(apply zaa 5 rfl rfl (by kernel_rfl) rfl);(rintro w' ⟨h1,h2⟩;go_simp;rfl);exact hS0;simp only[zq];refine zar (by kernel_rfl) ?_;clear hS0
 go_wp2;refine bodyPost_ret (v:=.tuple #[.agg (zcH ⟨g,h⟩),.string (zae (zav s 16 56)),.int .i64 0]) (zaz results125 (ResIs.row rfl H1.out.2.block underlying42 rfl (za1 rfl)) (.tmp rfl) (.tmp rfl)) rfl ?_;exact⟨rfl,H1.out.1,H1.out.2.right.right.right.right⟩
theorem zlU (a:zsj)(s:List UInt8)(ha:zbk a=true)(hs:s.length=64)(F:zsi)(w:World)(hF:Sat w F):
  Calls prog 125 #[.agg (plA a),.string (zae s)] w fun e w'=>∃ k:Int,(k=0↔(zbj a s).isSome=true)∧e = .returned (.tuple #[.agg (zjd (zbj a s)).1,.string (zae (zjd (zbj a s)).2),k])∧Hid (Same w w'∧Sat w' F):=by
 cases hl:zbB s with
 | false =>
  have e:zbj a s=none:=by unfold zbj;rw[if_neg (by rw[hl];simp)]
  rw[e]
  exact (zlV a s ha hs hl F w hF).mono fun _ _ h=>⟨7,by simp,h.1,h.2⟩
 | true =>
  by_cases hp:zcv s=a
  ·have e:zbj a s=some (zex s 8,zav s 16 56):=by unfold zbj;rw[if_pos ⟨ha,hs,hl,hp⟩]
   rw[e]
   exact (zj8 a s ha hs hl _ _ hp rfl F w hF).mono fun _ _ h=>⟨0,by simp,h.1,h.2⟩
  ·have e:zbj a s=none:=by unfold zbj;rw[if_neg (by rintro⟨_,_,_,h⟩;exact hp h)]
   rw[e]
   exact (zj7 a s ha hs hl _ _ _ _ _ rfl rfl hp F w hF).mono fun _ _ h=>⟨8,by simp,h.1,h.2⟩
def zkG (m:Nat):Nat→Nat
 | 0=>0
 | k+1=>if 0<m / 256 ^ k then k+1 else zkG m k
def zcB (m:Nat):Nat:=zkG m 8
def zc5 (m:Nat):Nat→List UInt8
 | 0=>[]
 | k+1=>UInt8.ofNat (m / 256 ^ k)::zc5 m k
def zb9 (m:Nat):List UInt8:=UInt8.ofNat (128+zcB m)::zc5 m (zcB m)
def zaC (f:Bool)(x:UInt8):UInt8:=if f then x ^^^ 255 else x
def zbv (l:List UInt8):Nat:=l.foldl (fun m c=>m*256+c.toNat) 0
def zey (b:List UInt8):Option (Int×Nat):=
 match b with
 | []=>none
 | x::r =>
  if 8<(zaC (decide (x<128)) x).toNat - 128 then none
  else if r.length<(zaC (decide (x<128)) x).toNat - 128 then none
  else if 0<(zaC (decide (x<128)) x).toNat - 128∧zaC (decide (x<128)) (r.getD 0 0)=0 then none
  else if 9223372036854775808≤zbv ((r.take ((zaC (decide (x<128)) x).toNat - 128)).map (zaC (decide (x<128)))) then none
  else some (if x<128 then -1 - (zbv ((r.take ((zaC (decide (x<128)) x).toNat - 128)).map (zaC (decide (x<128)))):Int) else (zbv ((r.take ((zaC (decide (x<128)) x).toNat - 128)).map (zaC (decide (x<128)))):Int),(zaC (decide (x<128)) x).toNat - 128+1)
theorem zd5 (m:Nat):∀ k,zkG m k≤k
 | 0=>Nat.le_refl _
 | k+1=>by unfold zkG;split;exact Nat.le_refl _;exact Nat.le_succ_of_le (zd5 m k)
theorem zbi (m:Nat):∀ k,(zc5 m k).length=k
 | 0=>rfl
 | k+1=>by simp[zc5,zbi m k]
theorem zc3 (m:Nat):(zb9 m).length≤9:=by
 unfold zb9;rw[List.length_cons,zbi];have:=zd5 m 8;unfold zcB;omega
theorem zgG (l:List UInt8)(x:UInt8):zbv (l++[x])=zbv l*256+x.toNat:=by simp[zbv]
theorem zkK (l:List UInt8):∀ a:Nat,l.foldl (fun m c=>m*256+c.toNat) a=a*256 ^ l.length+zbv l:=by
 induction l with
 | nil=>intro a;simp[zbv]
 | cons x r ih =>
  intro a;simp only[List.foldl_cons,List.length_cons,zbv];rw[ih,ih (0*256+x.toNat),Nat.pow_succ];simp[Nat.add_mul,Nat.mul_assoc,Nat.add_assoc,Nat.mul_comm 256]
theorem zes (x:UInt8)(r:List UInt8):zbv (x::r)=x.toNat*256 ^ r.length+zbv r:=by
 unfold zbv;simp only[List.foldl_cons];rw[zkK];simp[zbv]
theorem zf0 (l:List UInt8):zbv l<256 ^ l.length:=by
 induction l with
 | nil=>simp[zbv]
 | cons x r ih =>
  rw[zes,List.length_cons,Nat.pow_succ];have hx:x.toNat<256:=x.toNat_lt;have h1:x.toNat*256 ^ r.length≤255*256 ^ r.length:=Nat.mul_le_mul_right _ (by omega);omega
theorem zgF (m:Nat):∀ k,zbv (zc5 m k)=m%256 ^ k
 | 0=>by simp[zc5,zbv,Nat.mod_one]
 | k+1=>by
  unfold zc5
  have hp:(256:Nat) ^ (k+1)=256 ^ k*256:=by rw[Nat.pow_succ]
  have h:=@Nat.mod_mul (256 ^ k) 256 m;rw[zes,zbi,zgF m k,UInt8.toNat_ofNat',hp];rw[h,Nat.mul_comm (256 ^ k)];exact Nat.add_comm (m / 256 ^ k%256*256 ^ k) (m%256 ^ k)
theorem zfB (m:Nat):∀ k,m<256 ^ k→m<256 ^ zkG m k∧(0<zkG m k→0<m / 256 ^ (zkG m k - 1))
 | 0,h=>⟨by simpa [zkG] using h,fun h=>by simp[zkG] at h⟩
 | k+1,h=>by
  unfold zkG;split
  ·exact⟨h,fun _=>by simpa using ‹0<m / 256 ^ k›⟩
  ·rename_i h2
   have h3:m<256 ^ k:=by
    rcases Nat.lt_or_ge m (256 ^ k) with h4|h4
    ·exact h4
    ·exact absurd (Nat.div_pos h4 (Nat.pow_pos (by omega))) h2
   exact zfB m k h3
theorem zhJ (l:List UInt8):l.map (zaC false)=l:=by
 have:zaC false=id:=by funext x;rfl
 rw[this,List.map_id]
theorem zi0 (m:Nat)(hm:m<9223372036854775808)(t:List UInt8):zey (zb9 m++t)=some ((m:Int),(zb9 m).length):=by
 have h8:zcB m≤8:=zd5 m 8;obtain⟨h1,h2⟩:=zfB m 8 (by omega);change m<256 ^ zcB m at h1;change 0<zcB m→0<m / 256 ^ (zcB m - 1) at h2
 have hx:(UInt8.ofNat (128+zcB m)).toNat=128+zcB m:=by rw[UInt8.toNat_ofNat'];omega
 have hlt:¬ UInt8.ofNat (128+zcB m)<128:=by
  rw[UInt8.lt_iff_toNat_lt,hx];show ¬ (128+zcB m<128);omega
 unfold zb9 zey;have hff:zaC false (UInt8.ofNat (128+zcB m))=UInt8.ofNat (128+zcB m):=rfl;simp only[List.cons_append,hlt,decide_false,hff,if_false,hx,List.length_append,zbi,List.length_cons];rw[show 128+zcB m - 128=zcB m by omega,if_neg (by omega),if_neg (by omega)]
 have htk:(zc5 m (zcB m)++t).take (zcB m)=zc5 m (zcB m):=by
  have:=List.take_left (l₁:=zc5 m (zcB m)) (l₂:=t)
  rwa [zbi] at this
 have hno:¬ (0<zcB m∧zaC false ((zc5 m (zcB m)++t).getD 0 0)=0):=by
  rintro⟨h3,h4⟩;obtain⟨k,hk⟩:∃ k,zcB m=k+1:=⟨zcB m - 1,by omega⟩
  have h5:0<m / 256 ^ k:=by have:=h2 h3;rw[hk] at this;simpa using this
  have h6:m / 256 ^ k<256:=by
   rw[Nat.div_lt_iff_lt_mul (Nat.pow_pos (by omega))];rw[hk,Nat.pow_succ] at h1;omega
  rw[hk] at h4;simp only[zc5,List.cons_append,List.getD_cons_zero] at h4;change UInt8.ofNat (m / 256 ^ k)=0 at h4;have h7:=congrArg UInt8.toNat h4;rw[UInt8.toNat_ofNat',Nat.mod_eq_of_lt h6] at h7;change m / 256 ^ k=0 at h7;omega
 rw[htk,zhJ,zgF,Nat.mod_eq_of_lt h1,if_neg hno,if_neg (Nat.not_le.2 hm)]
structure CkM where
 gen:GenM
 seq:Int
 image:List UInt8
 deriving DecidableEq
def ck0:CkM:=⟨g0,0,[]⟩
def zda (c:zsl):Int:=max 0 (c.image - 1)*40
def zdk (b:List UInt8)(most:Int):Option (Int×Nat):=
 match zey b with
 | none=>none
 | some (s,u)=>match zey (b.drop u) with
  | none=>none
  | some (n,_)=>if 0≤s∧0≤n∧n≤most then some (s,n.toNat) else none
def zb5 (S:zsg)(d area i:Int):Option (GenM×List UInt8):=zbj ⟨d,area,i⟩ (S.read ⟨d,area,i⟩).1
def zeP (S:zsg)(d area:Int)(g:GenM):Nat→Option (List UInt8)
 | 0=>some []
 | k+1=>match zeP S d area g k with
  | none=>none
  | some a=>match zb5 S d area ((k:Int)+1) with
   | none=>none
   | some (g',p)=>if g'=g then some (a++p) else none
def zaS (S:zsg)(d area:Int):CkM×Int:=
 if S.state d=0∨(area≠2∧area≠3) then (ck0,1)
 else if S.access d≠0 then (ck0,S.access d)
 else match zb5 S d area 0 with
  | none=>(ck0,12)
  | some (g,p)=>match zdk p (zda S.cfg) with
   | none=>(ck0,12)
   | some (s,n)=>match zeP S d area g ((n+39) / 40) with
    | none=>(ck0,12)
    | some a=>(⟨g,s,a.take n⟩,0)
def zbs (S:zsg)(d:Int):Int×CkM×Int:=
 if (zaS S d 3).2=0∧((zaS S d 2).2≠0∨zcm (zaS S d 3).1.gen (zaS S d 2).1.gen=true) then (3,(zaS S d 3).1,0)
 else if (zaS S d 2).2=0 then (2,(zaS S d 2).1,0) else (0,ck0,(zaS S d 2).2)
def zb7 (S:zsg):Nat→CkM×Int
 | 0=>(ck0,12)
 | k+1=>if (zbs S k).2.2=0∧((zb7 S k).2≠0∨zcm (zbs S k).2.1.gen (zb7 S k).1.gen=true) then ((zbs S k).2.1,0) else zb7 S k
def zf4 (S:zsg):CkM×Int:=if S.off then (ck0,14) else zb7 S S.cfg.disks.toNat
def zaR (c:CkM):Nat:=(c.image.length+39) / 40
def zcs (c:CkM)(i:Nat):List UInt8:=if i=0 then zb9 c.seq.toNat++zb9 c.image.length else (c.image.drop (40*(i - 1))).take 40
def zd0 (d area:Int)(c:CkM):zsg→Nat→Nat→zsg×Int
 | S,_,0=>S.flush d
 | S,i,k+1=>if (S.write ⟨d,area,i⟩ (zbX ⟨d,area,i⟩ c.gen (zcs c i))).2≠0 then S.write ⟨d,area,i⟩ (zbX ⟨d,area,i⟩ c.gen (zcs c i)) else zd0 d area c (S.write ⟨d,area,i⟩ (zbX ⟨d,area,i⟩ c.gen (zcs c i))).1 (i+1) k
def zbH (S:zsg)(d area:Int)(c:CkM):zsg×Int:=zd0 d area c S 0 (zaR c+1)
def zc7 (S:zsg)(d:Int):Int:=if (zbs S d).2.2=0∧(zbs S d).1=2 then 3 else 2
def za6 (c:CkM):zsg→List (Nat×Int)→Nat→Nat→zsg×List (Nat×Int)×Int
 | S,l,_,0=>(S,l,0)
 | S,l,k,m+1=>if S.state k≠1 then za6 c S l (k+1) m
  else if (zbH S k (zc7 S k) c).2≠0 then ((zbH S k (zc7 S k) c).1,l,(zbH S k (zc7 S k) c).2)
  else za6 c (zbH S k (zc7 S k) c).1 (l++[(k,zc7 S k)]) (k+1) m
def zdq (c:CkM):Prop:=c.seq<0∨zcQ c.gen=false
instance (c:CkM):Decidable (zdq c):=by unfold zdq;infer_instance
def zen (S:zsg)(c:CkM)(l:List (Nat×Int)):Nat:=(l.filter fun x=>decide (zaS S x.1 x.2=(c,0))).length
def zdc (S:zsg)(c:CkM):zsg×Int×Int:=
 if zdq c then (S,0,1) else if zda S.cfg<(c.image.length:Int) then (S,0,2) else if S.off then (S,0,14)
 else if (za6 c S [] 0 S.cfg.disks.toNat).2.2≠0 then ((za6 c S [] 0 S.cfg.disks.toNat).1,0,(za6 c S [] 0 S.cfg.disks.toNat).2.2)
 else if (za6 c S [] 0 S.cfg.disks.toNat).2.1=[] then ((za6 c S [] 0 S.cfg.disks.toNat).1,0,15)
 else ((za6 c S [] 0 S.cfg.disks.toNat).1,(zen (za6 c S [] 0 S.cfg.disks.toNat).1 c (za6 c S [] 0 S.cfg.disks.toNat).2.1:Int),0)
end Go.Proofs.YtmcclbiaoeilkaaGreat
end
