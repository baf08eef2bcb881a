import Derived.Test.YtmcclbiaoeilkaaGreatQ19
set_option maxHeartbeats 4000000
set_option maxRecDepth 20000
/- Part 20 of a proof;the last part says what is proved. -/
namespace Go.Proofs.YtmcclbiaoeilkaaGreat
open Go.Proofs.Tryz Go.RowKit Go.Sl Go.ChangeMaps
def zrN (ao:Option Addr)(m cap:Nat):Value:=.slice (if cap=0 then ao else ao.map (·.add (0*1))) m cap
theorem zpD {ao:Option Addr}{n cap m:Nat}(hmc:m≤cap)(w:World):(Instr.sliceAt 69 (.slice ao n cap) none (some (.int .i64 (m:Int))) none).run prog w = .ok (zrN ao m cap) w:=by
 obtain⟨si,hsi,_,_,_⟩:=info_parts zdz;unfold zrN;simp[Instr.sliceAt,Instr.slice,run_underlying underlying69,Instr.sliceBounds,Instr.sliceBound,asIntOf,sizeOf,typeInfo,hsi,hmc]
theorem zfC {o:Oper}{a:Act}{w:World}{x y:Operand}{b off n cap m:Nat}(ho:o.op = .slice 69 x none (some y) none)(hx:a.eval x = .slice (some ⟨b,off,none⟩) n cap)(hy:a.eval y = .int .i64 (m:Int))(hmc:m≤cap):(execOp a.eval o).run prog w = .ok (.value (.slice (some ⟨b,off,none⟩) m cap)) w:=by
 have e:(Instr.sliceAt 69 (.slice (some ⟨b,off,none⟩) n cap) none (some (.int .i64 (m:Int))) none).run prog w = .ok (.slice (some ⟨b,off,none⟩) m cap) w:=by
  rw[zpD hmc w];unfold zrN
  by_cases hc:cap=0
  ·rw[if_pos hc]
  ·rw[if_neg hc];simp[Addr.add]
 unfold execOp;simp[ho,hx,hy,e]
structure zrY (w:World)(L:List UInt8)(k:Nat)(m i:Value)(wr:World):Prop where
 st:wr=w∧∃ j:Nat,j≤k∧i = .int .i64 ((j+1:Nat):Int)∧m = .int .i64 (zbv (L.take j):Int)∧zbv (L.take j)<9223372036854775808
def zjN (b:List UInt8)(F:zsi)(w:World)(e:Ending)(w':World):Prop:=∃ n u er:Int,e = .returned (.tuple #[n,u,er])∧zrX b n u er∧Hid (Same w w'∧Sat w' F)
theorem zmD {x:UInt8}{r:List UInt8}{j:Nat}{y:UInt8}(hj:j<zdL x)(hy:r[j]?=some y):(zbb x r)[j]?=some (zaC (sgn x) y):=by
 unfold zbb;rw[List.getElem?_map,List.getElem?_take,if_pos hj,hy];rfl
theorem zrc (x:UInt8)(r:List UInt8)(hs:sgn x=true)(g off cap:Nat)(F:zsi)(w:World)(hF:Sat w F)(hb:∀ w',Sat w' F→∀ (j:Nat) (y:UInt8),(x::r)[j]?=some y→w'.cell? ⟨g,off+j,none⟩=some (zb4 y))(hl:r.length≤1000)(hcap:r.length+1≤cap):
  Calls prog 81 #[.slice (some ⟨g,off,none⟩) (r.length+1) cap] w (zjN (x::r) F w):=by
 have HG:=zh (zfl x r);have hq:=zlb hs
 have hz2:(x.toNat:Int)<256:=by have:=x.toNat_lt;omega
 have hz0:0≤(x.toNat:Int):=by omega
 have c0:w.cell? ⟨g,off,none⟩=some (.int .u8 (x.toNat:Int)):=hb w hF 0 x rfl;have HB:=zh hb;have HF:=zh hF
 have HX:=zh (show ∀ (m:Nat) (hm:m<9223372036854775808),zbv (zbb x r)=m→zdL x≤8→zdL x≤r.length→(zdQ (ziJ x r)=(x::r).take (zdL x+1)↔¬ (0<zdL x∧zaC (sgn x) (r.getD 0 0)=0)) from fun m hm h h1 h2=>zhK h1 h2 (by omega))
 have HBA:=zh (fun (j:Nat) (y:UInt8) (h:j<zdL x) (hy:r[j]?=some y)=>zmD h hy);have HNI:=zh (show ziJ x r = -1 - (zbv (zbb x r):Int) from by unfold ziJ;rw[hs];rfl)
 have hlr:((r.length:Nat):Int)≤1000:=by omega
 generalize hk:zdL x=k at HG hq HX HBA;have HK:=zh hk;generalize hz:(x.toNat:Int)=z at hq hz2 hz0 c0;clear hb hF hz hk
 by_cases h8:8<k
 case pos =>
  have HN:=zh (HG.out.trans (if_pos h8));have hd1:decide (z<119)=true:=decide_eq_true (by omega);clear hq h8;go_enter func81,ntmps81;go_wp2;refine bodyPost_ret (v:=.tuple #[.int .i64 0,.int .i64 0,.int .i64 6]) (zaz results81 (.tmp rfl) (.tmp rfl) (.tmp rfl)) rfl ?_;exact⟨0,0,6,rfl,zcI HN.out (by decide),Same.refl w,HF.out⟩
 case neg =>
  have hd1:decide (z<119)=false:=decide_eq_false (by omega);have hd2:decide (136<z)=false:=decide_eq_false (by omega);have hd3:decide (z<128)=true:=decide_eq_true (by omega)
  have hkz:127 - z=(k:Int):=by omega
  have hkw:IntKind.i64.wrap (127 - z)=(k:Int):=by rw[hkz];exact IntWalk.i64_in _ (by omega)
  have hk8:(k:Int)≤8:=by omega
  have hk0:0≤(k:Int):=by omega
  have HK8:=zh h8;replace HG:=zh (HG.out.trans (if_neg h8));clear hq h8
  by_cases hrk:r.length<k
  case pos =>
   have HN:=zh (HG.out.trans (if_pos hrk));have hd4:decide ((r.length:Int)+1<(k:Int)+1)=true:=decide_eq_true (by omega);have hd5:decide ((r.length:Int)<(k:Int))=true:=decide_eq_true (by omega);have hd6:decide (r.length<k)=true:=decide_eq_true hrk;clear hrk;go_enter func81,ntmps81;go_wp2;refine bodyPost_ret (v:=.tuple #[.int .i64 0,.int .i64 0,.int .i64 5]) (zaz results81 (.tmp rfl) (.tmp rfl) (.tmp rfl)) rfl ?_;exact⟨0,0,5,rfl,zcI HN.out (by decide),Same.refl w,HF.out⟩
  case neg =>
   have hd4:decide ((r.length:Int)+1<(k:Int)+1)=false:=decide_eq_false (by omega);have hd5:decide ((r.length:Int)<(k:Int))=false:=decide_eq_false (by omega);have hd6:decide (r.length<k)=false:=decide_eq_false hrk;replace HG:=zh (HG.out.trans (if_neg hrk));have HRK:=zh hrk;clear hrk;go_enter func81,ntmps81;go_wp2
   go_loopw [7,8,9] (fun m i _ wr=>zrY w (zbb x r) k m i wr) (fun _ i _ _=>k+1 - (intOf i).toNat)
   case atStart=>exact⟨rfl,0,Nat.zero_le _,rfl,rfl,by simp[zbv]⟩
   case round =>
    obtain⟨rfl,j,hj,rfl,rfl,hm⟩:=hrel.st;clear hrel
    by_cases hlt:j<k
    case pos =>
     obtain⟨y,hy⟩:∃ y,r[j]?=some y:=⟨_,List.getElem?_eq_getElem (by have:=HRK.out;omega)⟩;have cy:wr.cell? ⟨g,off+(j+1),none⟩=some (.int .u8 (y.toNat:Int)):=HB.out wr HF.out (j+1) y hy;have HMT:=zh (ziQ (zbb x r) (HBA.out j y hlt hy));have HMO:=zh (ziP (zbb x r) (j+1));have HJ:=zh hlt
     have hyl:(y.toNat:Int)<256:=by have:=y.toNat_lt;omega
     have hy0:0≤(y.toNat:Int):=by omega
     have hir:j+1<r.length+1:=by have:=HRK.out;omega
     have hij:((j+1:Nat):Int)≤(k:Int):=by omega
     have HM:=zh hm;obtain⟨D,hD⟩:∃ D:Nat,(255:Int) - (y.toNat:Int)=(D:Int):=⟨255 - y.toNat,by omega⟩
     have hDw:IntKind.i64.wrap (255 - (y.toNat:Int))=(D:Int):=by rw[hD];exact IntWalk.i64_in _ (by omega)
     have HDD:=zh (show D=(zaC (sgn x) y).toNat from by rw[hs];have:=zf2 y;omega)
     have hD8:(D:Int)<256:=by omega
     generalize zbv ((zbb x r).take j)=M at HMT HM ⊢;generalize hi:j+1=i at cy hir hij HMT HMO ⊢;have HI:=zh hi
     have hi8:(i:Int)≤8:=by omega
     have hi0:0≤(i:Int):=by omega
     have hid:decide ((i:Int)≤(k:Int))=true:=decide_eq_true hij;have hidn:decide (i≤k)=true:=decide_eq_true (by omega);clear hm hj hlt hi hy
     by_cases hov:36028797018963967<M
     case pos =>
      have hdo:decide ((36028797018963967:Int)<(M:Int))=true:=decide_eq_true (by omega)
      have HN:=zh (show zey (x::r)=none from by
       rw[HG.out]
       by_cases h0:0<k∧zaC (sgn x) (r.getD 0 0)=0
       ·exact if_pos h0
       ·rw[if_neg h0]
        exact if_pos (by have h1:=HMT.out;have h2:=HMO.out;omega))
      clear hov;go_wp2;refine bodyPost_ret (v:=.tuple #[.int .i64 0,.int .i64 0,.int .i64 6]) (zaz results81 (.tmp rfl) (.tmp rfl) (.tmp rfl)) rfl ?_;exact⟨0,0,6,rfl,zcI HN.out (by decide),Same.refl wr,HF.out⟩
     case neg =>
      have hdo:decide ((36028797018963967:Int)<(M:Int))=false:=decide_eq_false (by omega);have hw1:IntKind.i64.wrap (256*(M:Int))=256*(M:Int):=IntWalk.i64_in _ (by omega);have hw2:IntKind.i64.wrap (256*(M:Int)+(D:Int))=256*(M:Int)+(D:Int):=IntWalk.i64_in _ (by omega);have HMV:=zh (show (256*(M:Int)+(D:Int):Int)=(zbv ((zbb x r).take i):Int) from by have:=HMT.out;have:=HDD.out;omega);have HML:=zh (show zbv ((zbb x r).take i)<9223372036854775808 from by have:=HMT.out;have:=HDD.out;omega);clear hov;go_wp2;have hi2:=HI.out
      rw[HMV.out];refine⟨⟨rfl,i,by omega,rfl,rfl,HML.out⟩,by simp only[intOf];omega⟩
    case neg =>
     obtain rfl:j=k:=by omega
     have hte:(zbb x r).take j=zbb x r:=List.take_of_length_le (by rw[zet (by rw[HK.out];have:=HRK.out;omega),HK.out];exact Nat.le_refl _);rw[hte] at hm ⊢;have HM:=zh hm
     have hn1:(zbv (zbb x r):Int)<9223372036854775808:=by omega
     have hn0:0≤(zbv (zbb x r):Int):=by omega
     have hjd:decide (((j+1:Nat):Int)≤(j:Int))=false:=decide_eq_false (by omega);have hjn:decide (j+1≤j)=false:=decide_eq_false (by omega);have hnw:IntKind.i64.wrap (-1 - (zbv (zbb x r):Int)) = -1 - (zbv (zbb x r):Int):=IntWalk.i64_in _ (by omega);have HSAME:=HX.out _ HM.out rfl (by have:=HK8.out;omega) (by have:=HRK.out;omega);have HIN:=zh (fun W h=>zfM (ziJ x r) (by rw[HNI.out];omega) (by rw[HNI.out];omega) F W h);have HNM:=zh HNI.out;rw[HNI.out] at HIN HSAME;clear hn1 hn0 hm;generalize zbv (zbb x r)=M at hnw HM HIN HSAME HG HNM ⊢
     have HSM:=zh HSAME;clear HSAME hte;go_wp2_with (fail)
     have hcj:(j:Int)+1≤(cap:Int):=by have:=HRK.out;omega
     have hj1:0≤(j:Int)+1:=by omega
     have hjt:((j:Int)+1).toNat=j+1:=by omega
     have HF2:=zh (HF.out.drew);have hjw:IntKind.i64.wrap ((j:Int)+1)=(j:Int)+1:=IntWalk.i64_in _ (by omega);refine zah (fun _=>True) (by kernel_rfl) ?_;(apply zaa 0 rfl rfl (by kernel_rfl) rfl);(intro w' _;go_simp;rfl);exact trivial;simp only[zq];(apply zaa 2 rfl rfl (by kernel_rfl) rfl);(intro w' _;go_simp;rfl);exact trivial;simp only[zq];(apply zaa 3 rfl rfl (by kernel_rfl) rfl);(intro w' _;go_simp;rfl);exact trivial;simp only[zq]
     refine zaa 4 (v:=.int .i64 ((j+1:Nat):Int)) rfl rfl (by kernel_rfl) rfl (fun w' _=>zau rfl rfl rfl rfl (by show Result.ok (Value.int .i64 (IntKind.i64.wrap ((j:Int)+1))) w'=_;rw[hjw];rfl)) trivial ?_;simp only[zq]
     refine zaa 5 (v:=.slice (some ⟨g,off,none⟩) (j+1) cap) rfl rfl (by kernel_rfl) rfl (fun w' _=>zfC rfl rfl rfl (by omega)) trivial ?_;simp only[zq]
     refine zan 1 rfl rfl (by kernel_rfl) rfl (f:=127) (args:=#[.int .i64 (-1 - (M:Int))]) (R:=fun v w'=>Hid (Same wr.drew w'∧Sat w' (zbu v (zdQ (-1 - (M:Int)))*F))) (by kernel_rfl) (HIN.out wr.drew HF2.out) ?_
     rintro v2 w2 h2;refine⟨trivial,?_⟩;simp only[zq]
     have hb2:zd3 w2 (.slice (some ⟨g,off,none⟩) (j+1) cap) ((x::r).take (j+1)):=by
      have hl2:((x::r).take (j+1)).length=j+1:=by rw[List.length_take,List.length_cons];have:=HRK.out;omega
      refine⟨some ⟨g,off,none⟩,cap,by rw[hl2],fun _=>⟨g,off,rfl,fun i y hy=>?_⟩⟩
      rw[List.getElem?_take] at hy;split at hy
      ·exact HB.out w2 h2.out.2.right i y hy
      ·cases hy
     have hb1:=zeW h2.out.2
     have HSA:=zh (zhX v2 (.slice (some ⟨g,off,none⟩) (j+1) cap) (zdQ (-1 - (M:Int))) ((x::r).take (j+1)) w2 hb1 hb2 (by
      have h1:(zdQ (-1 - (M:Int))).length≤9:=by
       unfold zdQ;rw[List.length_cons,List.length_map,zbi];have:=zd5 (zms (-1 - (M:Int))) 8;unfold zcB;omega
      omega))
     have H2:=(zd ((Same.refl wr).drew.trans h2.out.1) h2.out.2.right);clear h2 hb1 hb2
     refine zan 6 rfl rfl (by kernel_rfl) rfl (f:=126) (args:=#[v2,.slice (some ⟨g,off,none⟩) (j+1) cap]) (R:=fun v w'=>v = .bool (decide (zdQ (-1 - (M:Int))=(x::r).take (j+1)))∧Hid (Below w2.heap.size w2 w')) (by kernel_rfl) (HSA.out.mono fun e w' h=>⟨_,h.1,rfl,h.2⟩) ?_
     rintro _ w3 ⟨rfl,hb3⟩;refine⟨trivial,?_⟩;simp only[zq];replace H2:=(zd (H2.out.1.below hb3.out) (H2.out.2.below hb3.out));clear hb3
     by_cases hsm:zdQ (-1 - (M:Int))=(x::r).take (j+1)
     case pos =>
      rw[decide_eq_true hsm];(apply zaa 7 rfl rfl (by kernel_rfl) rfl);(intro w' _;go_simp;rfl);exact trivial;simp only[zq];refine zar (by kernel_rfl) ?_
      have HN:=zh (show zey (x::r)=some ((-1 - (M:Int)),j+1) from by
       rw[HG.out,if_neg (HSM.out.1 hsm),if_neg (by have:=HM.out;omega),HNM.out])
      clear hsm;go_wp2;refine bodyPost_ret (v:=.tuple #[.int .i64 (-1 - (M:Int)),.int .i64 ((j:Int)+1),.int .i64 0]) (zaz results81 (.tmp rfl) (.tmp rfl) (.tmp rfl)) rfl ?_;exact⟨(-1 - (M:Int)),(j:Int)+1,0,rfl,.inl ⟨by rw[hjt];exact HN.out,hj1,rfl⟩,H2.out⟩
     case neg =>
      rw[decide_eq_false hsm];(apply zaa 7 rfl rfl (by kernel_rfl) rfl);(intro w' _;go_simp;rfl);exact trivial;simp only[zq];refine zar (by kernel_rfl) ?_
      have HN:=zh (show zey (x::r)=none from by
       rw[HG.out]
       by_cases h0:0<j∧zaC (sgn x) (r.getD 0 0)=0
       ·exact if_pos h0
       ·exact absurd (HSM.out.2 h0) hsm)
      clear hsm;go_wp2;refine bodyPost_ret (v:=.tuple #[.int .i64 0,.int .i64 0,.int .i64 6]) (zaz results81 (.tmp rfl) (.tmp rfl) (.tmp rfl)) rfl ?_;exact⟨0,0,6,rfl,zcI HN.out (by decide),H2.out⟩
theorem zrd (x:UInt8)(r:List UInt8)(hs:sgn x=false)(g off cap:Nat)(F:zsi)(w:World)(hF:Sat w F)(hb:∀ w',Sat w' F→∀ (j:Nat) (y:UInt8),(x::r)[j]?=some y→w'.cell? ⟨g,off+j,none⟩=some (zb4 y))(hl:r.length≤1000)(hcap:r.length+1≤cap):
  Calls prog 81 #[.slice (some ⟨g,off,none⟩) (r.length+1) cap] w (zjN (x::r) F w):=by
 have HG:=zh (zfl x r);have hq:=zjy hs
 have hz2:(x.toNat:Int)<256:=by have:=x.toNat_lt;omega
 have hz0:0≤(x.toNat:Int):=by omega
 have c0:w.cell? ⟨g,off,none⟩=some (.int .u8 (x.toNat:Int)):=hb w hF 0 x rfl;have HB:=zh hb;have HF:=zh hF
 have HX:=zh (show ∀ (m:Nat) (hm:m<9223372036854775808),zbv (zbb x r)=m→zdL x≤8→zdL x≤r.length→(zdQ (ziJ x r)=(x::r).take (zdL x+1)↔¬ (0<zdL x∧zaC (sgn x) (r.getD 0 0)=0)) from fun m hm h h1 h2=>zhK h1 h2 (by omega))
 have HBA:=zh (fun (j:Nat) (y:UInt8) (h:j<zdL x) (hy:r[j]?=some y)=>zmD h hy);have HNI:=zh (show ziJ x r=(zbv (zbb x r):Int) from by unfold ziJ;rw[hs];rfl)
 have hlr:((r.length:Nat):Int)≤1000:=by omega
 generalize hk:zdL x=k at HG hq HX HBA;have HK:=zh hk;generalize hz:(x.toNat:Int)=z at hq hz2 hz0 c0;clear hb hF hz hk
 by_cases h8:8<k
 case pos =>
  have HN:=zh (HG.out.trans (if_pos h8));have hd1:decide (z<119)=false:=decide_eq_false (by omega);have hd2:decide (136<z)=true:=decide_eq_true (by omega);clear hq h8;go_enter func81,ntmps81;go_wp2;refine bodyPost_ret (v:=.tuple #[.int .i64 0,.int .i64 0,.int .i64 6]) (zaz results81 (.tmp rfl) (.tmp rfl) (.tmp rfl)) rfl ?_;exact⟨0,0,6,rfl,zcI HN.out (by decide),Same.refl w,HF.out⟩
 case neg =>
  have hd1:decide (z<119)=false:=decide_eq_false (by omega);have hd2:decide (136<z)=false:=decide_eq_false (by omega);have hd3:decide (z<128)=false:=decide_eq_false (by omega)
  have hkz:z - 128=(k:Int):=by omega
  have hkw:IntKind.i64.wrap (z - 128)=(k:Int):=by rw[hkz];exact IntWalk.i64_in _ (by omega)
  have hk8:(k:Int)≤8:=by omega
  have hk0:0≤(k:Int):=by omega
  have HK8:=zh h8;replace HG:=zh (HG.out.trans (if_neg h8));clear hq h8
  by_cases hrk:r.length<k
  case pos =>
   have HN:=zh (HG.out.trans (if_pos hrk));have hd4:decide ((r.length:Int)+1<(k:Int)+1)=true:=decide_eq_true (by omega);have hd5:decide ((r.length:Int)<(k:Int))=true:=decide_eq_true (by omega);have hd6:decide (r.length<k)=true:=decide_eq_true hrk;clear hrk;go_enter func81,ntmps81;go_wp2;refine bodyPost_ret (v:=.tuple #[.int .i64 0,.int .i64 0,.int .i64 5]) (zaz results81 (.tmp rfl) (.tmp rfl) (.tmp rfl)) rfl ?_;exact⟨0,0,5,rfl,zcI HN.out (by decide),Same.refl w,HF.out⟩
  case neg =>
   have hd4:decide ((r.length:Int)+1<(k:Int)+1)=false:=decide_eq_false (by omega);have hd5:decide ((r.length:Int)<(k:Int))=false:=decide_eq_false (by omega);have hd6:decide (r.length<k)=false:=decide_eq_false hrk;replace HG:=zh (HG.out.trans (if_neg hrk));have HRK:=zh hrk;clear hrk;go_enter func81,ntmps81;go_wp2
   go_loopw [7,8,9] (fun m i _ wr=>zrY w (zbb x r) k m i wr) (fun _ i _ _=>k+1 - (intOf i).toNat)
   case atStart=>exact⟨rfl,0,Nat.zero_le _,rfl,rfl,by simp[zbv]⟩
   case round =>
    obtain⟨rfl,j,hj,rfl,rfl,hm⟩:=hrel.st;clear hrel
    by_cases hlt:j<k
    case pos =>
     obtain⟨y,hy⟩:∃ y,r[j]?=some y:=⟨_,List.getElem?_eq_getElem (by have:=HRK.out;omega)⟩;have cy:wr.cell? ⟨g,off+(j+1),none⟩=some (.int .u8 (y.toNat:Int)):=HB.out wr HF.out (j+1) y hy;have HMT:=zh (ziQ (zbb x r) (HBA.out j y hlt hy));have HMO:=zh (ziP (zbb x r) (j+1));have HJ:=zh hlt
     have hyl:(y.toNat:Int)<256:=by have:=y.toNat_lt;omega
     have hy0:0≤(y.toNat:Int):=by omega
     have hir:j+1<r.length+1:=by have:=HRK.out;omega
     have hij:((j+1:Nat):Int)≤(k:Int):=by omega
     have HM:=zh hm;obtain⟨D,hD⟩:∃ D:Nat,y.toNat=D:=⟨_,rfl⟩;have HDD:=zh (show D=(zaC (sgn x) y).toNat from by rw[hs];exact hD.symm);rw[hD] at cy hyl hy0;clear hD;have hD8:(D:Int)<256:=hyl;generalize zbv ((zbb x r).take j)=M at HMT HM ⊢;generalize hi:j+1=i at cy hir hij HMT HMO ⊢;have HI:=zh hi
     have hi8:(i:Int)≤8:=by omega
     have hi0:0≤(i:Int):=by omega
     have hid:decide ((i:Int)≤(k:Int))=true:=decide_eq_true hij;have hidn:decide (i≤k)=true:=decide_eq_true (by omega);clear hm hj hlt hi hy
     by_cases hov:36028797018963967<M
     case pos =>
      have hdo:decide ((36028797018963967:Int)<(M:Int))=true:=decide_eq_true (by omega)
      have HN:=zh (show zey (x::r)=none from by
       rw[HG.out]
       by_cases h0:0<k∧zaC (sgn x) (r.getD 0 0)=0
       ·exact if_pos h0
       ·rw[if_neg h0]
        exact if_pos (by have h1:=HMT.out;have h2:=HMO.out;omega))
      clear hov;go_wp2;refine bodyPost_ret (v:=.tuple #[.int .i64 0,.int .i64 0,.int .i64 6]) (zaz results81 (.tmp rfl) (.tmp rfl) (.tmp rfl)) rfl ?_;exact⟨0,0,6,rfl,zcI HN.out (by decide),Same.refl wr,HF.out⟩
     case neg =>
      have hdo:decide ((36028797018963967:Int)<(M:Int))=false:=decide_eq_false (by omega);have hw1:IntKind.i64.wrap (256*(M:Int))=256*(M:Int):=IntWalk.i64_in _ (by omega);have hw2:IntKind.i64.wrap (256*(M:Int)+(D:Int))=256*(M:Int)+(D:Int):=IntWalk.i64_in _ (by omega);have HMV:=zh (show (256*(M:Int)+(D:Int):Int)=(zbv ((zbb x r).take i):Int) from by have:=HMT.out;have:=HDD.out;omega);have HML:=zh (show zbv ((zbb x r).take i)<9223372036854775808 from by have:=HMT.out;have:=HDD.out;omega);clear hov;go_wp2;have hi2:=HI.out
      rw[HMV.out];refine⟨⟨rfl,i,by omega,rfl,rfl,HML.out⟩,by simp only[intOf];omega⟩
    case neg =>
     obtain rfl:j=k:=by omega
     have hte:(zbb x r).take j=zbb x r:=List.take_of_length_le (by rw[zet (by rw[HK.out];have:=HRK.out;omega),HK.out];exact Nat.le_refl _);rw[hte] at hm ⊢;have HM:=zh hm
     have hn1:(zbv (zbb x r):Int)<9223372036854775808:=by omega
     have hn0:0≤(zbv (zbb x r):Int):=by omega
     have hjd:decide (((j+1:Nat):Int)≤(j:Int))=false:=decide_eq_false (by omega);have hjn:decide (j+1≤j)=false:=decide_eq_false (by omega);have hnw:True:=trivial;have HSAME:=HX.out _ HM.out rfl (by have:=HK8.out;omega) (by have:=HRK.out;omega);have HIN:=zh (fun W h=>zfM (ziJ x r) (by rw[HNI.out];omega) (by rw[HNI.out];omega) F W h);have HNM:=zh HNI.out;rw[HNI.out] at HIN HSAME;clear hn1 hn0 hm;generalize zbv (zbb x r)=M at hnw HM HIN HSAME HG HNM ⊢;have HSM:=zh HSAME;clear HSAME hte;go_wp2_with (fail)
     have hcj:(j:Int)+1≤(cap:Int):=by have:=HRK.out;omega
     have hj1:0≤(j:Int)+1:=by omega
     have hjt:((j:Int)+1).toNat=j+1:=by omega
     have HF2:=zh (HF.out.drew);have hjw:IntKind.i64.wrap ((j:Int)+1)=(j:Int)+1:=IntWalk.i64_in _ (by omega);refine zah (fun _=>True) (by kernel_rfl) ?_;(apply zaa 0 rfl rfl (by kernel_rfl) rfl);(intro w' _;go_simp;rfl);exact trivial;simp only[zq];(apply zaa 2 rfl rfl (by kernel_rfl) rfl);(intro w' _;go_simp;rfl);exact trivial;simp only[zq];(apply zaa 3 rfl rfl (by kernel_rfl) rfl);(intro w' _;go_simp;rfl);exact trivial;simp only[zq]
     refine zaa 4 (v:=.int .i64 ((j+1:Nat):Int)) rfl rfl (by kernel_rfl) rfl (fun w' _=>zau rfl rfl rfl rfl (by show Result.ok (Value.int .i64 (IntKind.i64.wrap ((j:Int)+1))) w'=_;rw[hjw];rfl)) trivial ?_;simp only[zq]
     refine zaa 5 (v:=.slice (some ⟨g,off,none⟩) (j+1) cap) rfl rfl (by kernel_rfl) rfl (fun w' _=>zfC rfl rfl rfl (by omega)) trivial ?_;simp only[zq]
     refine zan 1 rfl rfl (by kernel_rfl) rfl (f:=127) (args:=#[.int .i64 (M:Int)]) (R:=fun v w'=>Hid (Same wr.drew w'∧Sat w' (zbu v (zdQ (M:Int))*F))) (by kernel_rfl) (HIN.out wr.drew HF2.out) ?_
     rintro v2 w2 h2;refine⟨trivial,?_⟩;simp only[zq]
     have hb2:zd3 w2 (.slice (some ⟨g,off,none⟩) (j+1) cap) ((x::r).take (j+1)):=by
      have hl2:((x::r).take (j+1)).length=j+1:=by rw[List.length_take,List.length_cons];have:=HRK.out;omega
      refine⟨some ⟨g,off,none⟩,cap,by rw[hl2],fun _=>⟨g,off,rfl,fun i y hy=>?_⟩⟩
      rw[List.getElem?_take] at hy;split at hy
      ·exact HB.out w2 h2.out.2.right i y hy
      ·cases hy
     have hb1:=zeW h2.out.2
     have HSA:=zh (zhX v2 (.slice (some ⟨g,off,none⟩) (j+1) cap) (zdQ (M:Int)) ((x::r).take (j+1)) w2 hb1 hb2 (by
      have h1:(zdQ (M:Int)).length≤9:=by
       unfold zdQ;rw[List.length_cons,List.length_map,zbi];have:=zd5 (zms (M:Int)) 8;unfold zcB;omega
      omega))
     have H2:=(zd ((Same.refl wr).drew.trans h2.out.1) h2.out.2.right);clear h2 hb1 hb2
     refine zan 6 rfl rfl (by kernel_rfl) rfl (f:=126) (args:=#[v2,.slice (some ⟨g,off,none⟩) (j+1) cap]) (R:=fun v w'=>v = .bool (decide (zdQ (M:Int)=(x::r).take (j+1)))∧Hid (Below w2.heap.size w2 w')) (by kernel_rfl) (HSA.out.mono fun e w' h=>⟨_,h.1,rfl,h.2⟩) ?_
     rintro _ w3 ⟨rfl,hb3⟩;refine⟨trivial,?_⟩;simp only[zq];replace H2:=(zd (H2.out.1.below hb3.out) (H2.out.2.below hb3.out));clear hb3
     by_cases hsm:zdQ (M:Int)=(x::r).take (j+1)
     case pos =>
      rw[decide_eq_true hsm];(apply zaa 7 rfl rfl (by kernel_rfl) rfl);(intro w' _;go_simp;rfl);exact trivial;simp only[zq];refine zar (by kernel_rfl) ?_
      have HN:=zh (show zey (x::r)=some ((M:Int),j+1) from by
       rw[HG.out,if_neg (HSM.out.1 hsm),if_neg (by have:=HM.out;omega),HNM.out])
      clear hsm;go_wp2;refine bodyPost_ret (v:=.tuple #[(M:Int),.int .i64 ((j:Int)+1),.int .i64 0]) (zaz results81 (.tmp rfl) (.tmp rfl) (.tmp rfl)) rfl ?_;exact⟨(M:Int),(j:Int)+1,0,rfl,.inl ⟨by rw[hjt];exact HN.out,hj1,rfl⟩,H2.out⟩
     case neg =>
      rw[decide_eq_false hsm];(apply zaa 7 rfl rfl (by kernel_rfl) rfl);(intro w' _;go_simp;rfl);exact trivial;simp only[zq];refine zar (by kernel_rfl) ?_
      have HN:=zh (show zey (x::r)=none from by
       rw[HG.out]
       by_cases h0:0<j∧zaC (sgn x) (r.getD 0 0)=0
       ·exact if_pos h0
       ·exact absurd (HSM.out.2 h0) hsm)
      clear hsm;go_wp2;refine bodyPost_ret (v:=.tuple #[.int .i64 0,.int .i64 0,.int .i64 6]) (zaz results81 (.tmp rfl) (.tmp rfl) (.tmp rfl)) rfl ?_;exact⟨0,0,6,rfl,zcI HN.out (by decide),H2.out⟩
theorem zdy (v:Value)(b:List UInt8)(F:zsi)(w:World)(hF:Sat w F)(hb:∀ w',Sat w' F→BytesC w' v b)(hl:b.length≤1000):
  Calls prog 81 #[v] w (zjN b F w):=by
 obtain⟨ao,cap,rfl,hcap,hcell⟩:=hb w hF
 cases b with
 | nil =>
  have HF:=zh hF;clear hcell hb hF;go_enter func81,ntmps81;go_wp2;refine bodyPost_ret (v:=.tuple #[.int .i64 0,.int .i64 0,.int .i64 5]) (zaz results81 (.tmp rfl) (.tmp rfl) (.tmp rfl)) rfl ?_;exact⟨0,0,5,rfl,zcI rfl (by decide),Same.refl w,HF.out⟩
 | cons x r =>
  obtain⟨g,off,rfl,_⟩:=hcell (by simp)
  have hb2:∀ w',Sat w' F→∀ (j:Nat) (y:UInt8),(x::r)[j]?=some y→w'.cell? ⟨g,off+j,none⟩=some (zb4 y):=fun w' h j y hy=>by
   obtain⟨ao',cap',e,_,h3⟩:=hb w' h
   injection e with e1 e2 e3
   obtain⟨b',off',e4,h4⟩:=h3 (by simp);rw[e4] at e1;simp only[Option.some.injEq,Addr.mk.injEq,and_true] at e1;obtain⟨rfl,rfl⟩:=e1;exact h4 j y hy
  rw[List.length_cons] at hcap hl ⊢
  cases hs:sgn x with
  | true=>exact zrc x r hs g off cap F w hF hb2 (by omega) hcap
  | false=>exact zrd x r hs g off cap F w hF hb2 (by omega) hcap
end Go.Proofs.YtmcclbiaoeilkaaGreat
