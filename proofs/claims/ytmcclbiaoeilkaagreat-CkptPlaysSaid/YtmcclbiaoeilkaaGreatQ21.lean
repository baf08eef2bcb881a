import Derived.Test.YtmcclbiaoeilkaaGreatQ20
set_option maxHeartbeats 4000000
set_option maxRecDepth 100000
/- Part 21 of a proof;the last part says what is proved. -/
section
namespace Go.Proofs.YtmcclbiaoeilkaaGreat
open Go.Proofs.Tryz Go.RowKit Go.Sl Go.ChangeMaps
theorem zq5 (t:TypeId)(a j:Nat)(s:Int)(hs:s=8*(j:Int))(h1:j≤7):binOp .shr t (.int .i64 (a:Int)) (.int .i64 s)=pure (.int .i64 ((a / 256 ^ j:Nat):Int)):=by
 obtain rfl:s=((8*j:Nat):Int):=by omega
 rw[binOp_shr,shift_shr_any _ _ _ _ (by omega),show min (((8*j:Nat):Int)).toNat IntKind.i64.bits=8*j by show min ((8*j:Nat):Int).toNat 64=8*j;omega];rw[show (256:Nat) ^ j=2 ^ (8*j) by rw[show (256:Nat)=2 ^ 8 from rfl,← Nat.pow_mul]];congr 2
structure zr5 (w:World)(n sz:Nat)(F:zsi)(o i:Value)(wr:World):Prop where
 st:∃ k:Nat,k≤sz∧i = .int .i64 (k:Int)∧Same w wr∧Sat wr (zbu o (leL n k)*F)
theorem zjc (n sz:Nat)(hsz:sz≤4)(F:zsi)(w:World)(hF:Sat w F):
  Calls prog 138 #[(n:Int),(sz:Int)] w fun e w'=>∃ v,e = .returned v∧Hid (Same w w'∧Sat w' (zbu v (leL n sz)*F)):=by
 have H1:=(zd (Same.refl w) (zeY.2 hF));clear hF;go_enter func138,ntmps138;go_wp2
 go_loopw [5,6] (fun o i wr=>zr5 w n sz F o i wr) (fun _ i _=>sz - (intOf i).toNat)
 case atStart=>exact⟨0,Nat.zero_le _,rfl,H1.out.1,by rw[show leL n 0=[] from rfl];exact H1.out.2⟩
 case round =>
  clear H1;obtain⟨k,hk,rfl,hsm,hs⟩:=hrel.st;clear hrel;have H1:=(zd hsm hs);obtain⟨ao,cap,rfl⟩:=zal hs;clear hsm hs
  by_cases hlt:k<sz
  case pos =>
   have hltd:decide ((k:Int)<(sz:Int))=true:=decide_eq_true (by omega)
   have hk4:(k:Int)≤4:=by omega
   have HLB:=zh (zgT n k)
   have hsh:∀ (t:TypeId),binOp .shr t (.int .i64 (n:Int)) (.int .i64 (8*(k:Int)))=pure (.int .i64 ((n / 256 ^ k:Nat):Int)):=fun t=>zq5 t n k _ rfl (by omega)
   have hw8:IntKind.i64.wrap (8*(k:Int))=8*(k:Int):=IntWalk.i64_in _ (by omega);go_wp2_with (at_builtin;refine zcA (z:=leB n k) H1.out.2 rfl _ _ rfl rfl rfl ?_ ?_ ?_)
   ·rw[← HLB.out];push_cast;rfl
   ·rw[zaK];omega
   intro v2 w2 hsm2 h2;replace H1:=(zd (H1.out.1.trans hsm2) (by rw[← zeb] at h2;exact h2));clear hsm2 h2;go_wp2;exact⟨⟨k+1,by omega,rfl,H1.out.1,H1.out.2⟩,by simp only[intOf];omega⟩
  case neg =>
   obtain rfl:k=sz:=by omega
   have hltd:decide ((k:Int)<(k:Int))=false:=decide_eq_false (by omega);go_wp2;go_ret;exact⟨_,rfl,H1.out⟩
theorem zdt {ops:Array Oper}{rest:List Oper}{o:Oper}{a:Act}{Q:Exit→Act→World→Prop}{F:zsi}{W:World}{v y:Value}{L M:List UInt8}(h:Sat W (zbu v L*(zbu y M*F)))(hM:0<M.length)(hgd:o.guard=none)(s x:Operand)
  (ho:o.op = .call { callee:=.builtin .append,args:=#[s,x],argTypes:=#[69,69] }) (hs:a.eval s=v) (hx:a.eval x=y) (hn:L.length+M.length≤100000)
  (k:∀ v' w',Same W w'→Sat w' (zbu v' (L++M)*F)→wpList prog ops Q rest (a.put o.dst v') w'):wpList prog ops Q (o::rest) a W:=by
 obtain⟨i0,hi,hz0,hz1,hz2⟩:=info_parts zdz;obtain⟨g,cap,cur,rfl,hnc,hcm,hcs,ht,hS⟩:=zeX hM h.right;refine zaq (F:=zbu (.slice (some ⟨g,0,none⟩) M.length cap) M*F) hgd s x 69 zaM ho i0 _ underlying69 hi hz0 hz1 hz2 rfl h (zaY M) hs hx (by rw[zao,Nat.mul_one]) ?_ ?_ (by unfold maxLen;omega) (by omega) ?_
 ·intro j u hu
  exact zdR ht hS.block j u hu
 ·intro u hu
  obtain⟨x,_,rfl⟩:=List.mem_map.1 hu
  rfl
 ·intro v' w' h6
  refine k v' w' h6.out.1 ?_;have h7:=h6.out.2
  have e:zaY (L++M)=zaY L++zaY M:=by simp[zaY]
  unfold zbu;rw[e,List.length_append];exact (h7.perm (show _=zbu (.slice (some ⟨g,0,none⟩) M.length cap) M*(zaf zaM 1 v' (L.length+M.length) (zaY L++zaY M)*F) from by ac_rfl)).right
theorem zf9 (a b:List UInt8):zae a++zae b=zae (a++b):=by
 unfold zae;apply ByteArray.ext;simp
def zse (v:Value):Nat:=match v with | .slice _ n _=>n|_=>0
structure zsb (w:World)(L:List UInt8)(m:Nat)(E:zsi)(o:Value)(wr:World):Prop where
 st:∃ j:Nat,j≤m∧Same w wr∧Sat wr (zbu o (L++zba j)*E)
theorem zmq (j:Nat):zba (j+1)=zba j++[0]:=by unfold zba;rw[List.replicate_succ']
set_option linter.unusedSimpArgs false in
theorem zmi (d ar ix ep cn:Nat)(p:List UInt8)(hok:zdr ⟨d,ar,ix⟩ ⟨ep,cn⟩ p=true)(F:zsi)(w:World)(hF:Sat w F):
  Calls prog 89 #[.agg (plA ⟨d,ar,ix⟩),.agg (zcH ⟨ep,cn⟩),.string (zae p)] w fun e w'=>e = .returned (.tuple #[.string (zae (zbX ⟨d,ar,ix⟩ ⟨ep,cn⟩ p)),.int .i64 0])∧Hid (Same w w'∧Sat w' F):=by
 unfold zdr at hok;simp only[Bool.and_eq_true,decide_eq_true_eq] at hok;obtain⟨⟨ha,hg⟩,hp⟩:=hok
 have hva:=fun W=>zcR ⟨d,ar,ix⟩ W
 have hvg:=fun W=>zg7 ⟨ep,cn⟩ W
 rw[ha] at hva;rw[hg] at hvg;have hsl:(zae p).size=p.length:=zap p;have hpd:decide ((40:Int)<(p.length:Int))=false:=decide_eq_false (by omega)
 have hp40:(p.length:Int)≤40:=by omega
 have HP:=zh hp;have HVA:=zh hva;have HVG:=zh hvg;have HSL:=zh (show zbX ⟨d,ar,ix⟩ ⟨ep,cn⟩ p=leL (zfX (zdv ⟨d,ar,ix⟩ ⟨ep,cn⟩ p)).toNat 4++zdv ⟨d,ar,ix⟩ ⟨ep,cn⟩ p from rfl);obtain⟨q1,q2,q3,q4,q5,q6⟩:=zcw.1 ha;obtain⟨r1,r2,r3,r4,r5⟩:=zdO.1 hg;clear r5;simp only at q1 q2 q3 q4 q5 q6 r1 r2 r3 r4;have HBL:=zh (zeu (a:=⟨d,ar,ix⟩) (g:=⟨ep,cn⟩) hp);have HBD:=zh (show zdv ⟨d,ar,ix⟩ ⟨ep,cn⟩ p=[UInt8.ofNat ar,UInt8.ofNat d]++leL ix 2++leL ep 4++leL cn 4++p++zba (40 - p.length)++leL ep 4++leL cn 4 from rfl)
 have hc1:(d:Int)<64:=by omega
 have hc2:(ar:Int)≤4:=by omega
 have HU:=(zd (show ((UInt8.ofNat ar).toNat:Int)=(ar:Int) by rw[zb3 (by omega)]) (show ((UInt8.ofNat d).toNat:Int)=(d:Int) by rw[zb3 (by omega)]));have hz1:=(Same.refl w).alloc (.cells (plA ⟨d,ar,ix⟩) TPl);have hz2:=hF.alloc (.cells (plA ⟨d,ar,ix⟩) TPl);have H1:=(zd (hz1.alloc (.cells (zcH ⟨ep,cn⟩) zam)) ((hz2.alloc (.cells (zcH ⟨ep,cn⟩) zam)).perm (show _=pts w.heap.size (.cells (plA ⟨d,ar,ix⟩) TPl (0,0))*(pts (w.alloc (.cells (plA ⟨d,ar,ix⟩) TPl)).heap.size (.cells (zcH ⟨ep,cn⟩) zam (0,0))*F) from by ac_rfl)))
 rw[World.size_alloc] at H1
 have HNB:=zh (show ∀ (n sz:Nat) (W:World) (X:zsi),sz≤4→Sat W X→Calls prog 138 #[(n:Int),(sz:Int)] W fun e w'=>∃ v,e = .returned v∧Hid (Same W w'∧Sat w' (zbu v (leL n sz)*X)) from fun n sz W X hsz h=>zjc n sz hsz X W h)
 have LL:=zh (show ∀ n m,(leL n m).length=m from zaK);clear hva hvg hF ha hg hz1 hz2 q1 q2 q3 q4 q5 q6 r1 r2 r3 r4 hp;go_enter func89,ntmps89;go_upto_region 1 with (fail)
 generalize (w.alloc (.cells (plA ⟨d,ar,ix⟩) TPl)).alloc (.cells (zcH ⟨ep,cn⟩) zam)=w1 at H1 ⊢;generalize w.heap.size=B at H1 ⊢;obtain⟨⟨b0,b1,b2⟩,⟨c0,c1⟩,lb,lc⟩:=zaG H1.out.2
 go_upto_region 5 with (first
  | (go_at_call 129;refine (HVA.out _).mono ?_;rintro e w2 ⟨rfl,hb⟩;replace H1:=(zd (H1.out.1.below hb) (H1.out.2.below hb));clear b0 b1 b2 c0 c1 lb lc hb;obtain⟨⟨b0,b1,b2⟩,⟨c0,c1⟩,lb,lc⟩:=zaG H1.out.2)
  | (go_at_call 130;refine (HVG.out _).mono ?_;rintro e w3 ⟨rfl,hb⟩;replace H1:=(zd (H1.out.1.below hb) (H1.out.2.below hb));clear b0 b1 b2 c0 c1 lb lc hb;obtain⟨⟨b0,b1,b2⟩,⟨c0,c1⟩,lb,lc⟩:=zaG H1.out.2))
 generalize hE:pts B (.cells (plA ⟨d,ar,ix⟩) TPl (0,0))*(pts (B+1) (.cells (zcH ⟨ep,cn⟩) zam (0,0))*F)=E at H1
 have HC:=zh (show ∀ W X,Sat W (X*E)→(W.cell? ⟨B,0,none⟩=some (.int .i64 (d:Int))∧W.cell? ⟨B,1,none⟩=some (.int .i64 (ar:Int))∧W.cell? ⟨B,2,none⟩=some (.int .i64 (ix:Int)))∧W.cell? ⟨B+1,0,none⟩=some (.int .i64 (ep:Int))∧W.cell? ⟨B+1,1,none⟩=some (.int .i64 (cn:Int)) from fun W X h=>by
  subst hE
  exact⟨(zaG h.right).1,(zaG h.right).2.1⟩)
 have HEF:=zh (show ∀ W,Sat W E→Sat W F from fun W h=>by subst hE;exact h.right.right);clear hE;go_upto_region 6 with (fail)
 have h4:=zjg [UInt8.ofNat ar,UInt8.ofNat d] #[.int .u8 (ar:Int),.int .u8 (d:Int)] (by show [_,_]=[zb4 _,zb4 _];unfold zb4;rw[HU.out.1,HU.out.2]) (by simp[maxLen]) H1.out.2;have hs4:=H1.out.1.alloc (.cells #[.int .u8 (ar:Int),.int .u8 (d:Int)] zaM);replace H1:=(zd hs4 h4);change Code.wp _ _ _ _ (w3.alloc (.cells #[.int .u8 (ar:Int),.int .u8 (d:Int)] zaM));generalize w3.alloc (.cells #[.int .u8 (ar:Int),.int .u8 (d:Int)] zaM)=x0 at H1 ⊢;replace H1:=(zd H1.out.1 (show Sat x0 (zbu (.slice (some ⟨w3.heap.size,0,none⟩) 2 2) [UInt8.ofNat ar,UInt8.ofNat d]*E) from H1.out.2))
 generalize Value.slice (some ⟨w3.heap.size,0,none⟩) 2 2=v0 at H1 ⊢;generalize hL0:[UInt8.ofNat ar,UInt8.ofNat d]=L0 at H1 HBD
 have hL0l:L0.length=2:=by rw[← hL0];rfl
 have HL0:=zh hL0l;clear h4 hs4 b0 b1 b2 c0 c1 lb lc hL0 hL0l;obtain⟨⟨b0,b1,b2⟩,c0,c1⟩:=HC.out x0 _ H1.out.2
 go_upto_region 7 with (first
  | (go_at_call 138;refine (HNB.out ix 2 x0 _ (by decide) H1.out.2).mono ?_;rintro e y1 ⟨n1,rfl,h5⟩;replace H1:=(zd (H1.out.1.trans h5.out.1) (h5.out.2.perm (show _=zbu v0 (L0)*(zbu n1 (leL ix 2)*E) from by ac_rfl)));clear h5)
  | (at_builtin;refine zdt H1.out.2 (by rw[LL.out];decide) rfl _ _ rfl rfl rfl (by have:=HP.out;simp only[List.length_append,LL.out,HL0.out];omega) ?_;intro v1 x1 hs6 h6;replace H1:=(zd (H1.out.1.trans hs6) h6);clear hs6 h6))
 clear b0 b1 b2 c0 c1;obtain⟨⟨b0,b1,b2⟩,c0,c1⟩:=HC.out x1 _ H1.out.2
 go_upto_region 8 with (first
  | (go_at_call 138;refine (HNB.out ep 4 x1 _ (by decide) H1.out.2).mono ?_;rintro e y2 ⟨n2,rfl,h5⟩;replace H1:=(zd (H1.out.1.trans h5.out.1) (h5.out.2.perm (show _=zbu v1 (L0++leL ix 2)*(zbu n2 (leL ep 4)*E) from by ac_rfl)));clear h5)
  | (at_builtin;refine zdt H1.out.2 (by rw[LL.out];decide) rfl _ _ rfl rfl rfl (by have:=HP.out;simp only[List.length_append,LL.out,HL0.out];omega) ?_;intro v2 x2 hs6 h6;replace H1:=(zd (H1.out.1.trans hs6) h6);clear hs6 h6))
 clear b0 b1 b2 c0 c1;obtain⟨⟨b0,b1,b2⟩,c0,c1⟩:=HC.out x2 _ H1.out.2
 go_upto_region 9 with (first
  | (go_at_call 138;refine (HNB.out cn 4 x2 _ (by decide) H1.out.2).mono ?_;rintro e y3 ⟨n3,rfl,h5⟩;replace H1:=(zd (H1.out.1.trans h5.out.1) (h5.out.2.perm (show _=zbu v2 (L0++leL ix 2++leL ep 4)*(zbu n3 (leL cn 4)*E) from by ac_rfl)));clear h5)
  | (at_builtin;refine zdt H1.out.2 (by rw[LL.out];decide) rfl _ _ rfl rfl rfl (by have:=HP.out;simp only[List.length_append,LL.out,HL0.out];omega) ?_;intro v3 x3 hs6 h6;replace H1:=(zd (H1.out.1.trans hs6) h6);clear hs6 h6))
 clear b0 b1 b2 c0 c1;have hrs:=zfd (by simp only[List.length_append,LL.out,HL0.out];omega) H1.out.2 p (by have:=HP.out;simp only[List.length_append,LL.out,HL0.out];omega) 69;obtain⟨v4,x4,hr4,hs4,hS4⟩:=hrs;replace H1:=(zd (H1.out.1.trans hs4) hS4);have HR4:=zh hr4;clear hs4 hS4 hr4;go_upto_region 10 with (at_builtin;refine zcS rfl _ _ _ _ rfl rfl rfl HR4.out ?_)
 have HL4:=zh (show (L0++leL ix 2++leL ep 4++leL cn 4++p).length=12+p.length by simp only[List.length_append,LL.out,HL0.out]);generalize hL4:L0++leL ix 2++leL ep 4++leL cn 4++p=L4 at H1 HBD HL4;clear hL4;have HZL:=zh (show ∀ j,(zba j).length=j from fun j=>by simp[zba])
 go_loopw [10] (fun o wr=>zsb w L4 (40 - p.length) E o wr) (fun o _=>52 - zse o)
 case atStart=>exact⟨0,Nat.zero_le _,H1.out.1,by rw[show zba 0=[] from rfl,List.append_nil];exact H1.out.2⟩
 case round =>
  clear H1;obtain⟨j,hj,hsm,hs⟩:=hrel.st;clear hrel;have H1:=(zd hsm hs);obtain⟨ao,cap,rfl⟩:=zal hs;clear hsm hs
  have hlen:(L4++zba j).length=12+p.length+j:=by rw[List.length_append,HL4.out,HZL.out]
  rw[hlen] at H1 ⊢
  by_cases hlt:j<40 - p.length
  case pos =>
   have hqd:12+p.length+j<52:=by omega
   have HLN:=zh hlen;generalize 12+p.length+j=q at hqd H1 HLN ⊢
   have hq2:(q:Int)<52:=by omega
   have hq0:0≤(q:Int):=by omega
   have hqdd:decide ((q:Int)<52)=true:=decide_eq_true hq2;have hqdn:decide (q<52)=true:=decide_eq_true hqd;clear hlen;go_wp2_with (at_builtin;refine zcA (z:=0) H1.out.2 rfl _ _ rfl rfl rfl rfl (by rw[HLN.out];omega) ?_);intro v5 x5 hs5 h5;replace H1:=(zd (H1.out.1.trans hs5) h5);clear hs5 h5;obtain⟨ao5,cap5,rfl⟩:=zal H1.out.2;go_wp2;refine⟨⟨j+1,by omega,H1.out.1,by rw[zmq];exact H1.out.2⟩,?_⟩;show 52 - (L4++(zba j++[0])).length<52 - q;rw[← List.append_assoc,List.length_append,HLN.out];show 52 - (q+1)<52 - q
   omega
  case neg =>
   obtain rfl:j=40 - p.length:=by omega
   have hqd:12+p.length+(40 - p.length)=52:=by omega
   rw[hqd] at hlen H1 ⊢;have HL5:=zh hlen;generalize hL5:L4++zba (40 - p.length)=L5 at H1 HL5 HBD;clear hlen hqd hlt hj hL5;go_upto_region 12 with (fail)
   generalize Value.slice ao 52 cap=v5 at H1 ⊢;obtain⟨⟨b0,b1,b2⟩,c0,c1⟩:=HC.out wr _ H1.out.2
   go_upto_region 13 with (first
    | (go_at_call 138;refine (HNB.out ep 4 wr _ (by decide) H1.out.2).mono ?_;rintro e y6 ⟨n6,rfl,h5⟩;replace H1:=(zd (H1.out.1.trans h5.out.1) (h5.out.2.perm (show _=zbu v5 (L5)*(zbu n6 (leL ep 4)*E) from by ac_rfl)));clear h5)
    | (at_builtin;refine zdt H1.out.2 (by rw[LL.out];decide) rfl _ _ rfl rfl rfl (by simp only[List.length_append,LL.out,HL5.out];omega) ?_;intro v6 x6 hs6 h6;replace H1:=(zd (H1.out.1.trans hs6) h6);clear hs6 h6))
   clear b0 b1 b2 c0 c1;obtain⟨⟨b0,b1,b2⟩,c0,c1⟩:=HC.out x6 _ H1.out.2
   go_upto_region 14 with (first
    | (go_at_call 138;refine (HNB.out cn 4 x6 _ (by decide) H1.out.2).mono ?_;rintro e y7 ⟨n7,rfl,h5⟩;replace H1:=(zd (H1.out.1.trans h5.out.1) (h5.out.2.perm (show _=zbu v6 (L5++leL ep 4)*(zbu n7 (leL cn 4)*E) from by ac_rfl)));clear h5)
    | (at_builtin;refine zdt H1.out.2 (by rw[LL.out];decide) rfl _ _ rfl rfl rfl (by simp only[List.length_append,LL.out,HL5.out];omega) ?_;intro v7 x7 hs6 h6;replace H1:=(zd (H1.out.1.trans hs6) h6);clear hs6 h6))
   clear b0 b1 b2 c0 c1;replace HBL:=zh HBL.out;generalize hq:L5++leL ep 4++leL cn 4=q at H1 HBD;rw[HBD.out] at HSL HBL;clear hq HBD;have hof:=zk0 v7 q x7 (zeW H1.out.2) (by rw[HBL.out];decide);have hcl:=(zfX q).toNat_lt;unfold zfw at hof;have hsl2:=HSL.out;generalize (zfX q).toNat=c at hof hcl hsl2;have HS2:=zh hsl2;have HOF:=zh hof;have hcw:IntKind.i64.wrap (c:Int)=(c:Int):=IntWalk.i64_in _ (by omega);clear hof hcl hsl2 HSL
   go_upto_region 15 with (first
    | (go_at_call 131;refine HOF.out.mono ?_;rintro e y8 ⟨rfl,rfl⟩)
    | (go_at_call 138;refine (HNB.out c 4 x7 _ (by decide) H1.out.2).mono ?_;rintro e y8 ⟨n8,rfl,h5⟩;replace H1:=(zt H1 h5);clear h5))
   have hnl:¬ 9223372036854775807<(zae (leL c 4)).size+(zae q).size:=by rw[zap,zap,LL.out,HBL.out];decide
   have hcv1:=zdp (by rw[LL.out];decide) H1.out.2;have hcv2:=zdp (by rw[HBL.out];decide) H1.out.2.right
   go_wp2_with (first
    | ((with_reducible (refine zaT ?_ (zaD ?_ ?_ hcv1) ?_));rfl;rfl;rfl)
    | ((with_reducible (refine zaT ?_ (zaD ?_ ?_ hcv2) ?_));rfl;rfl;rfl))
   go_ret2
   have es:zae (leL c 4)++zae q=zae (leL c 4++q):=by
    have h:=zf9 (leL c 4) q;exact h
   exact⟨by rw[HS2.out,← es];rfl,H1.out.1,HEF.out _ H1.out.2.right.right⟩
theorem zmh (a:zsj)(g:GenM)(p:List UInt8)(hok:zdr a g p=true)(F:zsi)(w:World)(hF:Sat w F):
  Calls prog 89 #[.agg (plA a),.agg (zcH g),.string (zae p)] w fun e w'=>e = .returned (.tuple #[.string (zae (zbX a g p)),.int .i64 0])∧Hid (Same w w'∧Sat w' F):=by
 have h:=hok;unfold zdr at h;simp only[Bool.and_eq_true] at h;obtain⟨d,ar,ix⟩:=a;obtain⟨ep,cn⟩:=g;obtain⟨q1,_,q2,_,q3,_⟩:=zcw.1 h.1.1;obtain⟨r1,r2,_⟩:=zdO.1 h.1.2;simp only at q1 q2 q3 r1 r2;obtain⟨d,rfl⟩:=Int.eq_ofNat_of_zero_le q1;obtain⟨ar,rfl⟩:=Int.eq_ofNat_of_zero_le (show 0≤ar by omega);obtain⟨ix,rfl⟩:=Int.eq_ofNat_of_zero_le q3;obtain⟨ep,rfl⟩:=Int.eq_ofNat_of_zero_le r1;obtain⟨cn,rfl⟩:=Int.eq_ofNat_of_zero_le r2;exact zmi d ar ix ep cn p hok F w hF
theorem zdM (c:zsl)(h0:1≤c.image)(h1:c.image≤65536)(w:World):
  Calls prog 22 #[.agg (za8 c)] w fun e w'=>e = .returned (.int .i64 (zda c))∧Below w.heap.size w w':=by
 have hm:max 0 (c.image - 1)=c.image - 1:=by omega
 have hc:zda c=(c.image - 1)*40:=by unfold zda;rw[hm]
 have hw1:IntKind.i64.wrap (c.image - 1)=c.image - 1:=IntWalk.i64_in _ (by omega);have hw2:IntKind.i64.wrap ((c.image - 1)*40)=(c.image - 1)*40:=IntWalk.i64_in _ (by omega);have HB:=zh (show Below w.heap.size w (w.alloc (.cells (za8 c) zcC)) from ((Same.refl w).alloc _).below_of ((Sat.old w).alloc (.cells (za8 c) zcC)));obtain⟨im,him⟩:∃ im,c.image=im:=⟨_,rfl⟩;rw[him] at hm hc hw1 hw2 h0 h1;rw[hc]
 have hcc:za8 c=#[.int .i64 c.disks,.int .i64 c.racks,.int .i64 c.rows,.int .i64 c.spare,.int .i64 c.log,.int .i64 im]:=by rw[← him]
 rw[hcc] at HB ⊢;clear hcc hc him;go_enter func22,ntmps22;go_wp2;go_ret;exact⟨rfl,HB.out⟩
theorem zqh {b:List UInt8}{x:Int}{u:Nat}(h:zey b=some (x,u)):u≤b.length:=by
 cases b with
 | nil=>cases h
 | cons c r =>
  unfold zey at h;simp only at h;split at h;cases h;split at h;cases h;split at h;cases h;split at h;cases h;simp only[Option.some.injEq,Prod.mk.injEq] at h;rw[← h.2,List.length_cons];omega
theorem BytesC.drop {w:World}{ao:Option Addr}{cap m n:Nat}{l:List UInt8}(h:BytesC w (.slice ao n cap) l)(hn:l.length=n)(hm:m≤n):
  BytesC w (.slice (if cap=m then ao else ao.map fun x=>x.add m) (n - m) (cap - m)) (l.drop m):=by
 subst hn;obtain⟨ao',cap',he',hc,h3⟩:=h;simp only[Value.slice.injEq,true_and] at he';obtain⟨rfl,rfl⟩:=he';refine⟨_,_,by rw[List.length_drop],by rw[List.length_drop];omega,fun hne=>?_⟩
 have hlt:m<l.length:=by
  rcases Nat.lt_or_ge m l.length with h|h
  ·exact h
  ·exact absurd (List.drop_eq_nil_of_le h) hne
 have hne2:l≠[]:=by rintro rfl;simp at hlt
 obtain⟨b,off,rfl,hcell⟩:=h3 hne2;refine⟨b,off+m,?_,fun j x hj=>?_⟩
 ·rw[if_neg (by omega)];simp[Addr.add_mid]
 ·rw[List.getElem?_drop] at hj
  have:=hcell (m+j) x hj;rw[show off+m+j=off+(m+j) by omega];exact this
def zjO (b:List UInt8)(most:Int)(w:World)(e:Ending)(w':World):Prop:=∃ (s n:Int) (ok:Bool),e = .returned (.tuple #[s,n,.bool ok])∧w=w'∧(ok=(zdk b most).isSome∧∀ s' n',zdk b most=some (s',n')→s=s'∧n=(n':Int))
theorem zfJ (b:List UInt8)(most:Int):zdk b most=match zey b with
  | none=>none
  | some (s,u)=>match zey (b.drop u) with
   | none=>none
   | some (n,_)=>if 0≤s∧0≤n∧n≤most then some (s,n.toNat) else none:=rfl
theorem zhG (v:Value)(b:List UInt8)(most:Int)(w:World)(hb:BytesC w v b)(hl:b.length≤1000):
  Calls prog 79 #[v,most] w (zjO b most w):=by
 have HG:=zh (zjE v b w hb hl)
 cases h1:zey b with
 | none =>
  have hh:zdk b most=none:=by rw[zfJ,h1]
  obtain⟨e1,e2,e3⟩:=zcb h1;rw[e1,e2,e3] at HG;have HH:=zh hh;clear h1 hh e1 e2 e3 hb;go_enter func79,ntmps79;go_wp2_with (go_at_call 124;refine HG.out.mono ?_;rintro e w1 ⟨k,hk,rfl,rfl⟩;have hk0:(k != 0)=true:=bne_iff_ne.2 (fun h=>nomatch hk.1 h);clear hk)
  go_ret3
  exact⟨0,0,false,rfl,rfl,by rw[HH.out];rfl,fun _ _ h=>by rw[HH.out] at h;cases h⟩
 | some su =>
  obtain⟨s,u⟩:=su;obtain⟨e1,e2,e3⟩:=zdP h1;rw[e1,e2,e3] at HG;have hu:=zqh h1;obtain⟨ao,cap,rfl,hbc⟩:=id hb;obtain⟨N,hN⟩:∃ N,b.length=N:=⟨_,rfl⟩;rw[hN] at hb HG hu hl ⊢;have HG2:=zh (zjE _ (b.drop u) w (hb.drop hN hu) (by rw[List.length_drop];omega));clear hbc hN
  cases h2:zey (b.drop u) with
  | none =>
   have hh:zdk b most=none:=by rw[zfJ,h1];simp only[h2]
   obtain⟨f1,f2,f3⟩:=zcb h2;rw[f1,f2,f3] at HG2;have HH:=zh hh;clear h1 h2 hh e1 e2 e3 f1 f2 f3 hb;go_enter func79,ntmps79;go_upto_region 4 with (go_at_call 124;refine HG.out.mono ?_;rintro e w1 ⟨k,hk,rfl,rfl⟩;obtain rfl:k=0:=(by simpa using hk);clear hk)
   go_wp2_with (go_at_call 124;refine HG2.out.mono ?_;rintro e w1 ⟨k,hk,rfl,rfl⟩;have hk0:(k==0)=false:=beq_eq_false_iff_ne.2 (fun h=>nomatch hk.1 h);clear hk)
   all_goals go_ret3
   all_goals exact⟨_,_,_,rfl,rfl,by rw[HH.out];rfl,fun _ _ h=>by rw[HH.out] at h;cases h⟩
  | some nu =>
   obtain⟨n,u2⟩:=nu
   have hh:zdk b most=if 0≤s∧0≤n∧n≤most then some (s,n.toNat) else none:=by rw[zfJ,h1];simp only[h2]
   obtain⟨f1,f2,f3⟩:=zdP h2;rw[f1,f2,f3] at HG2;have HH:=zh hh;clear h1 h2 hh e1 e2 e3 f1 f2 f3 hb;go_enter func79,ntmps79;go_upto_region 4 with (go_at_call 124;refine HG.out.mono ?_;rintro e w1 ⟨k,hk,rfl,rfl⟩;obtain rfl:k=0:=(by simpa using hk);clear hk)
   go_upto_region 5 with (go_at_call 124;refine HG2.out.mono ?_;rintro e w1 ⟨k,hk,rfl,rfl⟩;obtain rfl:k=0:=(by simpa using hk);clear hk);have hH:=HH.out
   by_cases hs:0≤s
   ·have d1:decide (0≤s)=true:=decide_eq_true hs
    by_cases hn:0≤n
    ·have d2:decide (0≤n)=true:=decide_eq_true hn
     by_cases hm:n≤most
     ·have d3:decide (n≤most)=true:=decide_eq_true hm
      rw[if_pos ⟨hs,hn,hm⟩] at hH;have HQ:=zh hH;clear hH;have HN:=zh hn;clear hs hn hm HH;go_wp2
      all_goals go_ret3
      all_goals exact⟨_,_,_,rfl,rfl,by rw[HQ.out];rfl,fun s' n' h=>by rw[HQ.out] at h;simp only[Option.some.injEq,Prod.mk.injEq] at h;exact⟨h.1,by rw[← h.2];have:=HN.out;omega⟩⟩
     ·have d3:decide (n≤most)=false:=decide_eq_false hm
      rw[if_neg (fun h=>hm h.2.2)] at hH;have HQ:=zh hH;clear hH;clear hs hn hm HH;go_wp2
      all_goals go_ret3
      all_goals exact⟨_,_,_,rfl,rfl,by rw[HQ.out];rfl,fun s' n' h=>by rw[HQ.out] at h;cases h⟩
    ·have d2:decide (0≤n)=false:=decide_eq_false hn
     rw[if_neg (fun h=>hn h.2.1)] at hH;have HQ:=zh hH;clear hH;clear hs hn HH;go_wp2
     all_goals go_ret3
     all_goals exact⟨_,_,_,rfl,rfl,by rw[HQ.out];rfl,fun s' n' h=>by rw[HQ.out] at h;cases h⟩
   ·have d1:decide (0≤s)=false:=decide_eq_false hs
    rw[if_neg (fun h=>hs h.1)] at hH;have HQ:=zh hH;clear hH;clear hs HH;go_wp2
    all_goals go_ret3
    all_goals exact⟨_,_,_,rfl,rfl,by rw[HQ.out];rfl,fun s' n' h=>by rw[HQ.out] at h;cases h⟩
def zjP (p:Nat)(S:zsg)(F:zsi)(r:List UInt8×Int)(w:World)(e:Ending)(w':World):Prop:=e = .returned (.tuple #[.string (zae r.1),r.2])∧Same w w'∧Sat w' (zac SH p S*F)
theorem zn2 (p:Nat)(S:zsg)(F:zsi)(a:zsj)(w:World)(hS:Sat w (zac SH p S*F)):
  Calls prog 77 #[.pointer (some ⟨p,0,none⟩),.agg (plA a)] w (zjP p S F (S.read a) w):=by
 have hwf:=zaE hS;have hnum:=zdf p S F a (w.alloc (.cells (plA a) TPl)) (hS.allocKeep _);have hA:=(hS.alloc (.cells (plA a) TPl)).perm (show _=zac SH p S*(pts w.heap.size (.cells (plA a) TPl (0,0))*F) from by ac_rfl)
 have hrd:S.read a=if S.number a<0 then ([],1) else if S.access a.disk≠0 then ([],S.access a.disk) else (S.disk a.disk).read (S.number a):=rfl
 obtain⟨x,hx⟩:∃ x,S.number a=x:=⟨_,rfl⟩;rw[hx] at hnum hrd;have HX:=zh hx;have H1:=(zd ((Same.refl w).alloc (.cells (plA a) TPl)) hA);clear hA hS
 by_cases h0:x<0
 ·rw[if_pos h0] at hrd
  rw[hrd];have hb:decide (x<0)=true:=decide_eq_true h0;clear hrd h0 hwf hx;go_enter func77,ntmps77;go_wp2_with (go_at_call 90;refine hnum.mono ?_;rintro e w1 ⟨rfl,hb1⟩;replace H1:=(zd (H1.out.1.below hb1.out) (H1.out.2.below hb1.out));clear hb1);go_ret2;exact⟨rfl,H1.out.1,(H1.out.2.perm (show _=pts w.heap.size (.cells (plA a) TPl (0,0))*(zac SH p S*F) from by ac_rfl)).right⟩
 rw[if_neg h0] at hrd;have hb:decide (x<0)=false:=decide_eq_false h0
 have hn0:0≤S.number a:=by omega
 have hst:=(zsg.number_lt hwf hn0).1;have hin:=zsg.state_in hwf hst;have HST:=zh hst;obtain⟨⟨d,ar,ix⟩,ha⟩:∃ b:zsj,a=b:=⟨_,rfl⟩;subst ha
 simp only at *
 obtain⟨k,rfl⟩:=Int.eq_ofNat_of_zero_le hin.1;have hk:=hin.2;clear hn0 hin hwf hx h0 hst;go_enter func77,ntmps77;go_upto_region 4 with (go_at_call 90;refine hnum.mono ?_;rintro e w1 ⟨rfl,hb1⟩;replace H1:=(zd (H1.out.1.below hb1.out) (H1.out.2.below hb1.out));clear hb1)
 generalize w.heap.size=B at H1 ⊢;have c0:w1.cell? ⟨B,0,none⟩=some (.int .i64 (k:Int)):=zab (H1.out.2.perm (show _=pts B (.cells (plA ⟨(k:Int),ar,ix⟩) TPl (0,0))*(zac SH p S*F) from by ac_rfl)).block 0;have hacc:=zhE p S _ k w1 H1.out.2 HST.out;obtain⟨ac,hac⟩:∃ ac,S.access (k:Int)=ac:=⟨_,rfl⟩;rw[hac] at hacc hrd
 by_cases ha:ac=0
 case neg =>
  rw[if_pos ha] at hrd;have HRD:=zh hrd
  have hab:(ac != 0)=true:=by simp[ha]
  clear hrd ha hac;go_wp2_with (go_at_call 120;refine hacc.mono ?_;rintro e w' ⟨rfl,rfl⟩;clear hacc);go_ret2;rw[HRD.out];exact⟨rfl,H1.out.1,(H1.out.2.perm (show _=pts B (.cells (plA ⟨(k:Int),ar,ix⟩) TPl (0,0))*(zac SH p S*F) from by ac_rfl)).right⟩
 rw[if_neg (by simp[ha])] at hrd;subst ha;have HRD:=zh hrd;clear hrd hac;go_upto_region 7 with (go_at_call 120;refine hacc.mono ?_;rintro e w' ⟨rfl,rfl⟩;clear hacc)
 obtain⟨g,cap',q,vi,G,hs,⟨hpg,hg⟩,b0,b1,hf,hcl,hbc⟩:=zeH H1.out.2 (d:=k) (by omega);obtain⟨⟨q6,q7,q8,q9,q10⟩,hp,hfp,hra⟩:=zaU hs;obtain⟨n,hnn⟩:∃ n,S.bays.length=n:=⟨_,rfl⟩;rw[hnn] at q6 hk;have hrdd:=zk2 q (S.disk k) (pts p (.cells (zaJ S.cfg (.slice (some ⟨g,0,none⟩) S.bays.length cap') vi S.off S.fused S.left) TSh (0,0))*((pts B (.cells (plA ⟨(k:Int),ar,ix⟩) TPl (0,0))*F)*G)) x w1.drew (hs.drew.perm (by ac_rfl));obtain⟨⟨t,ek⟩,hr⟩:∃ r,(S.disk k).read x=r:=⟨_,rfl⟩;rw[hr] at hrdd
 have hrd2:S.read ⟨(k:Int),ar,ix⟩=(t,ek):=by rw[HRD.out];exact hr
 have HRD2:=zh hrd2;simp only at hrdd
 obtain⟨tib,htib⟩:∃ ti,prog.info? zct=some ti∧ti.size=2:=by have:=zdI (zaB 0) (zaB 0);obtain⟨ti,h1,h2⟩:=Option.map_eq_some_iff.1 this;exact⟨ti,h1,h2⟩
 have htb:=htib.1;have htb2:=htib.2;unfold zaB at b0;clear hs hf hcl hbc hfp hra hnn htib hr hrd2;have hS0:w1.drew.cell? ⟨p,6,none⟩=some (.slice (some ⟨g,0,none⟩) n cap')∧w1.drew.cell? ⟨B,0,none⟩=some (.int .i64 (k:Int))∧w1.drew.cell? ⟨g,0+k*2,none⟩=some (.pointer (some ⟨q,0,none⟩)):=⟨q6,c0,by rw[Nat.zero_add];exact b0⟩
 refine zah (fun w'=>w'.cell? ⟨p,6,none⟩=some (.slice (some ⟨g,0,none⟩) n cap')∧w'.cell? ⟨B,0,none⟩=some (.int .i64 (k:Int))∧w'.cell? ⟨g,0+k*2,none⟩=some (.pointer (some ⟨q,0,none⟩))) (by kernel_rfl) ?_
 (apply zaa 0 rfl rfl (by kernel_rfl) rfl);(rintro w' ⟨h1,h2,h3⟩;go_simp;rfl);exact hS0;simp only[zq];(apply zaa 1 rfl rfl (by kernel_rfl) rfl);(rintro w' ⟨h1,h2,h3⟩;go_simp;rfl);exact hS0;simp only[zq];(apply zaa 2 rfl rfl (by kernel_rfl) rfl);(rintro w' ⟨h1,h2,h3⟩;go_simp;rfl);exact hS0;simp only[zq];(apply zaa 3 rfl rfl (by kernel_rfl) rfl);(rintro w' ⟨h1,h2,h3⟩;go_simp;rfl);exact hS0;simp only[zq];(apply zaa 4 rfl rfl (by kernel_rfl) rfl);(rintro w' ⟨h1,h2,h3⟩;go_simp;rfl);exact hS0;simp only[zq]
 (apply zaa 5 rfl rfl (by kernel_rfl) rfl);(rintro w' ⟨h1,h2,h3⟩;go_simp;rfl);exact hS0;simp only[zq];refine zaa 6 (v:=.pointer (some ⟨g,0+k*2,none⟩)) rfl rfl (by kernel_rfl) rfl (fun _ _=>zaw rfl rfl rfl underlying76 htb htb2 (by omega)) hS0 ?_;simp only[zq];(apply zaa 7 rfl rfl (by kernel_rfl) rfl);(rintro w' ⟨h1,h2,h3⟩;rw[Nat.zero_add] at h3;go_simp;rfl);exact hS0;simp only[zq];(apply zaa 8 rfl rfl (by kernel_rfl) rfl);(rintro w' ⟨h1,h2,h3⟩;rw[Nat.zero_add] at h3;go_simp;rfl);exact hS0;simp only[zq]
 (apply zaa 9 rfl rfl (by kernel_rfl) rfl);(rintro w' ⟨h1,h2,h3⟩;rw[Nat.zero_add] at h3;go_simp;rfl);exact hS0;simp only[zq];refine zan 10 rfl rfl (by kernel_rfl) rfl (f:=73) (args:=#[.pointer (some ⟨q,0,none⟩),.int .i64 x]) (R:=fun v w'=>v = .tuple #[.string (zae t),ek]∧Hid (Below w1.heap.size w1 w')) (by kernel_rfl) (hrdd.mono fun e w' h=>⟨_,h.1,rfl,⟨h.2.os,h.2.tape,h.2.output,h.2.size,h.2.block⟩⟩) ?_;rintro _ w2 ⟨rfl,hb2⟩;have hBlt:B<w1.heap.size:=World.block_lt_of_cell? _ _ c0
 have hS1:w2.cell? ⟨p,6,none⟩=some (.slice (some ⟨g,0,none⟩) n cap')∧w2.cell? ⟨B,0,none⟩=some (.int .i64 (k:Int))∧w2.cell? ⟨g,0+k*2,none⟩=some (.pointer (some ⟨q,0,none⟩)):=⟨(hb2.out.cell (p:=⟨p,6,none⟩) hp).trans q6,(hb2.out.cell (p:=⟨B,0,none⟩) hBlt).trans c0,(hb2.out.cell (p:=⟨g,0+k*2,none⟩) hg).trans (by rw[Nat.zero_add];exact b0)⟩;refine⟨hS1,?_⟩;simp only[zq];(apply zaa 11 rfl rfl (by kernel_rfl) rfl);(rintro w' ⟨h1,h2,h3⟩;go_simp;rfl);exact hS1;simp only[zq];(apply zaa 12 rfl rfl (by kernel_rfl) rfl);(rintro w' ⟨h1,h2,h3⟩;go_simp;rfl);exact hS1;simp only[zq]
 (apply zaa 13 rfl rfl (by kernel_rfl) rfl);(rintro w' ⟨h1,h2,h3⟩;go_simp;rfl);exact hS1;simp only[zq];(apply zaa 14 rfl rfl (by kernel_rfl) rfl);(rintro w' ⟨h1,h2,h3⟩;go_simp;rfl);exact hS1;simp only[zq];refine zar (by kernel_rfl) ?_;go_wp2;go_ret2;rw[HRD2.out];exact⟨rfl,H1.out.1.below hb2.out,((H1.out.2.below hb2.out).perm (show _=pts B (.cells (plA ⟨(k:Int),ar,ix⟩) TPl (0,0))*(zac SH p S*F) from by ac_rfl)).right⟩
end Go.Proofs.YtmcclbiaoeilkaaGreat
end
