import Derived.Test.YtmcclbiaoeilkaaGreatQ12
set_option maxHeartbeats 1000000
set_option maxRecDepth 20000
/- Part 13 of a proof;the last part says what is proved. -/
namespace Go.Proofs.YtmcclbiaoeilkaaGreat
open Go.Proofs.Tryz Go.RowKit Go.Sl Go.ChangeMaps
section
variable {P:Program} {ops:Array Oper} {rest:List Oper} {o:Oper} {a:Act} {w:World} {Q:Exit→Act→World→Prop}
theorem zcS (hg:o.guard=none)(s x:Operand)(t1 t2:TypeId)(ho:o.op = .call { callee:=.builtin .append,args:=#[s,x],argTypes:=#[t1,t2] }){vs vx v':Value}{w':World}
  (hs:a.eval s=vs) (hx:a.eval x=vx) (hr:(Builtin.append_ #[t1,t2] o.type #[vs,vx]).run P w = .ok v' w') (k:wpList P ops Q rest (a.put o.dst v') w'):wpList P ops Q (o::rest) a w:=by
 refine zaT hg (v:=v') (w':=w') ?_ k;unfold execOp;simp only[ho,resolve,invoke,builtin,Sem.run_bind,Sem.run_pure,Result.andThen_ok,List.map_toArray,List.map_cons,List.map_nil,hs,hx,hr]
end
theorem zaG {w:World}{B C:Nat}{a:zsj}{g:GenM}{F:zsi}(h:Sat w (pts B (.cells (plA a) TPl (0,0))*(pts C (.cells (zcH g) zam (0,0))*F))):
  (w.cell? ⟨B,0,none⟩=some (.int .i64 a.disk)∧w.cell? ⟨B,1,none⟩=some (.int .i64 a.area)∧w.cell? ⟨B,2,none⟩=some (.int .i64 a.index))∧
  (w.cell? ⟨C,0,none⟩=some (.int .i64 g.epoch)∧w.cell? ⟨C,1,none⟩=some (.int .i64 g.count))∧B<w.heap.size∧C<w.heap.size:=by
 have h1:=zab h.block;have h2:=zab h.right.block;exact⟨⟨h1 0,h1 1,h1 2⟩,⟨h2 0,h2 1⟩,h.lt,h.right.lt⟩
theorem zdp {w:World}{v:Value}{l:List UInt8}{X:zsi}(h0:0<l.length)(h:Sat w (zbu v l*X)):(convert 69 9 v).run prog w = .ok (.string (zae l)) w:=by
 obtain⟨g,cap,cur,rfl,hn,hcm,hcs,ht,hS⟩:=zeX h0 h;refine run_convert_bytes_back (P:=prog) w 69 9 5 ⟨g,0,none⟩ cap l underlying69 underlying5 underlying9 ?_;intro j hj;refine zdR ht hS.block j _ ?_;simp[zaY,zb4,hj]
theorem zpA (d ar ix ep cn:Nat)(p:List UInt8)(hok:zdr ⟨d,ar,ix⟩ ⟨ep,cn⟩ p=true)(F:zsi)(w:World)(hF:Sat w F):
  Calls prog 87 #[.agg (plA ⟨d,ar,ix⟩),.agg (zcH ⟨ep,cn⟩),.string (zae p)] w fun e w'=>e = .returned (.tuple #[.string (zae (zbX ⟨d,ar,ix⟩ ⟨ep,cn⟩ p)),.int .i64 0])∧Hid (Same w w'∧Sat w' F):=by
 obtain⟨ti,hti,hz0,hts,hz2⟩:=info_parts zdz;have HTI:=(zd hti (And.intro hz0 (And.intro hts hz2)));clear hti hz0 hts hz2;have hok2:=hok;unfold zdr at hok;simp only[Bool.and_eq_true,decide_eq_true_eq] at hok;obtain⟨⟨ha,hg⟩,hp⟩:=hok
 have hva:=fun W=>zeJ ⟨d,ar,ix⟩ W
 have hvg:=fun W=>zgq ⟨ep,cn⟩ W
 rw[ha] at hva;rw[hg] at hvg;have hsl:(zae p).size=p.length:=zap p;have hpd:decide ((40:Int)<(p.length:Int))=false:=decide_eq_false (by omega);have HVA:=zh hva;have HVG:=zh hvg;have HSL:=zh (show zbX ⟨d,ar,ix⟩ ⟨ep,cn⟩ p=leL (zfX (zdv ⟨d,ar,ix⟩ ⟨ep,cn⟩ p)).toNat 4++zdv ⟨d,ar,ix⟩ ⟨ep,cn⟩ p from rfl);obtain⟨q1,q2,q3,q4,q5,q6⟩:=zcw.1 ha;obtain⟨r1,r2,r3,r4,r5⟩:=zdO.1 hg;clear r5;simp only at q1 q2 q3 q4 q5 q6 r1 r2 r3 r4;have HBL:=zh (zeu (a:=⟨d,ar,ix⟩) (g:=⟨ep,cn⟩) hp);have HBD:=zh (show zdv ⟨d,ar,ix⟩ ⟨ep,cn⟩ p=[UInt8.ofNat ar,UInt8.ofNat d]++leL ix 2++leL ep 4++leL cn 4++p++zba (40 - p.length)++leL ep 4++leL cn 4 from rfl)
 have HU1:=zh (show ((ar:Int))=((UInt8.ofNat ar).toNat:Int) by rw[zb3 (by omega)]);have HU2:=zh (show ((d:Int))=((UInt8.ofNat d).toNat:Int) by rw[zb3 (by omega)]);have HZ:=zh (show (40:Int) - (p.length:Int)=((40 - p.length:Nat):Int) by omega);have hz1:=(Same.refl w).alloc (.cells (plA ⟨d,ar,ix⟩) TPl);have hz2:=hF.alloc (.cells (plA ⟨d,ar,ix⟩) TPl);have H1:=(zd (hz1.alloc (.cells (zcH ⟨ep,cn⟩) zam)) ((hz2.alloc (.cells (zcH ⟨ep,cn⟩) zam)).perm (show _=pts w.heap.size (.cells (plA ⟨d,ar,ix⟩) TPl (0,0))*(pts (w.alloc (.cells (plA ⟨d,ar,ix⟩) TPl)).heap.size (.cells (zcH ⟨ep,cn⟩) zam (0,0))*F) from by ac_rfl)))
 rw[World.size_alloc] at H1;clear hva hvg hF hok2 ha hg hz1 hz2;go_enter func87,ntmps87;go_upto_region 1 with (fail)
 generalize (w.alloc (.cells (plA ⟨d,ar,ix⟩) TPl)).alloc (.cells (zcH ⟨ep,cn⟩) zam)=w1 at H1 ⊢;generalize w.heap.size=B at H1 ⊢;obtain⟨⟨b0,b1,b2⟩,⟨c0,c1⟩,lb,lc⟩:=zaG H1.out.2
 go_upto_region 3 with (first
  | (go_at_call 121;refine (HVA.out _).mono ?_;rintro e w2 ⟨rfl,hb⟩;replace H1:=(zd (H1.out.1.below hb) (H1.out.2.below hb));clear b0 b1 b2 c0 c1 lb lc hb;obtain⟨⟨b0,b1,b2⟩,⟨c0,c1⟩,lb,lc⟩:=zaG H1.out.2)
  | (go_at_call 134;refine (HVG.out _).mono ?_;rintro e w3 ⟨rfl,hb⟩;replace H1:=(zd (H1.out.1.below hb) (H1.out.2.below hb));clear b0 b1 b2 c0 c1 lb lc hb;obtain⟨⟨b0,b1,b2⟩,⟨c0,c1⟩,lb,lc⟩:=zaG H1.out.2))
 generalize hE:pts B (.cells (plA ⟨d,ar,ix⟩) TPl (0,0))*(pts (B+1) (.cells (zcH ⟨ep,cn⟩) zam (0,0))*F)=E at H1
 have HC:=zh (show ∀ W X,Sat W (X*E)→W.cell? ⟨B+1,0,none⟩=some (.int .i64 (ep:Int))∧W.cell? ⟨B+1,1,none⟩=some (.int .i64 (cn:Int)) from fun W X h=>by
  subst hE
  exact (zaG h.right).2.1)
 have HEF:=zh (show ∀ W,Sat W E→Sat W F from fun W h=>by subst hE;exact h.right.right);clear hE;go_upto_region 4 with ((go_at_call 135);rw[HU1.out,HU2.out];refine (zpn _ [UInt8.ofNat ar,UInt8.ofNat d] ix (by omega) (by simp) _ _ (zjg _ _ rfl (by simp[maxLen]) H1.out.2)).mono ?_;rintro e w4 ⟨v4,rfl,h4⟩;replace H1:=(zd ((H1.out.1.alloc _).trans h4.out.1) h4.out.2);clear h4)
 clear b0 b1 b2 c0 c1 lb lc
 have HP4:=zh (show ∀ (v:Value) (l:List UInt8) (n:Nat) (W:World),l.length≤1000000→n<4294967296→Sat W (zbu v l*E)→Calls prog 136 #[v,.int .u32 (n:Int)] W fun e w'=>∃ v',e = .returned v'∧Hid (Same W w'∧Sat w' (zbu v' (l++leL n 4)*E)) from fun v l n W hl hn h=>zkZ v l n hn hl E W h)
 have ke:IntKind.u32.wrap (ep:Int)=(ep:Int):=IntWalk.u32_in _ (by omega);have kc:IntKind.u32.wrap (cn:Int)=(cn:Int):=IntWalk.u32_in _ (by omega);have LE:=zh (show ep<4294967296∧cn<4294967296 by omega);have LL:=zh (show ∀ n m,(leL n m).length=m from zaK);have hS0:=HC.out w4.drew _ H1.out.2
 refine zah (fun w'=>w'.cell? ⟨B+1,0,none⟩=some (.int .i64 (ep:Int))∧w'.cell? ⟨B+1,1,none⟩=some (.int .i64 (cn:Int))) (by kernel_rfl) ?_
 (apply zaa 0 rfl rfl (by kernel_rfl) rfl);(rintro w' ⟨h1,h2⟩;go_simp;rfl);exact hS0;simp only[zq];(apply zaa 1 rfl rfl (by kernel_rfl) rfl);(rintro w' ⟨h1,h2⟩;go_simp;rfl);exact hS0;simp only[zq];(apply zaa 2 rfl rfl (by kernel_rfl) rfl);(rintro w' ⟨h1,h2⟩;go_simp;rfl);exact hS0;simp only[zq];(apply zaa 3 rfl rfl (by kernel_rfl) rfl);(rintro w' ⟨h1,h2⟩;go_simp;rfl);exact hS0;simp only[zq];(apply zaa 5 rfl rfl (by kernel_rfl) rfl);(rintro w' ⟨h1,h2⟩;go_simp;rfl);exact hS0;simp only[zq];(apply zaa 6 rfl rfl (by kernel_rfl) rfl);(rintro w' ⟨h1,h2⟩;go_simp;rfl);exact hS0;simp only[zq]
 (apply zaa 7 rfl rfl (by kernel_rfl) rfl);(rintro w' ⟨h1,h2⟩;go_simp;rfl);exact hS0;simp only[zq]
 refine zan 4 rfl rfl (by kernel_rfl) rfl (f:=136) (args:=#[v4,.int .u32 (ep:Int)]) (R:=fun v w'=>Hid (Same w4.drew w'∧Sat w' (zbu v ([UInt8.ofNat ar,UInt8.ofNat d]++leL ix 2++leL ep 4)*E))) (by kernel_rfl) (HP4.out v4 _ ep w4.drew (by simp[LL.out]) LE.out.1 H1.out.2) ?_
 rintro v5 w5 h5;replace H1:=(zd (H1.out.1.drew.trans h5.out.1) h5.out.2);replace hS0:=HC.out w5 _ H1.out.2;refine⟨hS0,?_⟩;simp only[zq]
 refine zan 8 rfl rfl (by kernel_rfl) rfl (f:=136) (args:=#[v5,.int .u32 (cn:Int)]) (R:=fun v w'=>Hid (Same w5 w'∧Sat w' (zbu v ([UInt8.ofNat ar,UInt8.ofNat d]++leL ix 2++leL ep 4++leL cn 4)*E))) (by kernel_rfl) (HP4.out v5 _ cn w5 (by simp[LL.out]) LE.out.2 H1.out.2) ?_
 rintro v6 w6 h6;replace H1:=(zt H1 h6);replace hS0:=HC.out w6 _ H1.out.2;refine⟨hS0,?_⟩;simp only[zq];(apply zaa 9 rfl rfl (by kernel_rfl) rfl);(rintro w' ⟨h1,h2⟩;go_simp;rfl);exact hS0;simp only[zq];refine zar (by kernel_rfl) ?_;clear h5 h6;obtain⟨v7,w7,hr7,hs7,hS7⟩:=zfd (by simp) H1.out.2 p (by simp[LL.out];omega) 69;replace H1:=(zd (H1.out.1.trans hs7) hS7);have HR7:=zh hr7;clear hs7 hS7 hr7;go_upto_region 6 with (at_builtin;refine zcS rfl _ _ _ _ rfl rfl rfl HR7.out ?_)
 obtain⟨v8,w8,hr8,hs8,hS8⟩:=zgt (by simp) H1.out.2 (40 - p.length) (by simp[LL.out];omega) 69;replace H1:=(zd (H1.out.1.trans hs8) hS8);have HR8:=zh hr8;clear hs8 hS8 hr8
 have hp0:(p.length:Int)≤40:=by omega
 go_upto_region 7 with (at_builtin;refine zcS rfl _ _ _ _ rfl rfl (congrArg (Value.int .i64) HZ.out) HR8.out ?_);replace hS0:=HC.out w8.drew _ H1.out.2
 refine zah (fun w'=>w'.cell? ⟨B+1,0,none⟩=some (.int .i64 (ep:Int))∧w'.cell? ⟨B+1,1,none⟩=some (.int .i64 (cn:Int))) (by kernel_rfl) ?_
 (apply zaa 0 rfl rfl (by kernel_rfl) rfl);(rintro w' ⟨h1,h2⟩;go_simp;rfl);exact hS0;simp only[zq];(apply zaa 1 rfl rfl (by kernel_rfl) rfl);(rintro w' ⟨h1,h2⟩;go_simp;rfl);exact hS0;simp only[zq];(apply zaa 2 rfl rfl (by kernel_rfl) rfl);(rintro w' ⟨h1,h2⟩;go_simp;rfl);exact hS0;simp only[zq];(apply zaa 3 rfl rfl (by kernel_rfl) rfl);(rintro w' ⟨h1,h2⟩;go_simp;rfl);exact hS0;simp only[zq];(apply zaa 5 rfl rfl (by kernel_rfl) rfl);(rintro w' ⟨h1,h2⟩;go_simp;rfl);exact hS0;simp only[zq];(apply zaa 6 rfl rfl (by kernel_rfl) rfl);(rintro w' ⟨h1,h2⟩;go_simp;rfl);exact hS0;simp only[zq]
 (apply zaa 7 rfl rfl (by kernel_rfl) rfl);(rintro w' ⟨h1,h2⟩;go_simp;rfl);exact hS0;simp only[zq]
 refine zan 4 rfl rfl (by kernel_rfl) rfl (f:=136) (args:=#[v8,.int .u32 (ep:Int)]) (R:=fun v w'=>Hid (Same w8.drew w'∧Sat w' (zbu v ([UInt8.ofNat ar,UInt8.ofNat d]++leL ix 2++leL ep 4++leL cn 4++p++zba (40 - p.length)++leL ep 4)*E))) (by kernel_rfl) (HP4.out v8 _ ep w8.drew (by simp[LL.out,zba];omega) LE.out.1 H1.out.2) ?_
 rintro v9 w9 h9;replace H1:=(zd (H1.out.1.drew.trans h9.out.1) h9.out.2);replace hS0:=HC.out w9 _ H1.out.2;refine⟨hS0,?_⟩;simp only[zq]
 refine zan 8 rfl rfl (by kernel_rfl) rfl (f:=136) (args:=#[v9,.int .u32 (cn:Int)]) (R:=fun v w'=>Hid (Same w9 w'∧Sat w' (zbu v ([UInt8.ofNat ar,UInt8.ofNat d]++leL ix 2++leL ep 4++leL cn 4++p++zba (40 - p.length)++leL ep 4++leL cn 4)*E))) (by kernel_rfl) (HP4.out v9 _ cn w9 (by simp[LL.out,zba];omega) LE.out.2 H1.out.2) ?_
 rintro v10 w10 h10;replace H1:=(zt H1 h10);replace hS0:=HC.out w10 _ H1.out.2;refine⟨hS0,?_⟩;simp only[zq];(apply zaa 9 rfl rfl (by kernel_rfl) rfl);(rintro w' ⟨h1,h2⟩;go_simp;rfl);exact hS0;simp only[zq];refine zar (by kernel_rfl) ?_;clear h9 h10 hS0;have hA:=H1.out;rw[← HBD.out] at hA;replace H1:=zh hA;clear hA;replace HBL:=zh HBL.out;obtain⟨q,hq⟩:∃ q,zdv ⟨d,ar,ix⟩ ⟨ep,cn⟩ p=q:=⟨_,rfl⟩;rw[hq] at H1 HSL HBL;clear hq HBD;obtain⟨g10,cap10,rfl,_⟩:=zbd H1.out.2 (by rw[HBL.out];decide);have hof:=zpX (.slice (some ⟨g10,0,none⟩) q.length cap10) q _ w10 H1.out.2 (fun W h=>zeW h) (by rw[HBL.out];decide)
 unfold zfw at hof;have hcl:=(zfX q).toNat_lt;have hsl2:=HSL.out;obtain⟨c,hc⟩:∃ c,(zfX q).toNat=c:=⟨_,rfl⟩;rw[hc] at hof hcl hsl2;replace HSL:=zh hsl2;clear hsl2 hc;have HOF:=zh hof;have HCL:=zh hcl
 have HPX:=zh (show ∀ W F',Sat W F'→Calls prog 136 #[.slice none 0 0,.int .u32 (c:Int)] W fun e w'=>∃ v',e = .returned v'∧Hid (Same W w'∧Sat w' (zbu v' ([]++leL c 4)*F')) from fun W F' h=>zkZ (.slice none 0 0) [] c hcl (by simp) F' W (zeY.2 h))
 clear hof hcl
 go_wp2_with (first
  | (go_at_call 137;refine (HOF.out).mono ?_;rintro e w11 ⟨rfl,h11⟩;replace H1:=(zt H1 h11);clear h11)
  | (go_at_call 136;refine (HPX.out _ _ H1.out.2).mono ?_;rintro e w12 ⟨v12,rfl,h12⟩;replace H1:=(zt H1 h12);clear h12)
  | (at_builtin;refine zaq (F:=zbu (.slice (some ⟨g10,0,none⟩) q.length cap10) q*E) rfl _ _ 69 zaM rfl ti _ underlying69 HTI.out.1 HTI.out.2.1 HTI.out.2.2.1 HTI.out.2.2.2 rfl H1.out.2 (zaY q) rfl rfl (by rw[zao,Nat.mul_one]) ?_ ?_ (by have:=HBL.out;simp only[List.nil_append,zaK,maxLen];omega) (by have:=HBL.out;simp only[List.nil_append,zaK];omega) ?_))
 ·have hx:=fun (cur:Array Value)=>zdR (l:=q) (w:=w12) (g:=g10) (cur:=cur)
  intro j u hu;obtain⟨g',cap',cur',e',_,_,_,ht',hS'⟩:=zeX (by rw[HBL.out];decide) H1.out.2.right;simp only[Value.slice.injEq,Option.some.injEq,Addr.mk.injEq,and_true] at e';obtain⟨⟨rfl,_⟩,_⟩:=e';exact hx _ ht' hS'.block j u hu
 ·intro u hu
  obtain⟨x,_,rfl⟩:=List.mem_map.1 hu
  rfl
 intro v13 w13 h13
 have hS13:Sat w13 (zbu v13 (leL c 4++q)*(zbu (.slice (some ⟨g10,0,none⟩) q.length cap10) q*E)):=by
  have h:=h13.out.2;unfold zbu;rw[List.length_append,show zaY (leL c 4++q)=zaY (leL c 4)++zaY q by simp[zaY]];exact h
 have hcv:=zdp (by rw[List.length_append,HBL.out];omega) hS13;replace H1:=(zd (H1.out.1.trans h13.out.1) (HEF.out _ hS13.right.right));have HCV:=zh hcv;clear h13 hS13 hcv;refine zaT rfl (zaD rfl rfl HCV.out) ?_;go_wp2;go_ret2;exact⟨by rw[HSL.out];rfl,H1.out⟩
theorem zpz (a:zsj)(g:GenM)(p:List UInt8)(hok:zdr a g p=true)(F:zsi)(w:World)(hF:Sat w F):
  Calls prog 87 #[.agg (plA a),.agg (zcH g),.string (zae p)] w fun e w'=>e = .returned (.tuple #[.string (zae (zbX a g p)),.int .i64 0])∧Hid (Same w w'∧Sat w' F):=by
 have hok2:=hok;unfold zdr at hok;simp only[Bool.and_eq_true,decide_eq_true_eq] at hok;obtain⟨⟨ha,hg⟩,hp⟩:=hok;obtain⟨q1,q2,q3,q4,q5,q6⟩:=zcw.1 ha;obtain⟨r1,r2,r3,r4,r5⟩:=zdO.1 hg;obtain⟨d,ar,ix⟩:=a;obtain⟨ep,cn⟩:=g;simp only at q1 q2 q3 q4 q5 q6 r1 r2 r3 r4;obtain⟨d,rfl⟩:=Int.eq_ofNat_of_zero_le q1;obtain⟨ar,rfl⟩:=Int.eq_ofNat_of_zero_le (show 0≤ar by omega);obtain⟨ix,rfl⟩:=Int.eq_ofNat_of_zero_le q5;obtain⟨ep,rfl⟩:=Int.eq_ofNat_of_zero_le r1;obtain⟨cn,rfl⟩:=Int.eq_ofNat_of_zero_le r2;exact zpA d ar ix ep cn p hok2 F w hF
end Go.Proofs.YtmcclbiaoeilkaaGreat
namespace Go.Proofs.YtmcclbiaoeilkaaGreat
open Go.Proofs.Tryz Go.RowKit Go.Sl Go.ChangeMaps
theorem za0 (A B C:zsi):A*(B*C)=B*(A*C):=by ac_rfl
def zPl:Array Value:=#[.int .i64 0,.int .i64 0,.int .i64 0]
def zbr:Array Value:=#[.int .i64 0,.int .i64 0]
theorem zjK (w:World):(zeroValue TPl).run prog w = .ok (.agg zPl) w:=by kernel_rfl
theorem zcT (w:World):(zeroValue zam).run prog w = .ok (.agg zbr) w:=by kernel_rfl
theorem zdl {c:Array Value}(h:c.size=3):(prog.info? TPl).map (·.size)=some c.size:=by rw[h];kernel_rfl
theorem za1 {c:Array Value}(h:c.size=2):(prog.info? zam).map (·.size)=some c.size:=by rw[h];kernel_rfl
theorem zcE {w:World}{B:Nat}{X:zsi}(h:Sat w (pts B (.cells zPl TPl (0,0))*(pts (B+1) (.cells zbr zam (0,0))*X))):
  (w.cell? ⟨B,0,none⟩=some (.int .i64 0)∧w.cell? ⟨B,1,none⟩=some (.int .i64 0)∧w.cell? ⟨B,2,none⟩=some (.int .i64 0)∧w.cell? ⟨B+1,0,none⟩=some (.int .i64 0)∧w.cell? ⟨B+1,1,none⟩=some (.int .i64 0))∧
  (w.frozen? ⟨B,0,none⟩=false∧w.frozen? ⟨B,1,none⟩=false∧w.frozen? ⟨B,2,none⟩=false∧w.frozen? ⟨B+1,0,none⟩=false∧w.frozen? ⟨B+1,1,none⟩=false):=by
 have h1:=zab h.block;have h2:=zab h.right.block;have f1:=zaj h.block;have f2:=zaj h.right.block;exact⟨⟨h1 0,h1 1,h1 2,h2 0,h2 1⟩,f1 0,f1 1,f1 2,f2 0,f2 1⟩
theorem zcF {w w0:World}{B:Nat}{X:zsi}(hm:Same w0 w)(h:Sat w (pts B (.cells zPl TPl (0,0))*(pts (B+1) (.cells zbr zam (0,0))*X))):
  Same w0 (((((w.setCell ⟨B,0,none⟩ (.int .i64 0)).setCell ⟨B,1,none⟩ (.int .i64 0)).setCell ⟨B,2,none⟩ (.int .i64 0)).setCell ⟨B+1,0,none⟩ (.int .i64 0)).setCell ⟨B+1,1,none⟩ (.int .i64 0))∧
  Sat (((((w.setCell ⟨B,0,none⟩ (.int .i64 0)).setCell ⟨B,1,none⟩ (.int .i64 0)).setCell ⟨B,2,none⟩ (.int .i64 0)).setCell ⟨B+1,0,none⟩ (.int .i64 0)).setCell ⟨B+1,1,none⟩ (.int .i64 0)) (pts B (.cells zPl TPl (0,0))*(pts (B+1) (.cells zbr zam (0,0))*X)):=by
 refine⟨((((hm.setCell _ _).setCell _ _).setCell _ _).setCell _ _).setCell _ _,?_⟩;have h3:=((h.setCell (i:=0) (.int .i64 0)).setCell (i:=1) (.int .i64 0)).setCell (i:=2) (.int .i64 0);have h5:=((h3.perm (za0 _ _ _)).setCell (i:=0) (.int .i64 0)).setCell (i:=1) (.int .i64 0);exact h5.perm (za0 _ _ _)
theorem zdE (s:List UInt8)(i j:Nat):(zae s).extract i j=zae (zav s i j):=by
 apply ByteArray.ext;simp[zae,zav,ByteArray.data_extract,List.extract]
section
variable {o:Oper} {a:Act} {w:World}
theorem zcU {T:TypeId}{x y:Operand}{s:List UInt8}{i:Nat}(ho:o.op = .index T x y)(hT:prog.underlying T=some .string)(hx:a.eval x = .string (zae s))(hy:a.eval y = .int .i64 (i:Int))(h:i<s.length):
  (execOp a.eval o).run prog w = .ok (.value (.int .u8 ((s.getD i 0).toNat:Int))) w:=by
 have hs:=zap s
 have e:(Instr.index T (.string (zae s)) (.int .i64 (i:Int))).run prog w = .ok (.int .u8 ((s.getD i 0).toNat:Int)) w:=by
  rw[run_index_string _ _ _ _ _ hT];rw[dif_pos ⟨by omega,by omega⟩]
  have e2:∀ h':(i:Int).toNat<(zae s).size,(zae s)[(i:Int).toNat]'h'=s.getD i 0:=fun h'=>by
   rw[List.getD_eq_getElem?_getD,List.getElem?_eq_getElem h]
   rfl
  rw[e2]
 unfold execOp;simp[ho,hx,hy,e]
theorem za3 {T:TypeId}{x y z:Operand}{s:List UInt8}{i j:Nat}(ho:o.op = .slice T x (some y) (some z) none)(hT:prog.underlying T=some .string)(hx:a.eval x = .string (zae s))(hy:a.eval y = .int .i64 (i:Int))(hz:a.eval z = .int .i64 (j:Int))(h:i≤j)(h2:j≤s.length):
  (execOp a.eval o).run prog w = .ok (.value (.string (zae (zav s i j)))) w:=by
 have hs:=zap s
 have e:(Instr.sliceAt T (.string (zae s)) (some (.int .i64 (i:Int))) (some (.int .i64 (j:Int))) none).run prog w = .ok (.string (zae (zav s i j))) w:=by
  rw[run_sliceAt_string _ _ _ _ _ _ hT,run_slice_string_if _ _ _ _ _ _ _ hT,if_pos (by omega),if_pos (by omega),← zdE]
  rfl
 unfold execOp;simp[ho,hx,hy,hz,e]
theorem zcG {T:TypeId}{x y:Operand}{s:List UInt8}{i:Nat}(ho:o.op = .slice T x (some y) none none)(hT:prog.underlying T=some .string)(hx:a.eval x = .string (zae s))(hy:a.eval y = .int .i64 (i:Int))(h:i≤s.length):
  (execOp a.eval o).run prog w = .ok (.value (.string (zae (s.drop i)))) w:=by
 have hs:=zap s
 have e:(Instr.sliceAt T (.string (zae s)) (some (.int .i64 (i:Int))) none none).run prog w = .ok (.string (zae (s.drop i))) w:=by
  rw[run_sliceAt_string _ _ _ _ _ _ hT,run_slice_string_l _ _ _ hT _ _ (by omega) (by omega),zdE,hs]
  have e2:zav s (i:Int).toNat s.length=s.drop i:=by
   unfold zav;rw[List.take_of_length_le (by rw[List.length_drop];omega)]
   rfl
  rw[e2]
 unfold execOp;simp[ho,hx,hy,e]
theorem zcO {T:TypeId}{x z:Operand}{s:List UInt8}{j:Nat}(ho:o.op = .slice T x none (some z) none)(hT:prog.underlying T=some .string)(hx:a.eval x = .string (zae s))(hz:a.eval z = .int .i64 (j:Int))(h2:j≤s.length):
  (execOp a.eval o).run prog w = .ok (.value (.string (zae (s.take j)))) w:=by
 have hs:=zap s
 have e:(Instr.sliceAt T (.string (zae s)) none (some (.int .i64 (j:Int))) none).run prog w = .ok (.string (zae (s.take j))) w:=by
  rw[run_sliceAt_string _ _ _ _ _ _ hT,run_slice_string_h _ _ _ hT _ _ (by omega) (by omega),zdE];simp[zav]
 unfold execOp;simp[ho,hx,hz,e]
theorem zew {T t2:TypeId}{x y:Operand}{s t:List UInt8}(ho:o.op = .binOp .neq T x y t2)(hx:a.eval x = .string (zae s))(hy:a.eval y = .string (zae t))(hg:eqGuard .neq T x y (.string (zae s)) (.string (zae t))=pure ()):
  (execOp a.eval o).run prog w = .ok (.value (.bool (!decide (s=t)))) w:=by
 refine zau ho hx hy hg ?_;rw[binOp_string_neq,Lib.toList_data,Lib.toList_data];show Result.ok (Value.bool (!(s.toArray.toList==t.toArray.toList))) w=_;rw[show (s.toArray.toList==t.toArray.toList)=decide (s=t) by rw[Bool.eq_iff_iff];simp]
end
theorem zjB (s:List UInt8)(W:World):∃ (c:Array Value) (fr:Nat×Nat) (cap:Nat),(convert 9 69 (.string (zae s))).run prog W = .ok (.slice (some ⟨W.heap.size,0,none⟩) s.length cap) (W.drew.alloc (.cells c zaM fr))∧∀ (j:Nat) (u:Value),(zaY s)[j]?=some u→c[j]?=some u:=by
 have h:=run_bytes_of_string (P:=prog) W 9 69 5 (zae s) underlying9 underlying69 underlying5;rw[zap] at h;refine⟨_,_,_,h,?_⟩;intro j u hu
 have hj:j<s.length:=by have:=(List.getElem?_eq_some_iff.1 hu).1;simpa [zaY] using this
 simp only[zaY,List.getElem?_map] at hu
 have hu':(s.map fun b=>Value.int .u8 b.toNat)[j]?=some u:=by simpa [zb4] using hu
 unfold bytesRow;rw[Array.getElem?_append_left (by simpa [zae] using hj)];simpa [zae] using hu'
theorem zbD {w:World}{D C:Nat}{p q r g h:Int}{X:zsi}(hs:Sat w (pts D (.cells #[g,h] zam (0,0))*(pts C (.cells #[p,q,r] TPl (0,0))*X))):
  w.cell? ⟨C,0,none⟩=some (.int .i64 p)∧w.cell? ⟨C,1,none⟩=some (.int .i64 q)∧w.cell? ⟨C,2,none⟩=some (.int .i64 r)∧w.cell? ⟨D,0,none⟩=some (.int .i64 g)∧w.cell? ⟨D,1,none⟩=some (.int .i64 h):=by
 have h1:=zab hs.block;have h2:=zab hs.right.block;exact⟨h2 0,h2 1,h2 2,h1 0,h1 1⟩
def zeS (s:List UInt8):zsj:=if zbB s then zcv s else ⟨0,0,0⟩
def zeR (s:List UInt8):GenM:=if zbB s then zex s 8 else g0
def zeQ (s:List UInt8):Int:=if zbB s then 0 else 7
theorem zgS (s:List UInt8)(hs:s.length=64)(F:zsi)(w:World)(hF:Sat w F):
  Calls prog 122 #[.string (zae s)] w fun e w'=>e = .returned (.tuple #[.agg (plA (zeS s)),.agg (zcH (zeR s)),.int .i64 (zeQ s)])∧Hid (Same w w'∧Sat w' F):=by
 have hsz:(zae s).size=64:=by rw[zap,hs]
 have H1:=(zd (((Same.refl w).alloc (.cells zPl TPl)).alloc (.cells zbr zam)) (((hF.alloc (.cells zPl TPl)).alloc (.cells zbr zam)).perm (show _=pts w.heap.size (.cells zPl TPl (0,0))*(pts (w.alloc (.cells zPl TPl)).heap.size (.cells zbr zam (0,0))*F) from by ac_rfl)));rw[World.size_alloc] at H1;have HS:=zh hs;clear hF hs;go_enter func122,ntmps122
 go_upto_region 3 with (first
  | ((with_reducible (refine zai ?_ TPl ?_ _ (zjK _) ?_));rfl;rfl)
  | ((with_reducible (refine zai ?_ zam ?_ _ (zcT _) ?_));rfl;rfl))
 generalize (w.alloc (.cells zPl TPl)).alloc (.cells zbr zam)=w1 at H1 ⊢;generalize w.heap.size=B at H1 ⊢;refine zah (fun _=>True) (by kernel_rfl) ?_;obtain⟨c4,hc4⟩:∃ c,s.getD 4 0=c:=⟨_,rfl⟩;obtain⟨c5,hc5⟩:∃ c,s.getD 5 0=c:=⟨_,rfl⟩;have HA:=zh (show zcv s=⟨(c5.toNat:Int),(c4.toNat:Int),(zaN (zav s 6 8):Int)⟩ by rw[← hc4,← hc5];rfl);have HG:=zh (show zex s 8=⟨(zaN (zav s 8 12):Int),(zaN (zav s 12 16):Int)⟩ from rfl);have X4:=zh hc4;have X5:=zh hc5;have k4:IntKind.i64.wrap (c4.toNat:Int)=(c4.toNat:Int):=IntWalk.i64_in _ (by have:=c4.toNat_lt;omega)
 have k5:IntKind.i64.wrap (c5.toNat:Int)=(c5.toNat:Int):=IntWalk.i64_in _ (by have:=c5.toNat_lt;omega);clear hc4 hc5;(apply zaa 0 rfl rfl (by kernel_rfl) rfl);(intro w' _;go_simp;rfl);exact trivial;simp only[zq];refine zaa 1 (v:=.int .u8 (c4.toNat:Int)) rfl rfl (by kernel_rfl) rfl (fun w' _=>by rw[← X4.out];exact zcU (i:=4) rfl underlying9 rfl rfl (by rw[HS.out];decide)) trivial ?_;simp only[zq];(apply zaa 2 rfl rfl (by kernel_rfl) rfl);(intro w' _;go_simp;rfl);exact trivial;simp only[zq];(apply zaa 3 rfl rfl (by kernel_rfl) rfl);(intro w' _;go_simp;rfl);exact trivial;simp only[zq]
 refine zaa 4 (v:=.int .u8 (c5.toNat:Int)) rfl rfl (by kernel_rfl) rfl (fun w' _=>by rw[← X5.out];exact zcU (i:=5) rfl underlying9 rfl rfl (by rw[HS.out];decide)) trivial ?_;simp only[zq];(apply zaa 5 rfl rfl (by kernel_rfl) rfl);(intro w' _;go_simp;rfl);exact trivial;simp only[zq];(apply zaa 6 rfl rfl (by kernel_rfl) rfl);(intro w' _;go_simp;rfl);exact trivial;simp only[zq];refine zaa 7 (v:=.string (zae (zav s 6 8))) rfl rfl (by kernel_rfl) rfl (fun w' _=>za3 (i:=6) (j:=8) rfl underlying9 rfl rfl rfl (by decide) (by rw[HS.out];decide)) trivial ?_;simp only[zq]
 refine zcZ 8 (f:=147) (args:=#[.string (zae (zav s 6 8))]) (v:=.int .i64 (zaN (zav s 6 8):Int)) rfl rfl (by kernel_rfl) rfl (fun w'=>by kernel_rfl) (fun w' _=>zif _ (by simp[zav];omega) w') trivial ?_;simp only[zq];(apply zaa 9 rfl rfl (by kernel_rfl) rfl);(intro w' _;go_simp;rfl);exact trivial;simp only[zq];refine zaV 10 (.pointer (some ⟨w1.heap.size,0,none⟩)) (w1.drew.alloc (.cells zPl TPl)) rfl rfl (by kernel_rfl) rfl (zca rfl _ (zjK _)) (trivial) ?_;simp only[zq]
 have hn:∀ A G:Int,True:=fun _ _=>trivial
 refine zat 11 (w1.drew.alloc (.cells #[(c5.toNat:Int),(c4.toNat:Int),.int .i64 (zaN (zav s 6 8):Int)] TPl)) rfl rfl (by kernel_rfl) rfl (zb0 rfl TPl _ _ rfl rfl (zdl rfl) rfl (by simp[Value.oneCell'])) ?_;replace H1:=(zd (H1.out.1.drew.alloc (.cells #[(c5.toNat:Int),(c4.toNat:Int),.int .i64 (zaN (zav s 6 8):Int)] TPl)) (H1.out.2.drew.alloc (.cells #[(c5.toNat:Int),(c4.toNat:Int),.int .i64 (zaN (zav s 6 8):Int)] TPl)));generalize w1.drew.alloc (.cells #[(c5.toNat:Int),(c4.toNat:Int),.int .i64 (zaN (zav s 6 8):Int)] TPl)=w2 at H1 ⊢
 rw[show w1.drew.heap.size=w1.heap.size from rfl] at H1;generalize w1.heap.size=C at H1 ⊢;go_upto_region 4 with (fail)
 clear k4 k5 hn;refine zah (fun _=>True) (by kernel_rfl) ?_;(apply zaa 0 rfl rfl (by kernel_rfl) rfl);(intro w' _;go_simp;rfl);exact trivial;simp only[zq];refine zaa 1 (v:=.string (zae (zav s 8 12))) rfl rfl (by kernel_rfl) rfl (fun w' _=>za3 (i:=8) (j:=12) rfl underlying9 rfl rfl rfl (by decide) (by rw[HS.out];decide)) trivial ?_;simp only[zq];refine zcZ 2 (f:=147) (args:=#[.string (zae (zav s 8 12))]) (v:=.int .i64 (zaN (zav s 8 12):Int)) rfl rfl (by kernel_rfl) rfl (fun w'=>by kernel_rfl) (fun w' _=>zif _ (by simp[zav];omega) w') trivial ?_
 simp only[zq];(apply zaa 3 rfl rfl (by kernel_rfl) rfl);(intro w' _;go_simp;rfl);exact trivial;simp only[zq];refine zaa 4 (v:=.string (zae (zav s 12 16))) rfl rfl (by kernel_rfl) rfl (fun w' _=>za3 (i:=12) (j:=16) rfl underlying9 rfl rfl rfl (by decide) (by rw[HS.out];decide)) trivial ?_;simp only[zq];refine zcZ 5 (f:=147) (args:=#[.string (zae (zav s 12 16))]) (v:=.int .i64 (zaN (zav s 12 16):Int)) rfl rfl (by kernel_rfl) rfl (fun w'=>by kernel_rfl) (fun w' _=>zif _ (by simp[zav];omega) w') trivial ?_
 simp only[zq];(apply zaa 6 rfl rfl (by kernel_rfl) rfl);(intro w' _;go_simp;rfl);exact trivial;simp only[zq];refine zaV 7 (.pointer (some ⟨w2.heap.size,0,none⟩)) (w2.drew.alloc (.cells zbr zam)) rfl rfl (by kernel_rfl) rfl (zca rfl _ (zcT _)) (trivial) ?_;simp only[zq];refine zat 8 (w2.drew.alloc (.cells #[.int .i64 (zaN (zav s 8 12):Int),.int .i64 (zaN (zav s 12 16):Int)] zam)) rfl rfl (by kernel_rfl) rfl (zb0 rfl zam _ _ rfl rfl (za1 rfl) rfl (by simp[Value.oneCell'])) ?_
 replace H1:=(zd (H1.out.1.drew.alloc (.cells #[.int .i64 (zaN (zav s 8 12):Int),.int .i64 (zaN (zav s 12 16):Int)] zam)) (H1.out.2.drew.alloc (.cells #[.int .i64 (zaN (zav s 8 12):Int),.int .i64 (zaN (zav s 12 16):Int)] zam)));generalize w2.drew.alloc (.cells #[.int .i64 (zaN (zav s 8 12):Int),.int .i64 (zaN (zav s 12 16):Int)] zam)=w3 at H1 ⊢;rw[show w2.drew.heap.size=w2.heap.size from rfl] at H1;generalize w2.heap.size=D at H1 ⊢;go_upto_region 5 with (fail)
 refine zah (fun _=>True) (by kernel_rfl) ?_;(apply zaa 0 rfl rfl (by kernel_rfl) rfl);(intro w' _;go_simp;rfl);exact trivial;simp only[zq];refine zaa 1 (v:=.string (zae (zav s 8 16))) rfl rfl (by kernel_rfl) rfl (fun w' _=>za3 (i:=8) (j:=16) rfl underlying9 rfl rfl rfl (by decide) (by rw[HS.out];decide)) trivial ?_;simp only[zq];(apply zaa 2 rfl rfl (by kernel_rfl) rfl);(intro w' _;go_simp;rfl);exact trivial;simp only[zq];refine zaa 3 (v:=.string (zae (s.drop 56))) rfl rfl (by kernel_rfl) rfl (fun w' _=>zcG (i:=56) rfl underlying9 rfl rfl (by rw[HS.out];decide)) trivial ?_;simp only[zq]
 refine zaa 4 (v:=.bool (!decide (zav s 8 16=s.drop 56))) rfl rfl (by kernel_rfl) rfl (fun w' _=>zew rfl rfl rfl rfl) trivial ?_;simp only[zq];(apply zaa 5 rfl rfl (by kernel_rfl) rfl);(intro w' _;go_simp;rfl);exact trivial;simp only[zq];refine zar (by kernel_rfl) ?_;replace H1:=(zd H1.out.1.drew H1.out.2.drew);go_upto_region 6 with (fail)
 generalize w3.drew=w4 at H1 ⊢;obtain⟨row,fr,cap,hrun,hrow⟩:=zjB (s.drop 4) w4.drew;have hSr:=H1.out.2.drew.drew.alloc (.cells row zaM fr);obtain⟨g,hg⟩:∃ g,w4.drew.heap.size=g:=⟨_,rfl⟩;rw[show w4.drew.drew.heap.size=g from hg] at hSr;rw[hg] at hrun
 have hof:∀ (W:World) (X:zsi),Sat W (pts g (.cells row zaM fr)*X)→Calls prog 137 #[.slice (some ⟨g,0,none⟩) (s.drop 4).length cap] W fun e w'=>e = .returned (zfw (zfX (s.drop 4)))∧Hid (Same W w'∧Sat w' (pts g (.cells row zaM fr)*X)):=fun W X h =>
  zpX (.slice (some ⟨g,0,none⟩) (s.drop 4).length cap) (s.drop 4) _ W h (fun W' h'=>⟨_,_,rfl,fun _=>⟨g,0,rfl,fun j x hx=>by
   rw[Nat.zero_add,zab h'.block]
   exact hrow j _ (by rw[zaY,List.getElem?_map,hx];rfl)⟩⟩) (by rw[List.length_drop,HS.out];decide)
 have hlab:zbB s=(decide (zaN (zav s 0 4)=(zfX (s.drop 4)).toNat)&&zbk (zcv s)&&zcQ (zex s 8)&&decide (zav s 8 16=s.drop 56)):=rfl;rw[HA.out,HG.out] at hlab;generalize decide (zav s 8 16=s.drop 56)=b4 at hlab ⊢;have hcl:=(zfX (s.drop 4)).toNat_lt;have hgl:=zie (zav s 0 4);unfold zfw at hof;generalize (zfX (s.drop 4)).toNat=c at hof hlab hcl;have HOF:=zh hof;have HRUN:=zh hrun;have HSR:=zh hSr;have kc:IntKind.i64.wrap (c:Int)=(c:Int):=IntWalk.i64_in _ (by omega);have HL4:=zh (show zaN (zav s 0 4)=zaN (s.take 4) by simp[zav])
 have hS0:=zbD H1.out.2.drew;have hS5:=zbD HSR.out.right
 have hva:=fun W=>zeJ ⟨(c5.toNat:Int),(c4.toNat:Int),(zaN (zav s 6 8):Int)⟩ W
 have hvg:=fun W=>zgq ⟨(zaN (zav s 8 12):Int),(zaN (zav s 12 16):Int)⟩ W
 clear hSr hrun hof hrow hg hgl hcl hsz
 refine zah (fun w'=>w'.cell? ⟨C,0,none⟩=some (.int .i64 (c5.toNat:Int))∧w'.cell? ⟨C,1,none⟩=some (.int .i64 (c4.toNat:Int))∧w'.cell? ⟨C,2,none⟩=some (.int .i64 (zaN (zav s 6 8):Int))∧w'.cell? ⟨D,0,none⟩=some (.int .i64 (zaN (zav s 8 12):Int))∧w'.cell? ⟨D,1,none⟩=some (.int .i64 (zaN (zav s 12 16):Int))) (by kernel_rfl) ?_
 (apply zaa 0 rfl rfl (by kernel_rfl) rfl);(intro w' _;go_simp;rfl);exact hS0;simp only[zq];refine zaa 1 (v:=.string (zae (s.take 4))) rfl rfl (by kernel_rfl) rfl (fun w' _=>zcO (j:=4) rfl underlying9 rfl rfl (by rw[HS.out];decide)) hS0 ?_;simp only[zq];refine zcZ 2 (f:=147) (args:=#[.string (zae (s.take 4))]) (v:=.int .i64 (zaN (s.take 4):Int)) rfl rfl (by kernel_rfl) rfl (fun w'=>by kernel_rfl) (fun w' _=>zif _ (by simp;omega) w') hS0 ?_;simp only[zq];(apply zaa 3 rfl rfl (by kernel_rfl) rfl);(intro w' _;go_simp;rfl);exact hS0;simp only[zq]
 refine zaa 4 (v:=.string (zae (s.drop 4))) rfl rfl (by kernel_rfl) rfl (fun w' _=>zcG (i:=4) rfl underlying9 rfl rfl (by rw[HS.out];decide)) hS0 ?_;simp only[zq];refine zaV 5 (.slice (some ⟨g,0,none⟩) (s.drop 4).length cap) (w4.drew.drew.alloc (.cells row zaM fr)) rfl rfl (by kernel_rfl) rfl (zaD rfl rfl HRUN.out) (hS5) ?_;simp only[zq];have H3:=(zd (H1.out.1.drew.drew.alloc (.cells row zaM fr)) HSR.out);clear HSR HRUN H1;generalize w4.drew.drew.alloc (.cells row zaM fr)=w5 at H3 hS5 ⊢
 refine zan 6 rfl rfl (by kernel_rfl) rfl (f:=137) (args:=#[.slice (some ⟨g,0,none⟩) (s.drop 4).length cap]) (R:=fun v w'=>v = .int .u32 (c:Int)∧Hid (Same w5 w'∧Sat w' _)) (by kernel_rfl) ((HOF.out w5 _ H3.out.2).mono fun e w' h=>⟨_,h.1,rfl,h.2⟩) ?_;rintro _ w6 ⟨rfl,h6⟩;have H1:=(zd (H3.out.1.trans h6.out.1) h6.out.2.right);clear H3 h6 hS0 hS5;have hS0:=zbD H1.out.2;refine⟨hS0,?_⟩;simp only[zq];(apply zaa 7 rfl rfl (by kernel_rfl) rfl);(intro w' _;go_simp;rfl);exact hS0;simp only[zq];rw[HL4.out] at hlab
 have HLAB:=zh hlab
 have hcells:=zh (show ∀ W,Sat W _→_ from fun W h=>zbD (X:=pts B (.cells zPl TPl (0,0))*(pts (B+1) (.cells zbr zam (0,0))*F)) (w:=W) (D:=D) (C:=C) (p:=(c5.toNat:Int)) (q:=(c4.toNat:Int)) (r:=(zaN (zav s 6 8):Int)) (g:=(zaN (zav s 8 12):Int)) (h:=(zaN (zav s 12 16):Int)) h)
 clear hlab;cases hb1:decide (zaN (s.take 4)=c)
 ·have hne:zaN (s.take 4)≠c:=by simpa using hb1
  refine zaa 8 (v:=.bool true) rfl rfl (by kernel_rfl) rfl (fun w' _=>zau rfl rfl rfl rfl (by simp[go_sem];omega)) hS0 ?_;simp only[zq];(apply zaa 9 rfl rfl (by kernel_rfl) rfl);(rintro w' ⟨h1,h2,h3,h4,h5⟩;go_simp;rfl);exact hS0;simp only[zq];(apply zaQ 10 rfl rfl (by kernel_rfl) rfl);exact hS0;simp only[zq];(apply zaQ 11 rfl rfl (by kernel_rfl) rfl);exact hS0;simp only[zq];(apply zaQ 12 rfl rfl (by kernel_rfl) rfl);exact hS0;simp only[zq];(apply zaa 13 rfl rfl (by kernel_rfl) rfl);(rintro w' ⟨h1,h2,h3,h4,h5⟩;go_simp;rfl);exact hS0;simp only[zq]
  (apply zaa 14 rfl rfl (by kernel_rfl) rfl);(rintro w' ⟨h1,h2,h3,h4,h5⟩;go_simp;rfl);exact hS0;simp only[zq];(apply zaQ 15 rfl rfl (by kernel_rfl) rfl);exact hS0;simp only[zq];(apply zaQ 16 rfl rfl (by kernel_rfl) rfl);exact hS0;simp only[zq];(apply zaQ 17 rfl rfl (by kernel_rfl) rfl);exact hS0;simp only[zq];(apply zaa 18 rfl rfl (by kernel_rfl) rfl);(rintro w' ⟨h1,h2,h3,h4,h5⟩;go_simp;rfl);exact hS0;simp only[zq];(apply zaa 19 rfl rfl (by kernel_rfl) rfl);(rintro w' ⟨h1,h2,h3,h4,h5⟩;go_simp;rfl);exact hS0;simp only[zq]
  (apply zaQ 20 rfl rfl (by kernel_rfl) rfl);exact hS0;simp only[zq];(apply zaa 21 rfl rfl (by kernel_rfl) rfl);(rintro w' ⟨h1,h2,h3,h4,h5⟩;go_simp;rfl);exact hS0;simp only[zq];refine zar (by kernel_rfl) ?_;have HP:=zh (show zeS s=⟨0,0,0⟩∧zeR s=g0∧zeQ s=7 from by have e:=HLAB.out;simp only[hb1,Bool.false_and] at e;unfold zeS zeR zeQ;rw[e];exact⟨rfl,rfl,rfl⟩);replace H1:=(zd H1.out.1 (H1.out.2.perm (show _=pts B (.cells zPl TPl (0,0))*(pts (B+1) (.cells zbr zam (0,0))*(pts D (.cells #[.int .i64 (zaN (zav s 8 12):Int),.int .i64 (zaN (zav s 12 16):Int)] zam (0,0))*(pts C (.cells #[(c5.toNat:Int),(c4.toNat:Int),.int .i64 (zaN (zav s 6 8):Int)] TPl (0,0))*F))) from by ac_rfl)))
  clear hS0 kc hb1 hva hvg hne;obtain⟨⟨b0,b1,b2,b3,b4'⟩,f0,f1,f2,f3,f4⟩:=zcE H1.out.2;go_wp2;replace H1:=zh (zcF H1.out.1 H1.out.2);refine bodyPost_ret (v:=.tuple #[.agg zPl,.agg zbr,.int .i64 7]) (zaz results122 (ResIs.row rfl H1.out.2.block underlying37 rfl (zdl rfl)) (ResIs.row rfl H1.out.2.right.block underlying42 rfl (za1 rfl)) (.tmp rfl)) rfl ?_;exact⟨by rw[HP.out.1,HP.out.2.1,HP.out.2.2];rfl,H1.out.1,H1.out.2.right.right.right.right⟩
 cases hb2:zbk ⟨(c5.toNat:Int),(c4.toNat:Int),(zaN (zav s 6 8):Int)⟩
 ·rw[hb2] at hva
  have hne:zaN (s.take 4)=c:=by simpa using hb1
  refine zaa 8 (v:=.bool false) rfl rfl (by kernel_rfl) rfl (fun w' _=>zau rfl rfl rfl rfl (by simp[go_sem,hne])) hS0 ?_;simp only[zq];(apply zaa 9 rfl rfl (by kernel_rfl) rfl);(rintro w' ⟨h1,h2,h3,h4,h5⟩;go_simp;rfl);exact hS0;simp only[zq];(apply zaa 10 rfl rfl (by kernel_rfl) rfl);(rintro w' ⟨h1,h2,h3,h4,h5⟩;go_simp;rfl);exact hS0;simp only[zq];refine zan 11 rfl rfl (by kernel_rfl) rfl (f:=121) (args:=#[.agg (plA ⟨(c5.toNat:Int),(c4.toNat:Int),(zaN (zav s 6 8):Int)⟩)]) (R:=fun v w'=>v = .bool false∧Hid (Below w6.heap.size w6 w')) (by kernel_rfl) ((hva w6).mono fun e w' h=>⟨_,h.1,rfl,h.2⟩) ?_
  rintro _ w7 ⟨rfl,hb⟩;replace H1:=(zd (H1.out.1.below hb.out) (H1.out.2.below hb.out));replace hS0:=hcells.out _ H1.out.2;refine⟨hS0,?_⟩;simp only[zq];clear hb;(apply zaa 12 rfl rfl (by kernel_rfl) rfl);(rintro w' ⟨h1,h2,h3,h4,h5⟩;go_simp;rfl);exact hS0;simp only[zq];(apply zaa 13 rfl rfl (by kernel_rfl) rfl);(rintro w' ⟨h1,h2,h3,h4,h5⟩;go_simp;rfl);exact hS0;simp only[zq];(apply zaa 14 rfl rfl (by kernel_rfl) rfl);(rintro w' ⟨h1,h2,h3,h4,h5⟩;go_simp;rfl);exact hS0;simp only[zq];(apply zaQ 15 rfl rfl (by kernel_rfl) rfl);exact hS0;simp only[zq]
  (apply zaQ 16 rfl rfl (by kernel_rfl) rfl);exact hS0;simp only[zq];(apply zaQ 17 rfl rfl (by kernel_rfl) rfl);exact hS0;simp only[zq];(apply zaa 18 rfl rfl (by kernel_rfl) rfl);(rintro w' ⟨h1,h2,h3,h4,h5⟩;go_simp;rfl);exact hS0;simp only[zq];(apply zaa 19 rfl rfl (by kernel_rfl) rfl);(rintro w' ⟨h1,h2,h3,h4,h5⟩;go_simp;rfl);exact hS0;simp only[zq];(apply zaQ 20 rfl rfl (by kernel_rfl) rfl);exact hS0;simp only[zq];(apply zaa 21 rfl rfl (by kernel_rfl) rfl);(rintro w' ⟨h1,h2,h3,h4,h5⟩;go_simp;rfl);exact hS0;simp only[zq]
  refine zar (by kernel_rfl) ?_;have HP:=zh (show zeS s=⟨0,0,0⟩∧zeR s=g0∧zeQ s=7 from by have e:=HLAB.out;simp only[hb1,hb2,Bool.false_and,Bool.and_false] at e;unfold zeS zeR zeQ;rw[e];exact⟨rfl,rfl,rfl⟩);replace H1:=(zd H1.out.1 (H1.out.2.perm (show _=pts B (.cells zPl TPl (0,0))*(pts (B+1) (.cells zbr zam (0,0))*(pts D (.cells #[.int .i64 (zaN (zav s 8 12):Int),.int .i64 (zaN (zav s 12 16):Int)] zam (0,0))*(pts C (.cells #[(c5.toNat:Int),(c4.toNat:Int),.int .i64 (zaN (zav s 6 8):Int)] TPl (0,0))*F))) from by ac_rfl)))
  clear hS0 kc hb1 hb2 hva hvg hne;obtain⟨⟨b0,b1,b2,b3,b4'⟩,f0,f1,f2,f3,f4⟩:=zcE H1.out.2;go_wp2;replace H1:=zh (zcF H1.out.1 H1.out.2);refine bodyPost_ret (v:=.tuple #[.agg zPl,.agg zbr,.int .i64 7]) (zaz results122 (ResIs.row rfl H1.out.2.block underlying37 rfl (zdl rfl)) (ResIs.row rfl H1.out.2.right.block underlying42 rfl (za1 rfl)) (.tmp rfl)) rfl ?_;exact⟨by rw[HP.out.1,HP.out.2.1,HP.out.2.2];rfl,H1.out.1,H1.out.2.right.right.right.right⟩
 rw[hb2] at hva;cases hb3:zcQ ⟨(zaN (zav s 8 12):Int),(zaN (zav s 12 16):Int)⟩
 ·rw[hb3] at hvg
  have hne:zaN (s.take 4)=c:=by simpa using hb1
  refine zaa 8 (v:=.bool false) rfl rfl (by kernel_rfl) rfl (fun w' _=>zau rfl rfl rfl rfl (by simp[go_sem,hne])) hS0 ?_;simp only[zq];(apply zaa 9 rfl rfl (by kernel_rfl) rfl);(rintro w' ⟨h1,h2,h3,h4,h5⟩;go_simp;rfl);exact hS0;simp only[zq];(apply zaa 10 rfl rfl (by kernel_rfl) rfl);(rintro w' ⟨h1,h2,h3,h4,h5⟩;go_simp;rfl);exact hS0;simp only[zq];refine zan 11 rfl rfl (by kernel_rfl) rfl (f:=121) (args:=#[.agg (plA ⟨(c5.toNat:Int),(c4.toNat:Int),(zaN (zav s 6 8):Int)⟩)]) (R:=fun v w'=>v = .bool true∧Hid (Below w6.heap.size w6 w')) (by kernel_rfl) ((hva w6).mono fun e w' h=>⟨_,h.1,rfl,h.2⟩) ?_
  rintro _ w7 ⟨rfl,hb⟩;replace H1:=(zd (H1.out.1.below hb.out) (H1.out.2.below hb.out));replace hS0:=hcells.out _ H1.out.2;refine⟨hS0,?_⟩;simp only[zq];clear hb;(apply zaa 12 rfl rfl (by kernel_rfl) rfl);(rintro w' ⟨h1,h2,h3,h4,h5⟩;go_simp;rfl);exact hS0;simp only[zq];(apply zaa 13 rfl rfl (by kernel_rfl) rfl);(rintro w' ⟨h1,h2,h3,h4,h5⟩;go_simp;rfl);exact hS0;simp only[zq];(apply zaa 14 rfl rfl (by kernel_rfl) rfl);(rintro w' ⟨h1,h2,h3,h4,h5⟩;go_simp;rfl);exact hS0;simp only[zq];(apply zaa 15 rfl rfl (by kernel_rfl) rfl);(rintro w' ⟨h1,h2,h3,h4,h5⟩;go_simp;rfl);exact hS0;simp only[zq]
  refine zan 16 rfl rfl (by kernel_rfl) rfl (f:=134) (args:=#[.agg (zcH ⟨(zaN (zav s 8 12):Int),(zaN (zav s 12 16):Int)⟩)]) (R:=fun v w'=>v = .bool false∧Hid (Below w7.heap.size w7 w')) (by kernel_rfl) ((hvg w7).mono fun e w' h=>⟨_,h.1,rfl,h.2⟩) ?_;rintro _ w8 ⟨rfl,hb⟩;replace H1:=(zd (H1.out.1.below hb.out) (H1.out.2.below hb.out));replace hS0:=hcells.out _ H1.out.2;refine⟨hS0,?_⟩;simp only[zq];clear hb;(apply zaa 17 rfl rfl (by kernel_rfl) rfl);(rintro w' ⟨h1,h2,h3,h4,h5⟩;go_simp;rfl);exact hS0;simp only[zq]
  (apply zaa 18 rfl rfl (by kernel_rfl) rfl);(rintro w' ⟨h1,h2,h3,h4,h5⟩;go_simp;rfl);exact hS0;simp only[zq];(apply zaa 19 rfl rfl (by kernel_rfl) rfl);(rintro w' ⟨h1,h2,h3,h4,h5⟩;go_simp;rfl);exact hS0;simp only[zq];(apply zaQ 20 rfl rfl (by kernel_rfl) rfl);exact hS0;simp only[zq];(apply zaa 21 rfl rfl (by kernel_rfl) rfl);(rintro w' ⟨h1,h2,h3,h4,h5⟩;go_simp;rfl);exact hS0;simp only[zq];refine zar (by kernel_rfl) ?_;have HP:=zh (show zeS s=⟨0,0,0⟩∧zeR s=g0∧zeQ s=7 from by have e:=HLAB.out;simp only[hb1,hb2,hb3,Bool.false_and,Bool.true_and,Bool.and_false] at e;unfold zeS zeR zeQ;rw[e];exact⟨rfl,rfl,rfl⟩)
  replace H1:=(zd H1.out.1 (H1.out.2.perm (show _=pts B (.cells zPl TPl (0,0))*(pts (B+1) (.cells zbr zam (0,0))*(pts D (.cells #[.int .i64 (zaN (zav s 8 12):Int),.int .i64 (zaN (zav s 12 16):Int)] zam (0,0))*(pts C (.cells #[(c5.toNat:Int),(c4.toNat:Int),.int .i64 (zaN (zav s 6 8):Int)] TPl (0,0))*F))) from by ac_rfl)));clear hS0 kc hb1 hb2 hb3 hva hvg hne;obtain⟨⟨b0,b1,b2,b3,b4'⟩,f0,f1,f2,f3,f4⟩:=zcE H1.out.2;go_wp2;replace H1:=zh (zcF H1.out.1 H1.out.2);refine bodyPost_ret (v:=.tuple #[.agg zPl,.agg zbr,.int .i64 7]) (zaz results122 (ResIs.row rfl H1.out.2.block underlying37 rfl (zdl rfl)) (ResIs.row rfl H1.out.2.right.block underlying42 rfl (za1 rfl)) (.tmp rfl)) rfl ?_
  exact⟨by rw[HP.out.1,HP.out.2.1,HP.out.2.2];rfl,H1.out.1,H1.out.2.right.right.right.right⟩
 rw[hb3] at hvg;cases b4
 ·have hne:zaN (s.take 4)=c:=by simpa using hb1
  refine zaa 8 (v:=.bool false) rfl rfl (by kernel_rfl) rfl (fun w' _=>zau rfl rfl rfl rfl (by simp[go_sem,hne])) hS0 ?_;simp only[zq];(apply zaa 9 rfl rfl (by kernel_rfl) rfl);(rintro w' ⟨h1,h2,h3,h4,h5⟩;go_simp;rfl);exact hS0;simp only[zq];(apply zaa 10 rfl rfl (by kernel_rfl) rfl);(rintro w' ⟨h1,h2,h3,h4,h5⟩;go_simp;rfl);exact hS0;simp only[zq];refine zan 11 rfl rfl (by kernel_rfl) rfl (f:=121) (args:=#[.agg (plA ⟨(c5.toNat:Int),(c4.toNat:Int),(zaN (zav s 6 8):Int)⟩)]) (R:=fun v w'=>v = .bool true∧Hid (Below w6.heap.size w6 w')) (by kernel_rfl) ((hva w6).mono fun e w' h=>⟨_,h.1,rfl,h.2⟩) ?_
  rintro _ w7 ⟨rfl,hb⟩;replace H1:=(zd (H1.out.1.below hb.out) (H1.out.2.below hb.out));replace hS0:=hcells.out _ H1.out.2;refine⟨hS0,?_⟩;simp only[zq];clear hb;(apply zaa 12 rfl rfl (by kernel_rfl) rfl);(rintro w' ⟨h1,h2,h3,h4,h5⟩;go_simp;rfl);exact hS0;simp only[zq];(apply zaa 13 rfl rfl (by kernel_rfl) rfl);(rintro w' ⟨h1,h2,h3,h4,h5⟩;go_simp;rfl);exact hS0;simp only[zq];(apply zaa 14 rfl rfl (by kernel_rfl) rfl);(rintro w' ⟨h1,h2,h3,h4,h5⟩;go_simp;rfl);exact hS0;simp only[zq];(apply zaa 15 rfl rfl (by kernel_rfl) rfl);(rintro w' ⟨h1,h2,h3,h4,h5⟩;go_simp;rfl);exact hS0;simp only[zq]
  refine zan 16 rfl rfl (by kernel_rfl) rfl (f:=134) (args:=#[.agg (zcH ⟨(zaN (zav s 8 12):Int),(zaN (zav s 12 16):Int)⟩)]) (R:=fun v w'=>v = .bool true∧Hid (Below w7.heap.size w7 w')) (by kernel_rfl) ((hvg w7).mono fun e w' h=>⟨_,h.1,rfl,h.2⟩) ?_;rintro _ w8 ⟨rfl,hb⟩;replace H1:=(zd (H1.out.1.below hb.out) (H1.out.2.below hb.out));replace hS0:=hcells.out _ H1.out.2;refine⟨hS0,?_⟩;simp only[zq];clear hb;(apply zaa 17 rfl rfl (by kernel_rfl) rfl);(rintro w' ⟨h1,h2,h3,h4,h5⟩;go_simp;rfl);exact hS0;simp only[zq]
  (apply zaa 18 rfl rfl (by kernel_rfl) rfl);(rintro w' ⟨h1,h2,h3,h4,h5⟩;go_simp;rfl);exact hS0;simp only[zq];(apply zaa 19 rfl rfl (by kernel_rfl) rfl);(rintro w' ⟨h1,h2,h3,h4,h5⟩;go_simp;rfl);exact hS0;simp only[zq];(apply zaa 20 rfl rfl (by kernel_rfl) rfl);(rintro w' ⟨h1,h2,h3,h4,h5⟩;go_simp;rfl);exact hS0;simp only[zq];(apply zaa 21 rfl rfl (by kernel_rfl) rfl);(rintro w' ⟨h1,h2,h3,h4,h5⟩;go_simp;rfl);exact hS0;simp only[zq];refine zar (by kernel_rfl) ?_;have HP:=zh (show zeS s=⟨0,0,0⟩∧zeR s=g0∧zeQ s=7 from by have e:=HLAB.out;simp only[hb1,hb2,hb3,Bool.true_and,Bool.and_false] at e;unfold zeS zeR zeQ;rw[e];exact⟨rfl,rfl,rfl⟩)
  replace H1:=(zd H1.out.1 (H1.out.2.perm (show _=pts B (.cells zPl TPl (0,0))*(pts (B+1) (.cells zbr zam (0,0))*(pts D (.cells #[.int .i64 (zaN (zav s 8 12):Int),.int .i64 (zaN (zav s 12 16):Int)] zam (0,0))*(pts C (.cells #[(c5.toNat:Int),(c4.toNat:Int),.int .i64 (zaN (zav s 6 8):Int)] TPl (0,0))*F))) from by ac_rfl)));clear hS0 kc hb1 hb2 hb3 hva hvg hne;obtain⟨⟨b0,b1,b2,b3,b4'⟩,f0,f1,f2,f3,f4⟩:=zcE H1.out.2;go_wp2;replace H1:=zh (zcF H1.out.1 H1.out.2);refine bodyPost_ret (v:=.tuple #[.agg zPl,.agg zbr,.int .i64 7]) (zaz results122 (ResIs.row rfl H1.out.2.block underlying37 rfl (zdl rfl)) (ResIs.row rfl H1.out.2.right.block underlying42 rfl (za1 rfl)) (.tmp rfl)) rfl ?_
  exact⟨by rw[HP.out.1,HP.out.2.1,HP.out.2.2];rfl,H1.out.1,H1.out.2.right.right.right.right⟩
 ·have hne:zaN (s.take 4)=c:=by simpa using hb1
  refine zaa 8 (v:=.bool false) rfl rfl (by kernel_rfl) rfl (fun w' _=>zau rfl rfl rfl rfl (by simp[go_sem,hne])) hS0 ?_;simp only[zq];(apply zaa 9 rfl rfl (by kernel_rfl) rfl);(rintro w' ⟨h1,h2,h3,h4,h5⟩;go_simp;rfl);exact hS0;simp only[zq];(apply zaa 10 rfl rfl (by kernel_rfl) rfl);(rintro w' ⟨h1,h2,h3,h4,h5⟩;go_simp;rfl);exact hS0;simp only[zq];refine zan 11 rfl rfl (by kernel_rfl) rfl (f:=121) (args:=#[.agg (plA ⟨(c5.toNat:Int),(c4.toNat:Int),(zaN (zav s 6 8):Int)⟩)]) (R:=fun v w'=>v = .bool true∧Hid (Below w6.heap.size w6 w')) (by kernel_rfl) ((hva w6).mono fun e w' h=>⟨_,h.1,rfl,h.2⟩) ?_
  rintro _ w7 ⟨rfl,hb⟩;replace H1:=(zd (H1.out.1.below hb.out) (H1.out.2.below hb.out));replace hS0:=hcells.out _ H1.out.2;refine⟨hS0,?_⟩;simp only[zq];clear hb;(apply zaa 12 rfl rfl (by kernel_rfl) rfl);(rintro w' ⟨h1,h2,h3,h4,h5⟩;go_simp;rfl);exact hS0;simp only[zq];(apply zaa 13 rfl rfl (by kernel_rfl) rfl);(rintro w' ⟨h1,h2,h3,h4,h5⟩;go_simp;rfl);exact hS0;simp only[zq];(apply zaa 14 rfl rfl (by kernel_rfl) rfl);(rintro w' ⟨h1,h2,h3,h4,h5⟩;go_simp;rfl);exact hS0;simp only[zq];(apply zaa 15 rfl rfl (by kernel_rfl) rfl);(rintro w' ⟨h1,h2,h3,h4,h5⟩;go_simp;rfl);exact hS0;simp only[zq]
  refine zan 16 rfl rfl (by kernel_rfl) rfl (f:=134) (args:=#[.agg (zcH ⟨(zaN (zav s 8 12):Int),(zaN (zav s 12 16):Int)⟩)]) (R:=fun v w'=>v = .bool true∧Hid (Below w7.heap.size w7 w')) (by kernel_rfl) ((hvg w7).mono fun e w' h=>⟨_,h.1,rfl,h.2⟩) ?_;rintro _ w8 ⟨rfl,hb⟩;replace H1:=(zd (H1.out.1.below hb.out) (H1.out.2.below hb.out));replace hS0:=hcells.out _ H1.out.2;refine⟨hS0,?_⟩;simp only[zq];clear hb;(apply zaa 17 rfl rfl (by kernel_rfl) rfl);(rintro w' ⟨h1,h2,h3,h4,h5⟩;go_simp;rfl);exact hS0;simp only[zq]
  (apply zaa 18 rfl rfl (by kernel_rfl) rfl);(rintro w' ⟨h1,h2,h3,h4,h5⟩;go_simp;rfl);exact hS0;simp only[zq];(apply zaa 19 rfl rfl (by kernel_rfl) rfl);(rintro w' ⟨h1,h2,h3,h4,h5⟩;go_simp;rfl);exact hS0;simp only[zq];(apply zaa 20 rfl rfl (by kernel_rfl) rfl);(rintro w' ⟨h1,h2,h3,h4,h5⟩;go_simp;rfl);exact hS0;simp only[zq];(apply zaa 21 rfl rfl (by kernel_rfl) rfl);(rintro w' ⟨h1,h2,h3,h4,h5⟩;go_simp;rfl);exact hS0;simp only[zq];clear hne;refine zar (by kernel_rfl) ?_
  have HP:=zh (show zeS s=⟨(c5.toNat:Int),(c4.toNat:Int),(zaN (zav s 6 8):Int)⟩∧zeR s=⟨(zaN (zav s 8 12):Int),(zaN (zav s 12 16):Int)⟩∧zeQ s=0 from by have e:=HLAB.out;simp only[hb1,hb2,hb3,Bool.and_true] at e;unfold zeS zeR zeQ;rw[e,HA.out,HG.out];exact⟨rfl,rfl,rfl⟩);clear kc hb1 hb2 hb3 hva hvg;go_upto_region 8 with (fail)
  replace H1:=(zd H1.out.1.drew H1.out.2.drew);replace hS0:=hcells.out _ H1.out.2
  refine zah (fun w'=>w'.cell? ⟨C,0,none⟩=some (.int .i64 (c5.toNat:Int))∧w'.cell? ⟨C,1,none⟩=some (.int .i64 (c4.toNat:Int))∧w'.cell? ⟨C,2,none⟩=some (.int .i64 (zaN (zav s 6 8):Int))∧w'.cell? ⟨D,0,none⟩=some (.int .i64 (zaN (zav s 8 12):Int))∧w'.cell? ⟨D,1,none⟩=some (.int .i64 (zaN (zav s 12 16):Int))) (by kernel_rfl) ?_
  (apply zaa 0 rfl rfl (by kernel_rfl) rfl);(rintro w' ⟨h1,h2,h3,h4,h5⟩;go_simp;rfl);exact hS0;simp only[zq];(apply zaa 1 rfl rfl (by kernel_rfl) rfl);(rintro w' ⟨h1,h2,h3,h4,h5⟩;go_simp;rfl);exact hS0;simp only[zq];replace H1:=(zd H1.out.1 (H1.out.2.perm (show _=pts B (.cells zPl TPl (0,0))*(pts (B+1) (.cells zbr zam (0,0))*(pts D (.cells #[.int .i64 (zaN (zav s 8 12):Int),.int .i64 (zaN (zav s 12 16):Int)] zam (0,0))*(pts C (.cells #[(c5.toNat:Int),(c4.toNat:Int),.int .i64 (zaN (zav s 6 8):Int)] TPl (0,0))*F))) from by ac_rfl)))
  refine zbG 2 (T:=TPl) (old:=zPl) (new:=#[.int .i64 (c5.toNat:Int),.int .i64 (c4.toNat:Int),.int .i64 (zaN (zav s 6 8):Int)]) rfl rfl (by kernel_rfl) rfl rfl rfl rfl H1.out.2 (zdl rfl) rfl (by simp[Value.oneCell']) ?_;intro w9 h9;replace H1:=(zd (H1.out.1.trans h9.out.1) (h9.out.2.perm (za0 _ _ _)));replace hS0:=zbD (h9.out.2.right.right);refine⟨hS0,?_⟩;clear h9;refine zbG 3 (T:=zam) (old:=zbr) (new:=#[.int .i64 (zaN (zav s 8 12):Int),.int .i64 (zaN (zav s 12 16):Int)]) rfl rfl (by kernel_rfl) rfl rfl rfl rfl H1.out.2 (za1 rfl) rfl (by simp[Value.oneCell']) ?_
  intro w10 h10;replace H1:=(zd (H1.out.1.trans h10.out.1) (h10.out.2.perm (za0 _ _ _)));replace hS0:=zbD (h10.out.2.right.right);refine⟨hS0,?_⟩;clear h10;(apply zaa 4 rfl rfl (by kernel_rfl) rfl);(intro w' _;go_simp;rfl);exact hS0;simp only[zq];refine zar (by kernel_rfl) ?_;clear hS0;go_wp2;refine bodyPost_ret (v:=.tuple #[.agg (plA ⟨(c5.toNat:Int),(c4.toNat:Int),(zaN (zav s 6 8):Int)⟩),.agg (zcH ⟨(zaN (zav s 8 12):Int),(zaN (zav s 12 16):Int)⟩),.int .i64 0]) (zaz results122 (ResIs.row rfl H1.out.2.block underlying37 rfl (zdl rfl)) (ResIs.row rfl H1.out.2.right.block underlying42 rfl (za1 rfl)) (.tmp rfl)) rfl ?_
  exact⟨by rw[HP.out.1,HP.out.2.1,HP.out.2.2],H1.out.1,H1.out.2.right.right.right.right⟩
end Go.Proofs.YtmcclbiaoeilkaaGreat
namespace Go.Proofs.YtmcclbiaoeilkaaGreat
open Go.Proofs.Tryz Go.RowKit Go.Sl Go.ChangeMaps
theorem zdg {w:World}{C D B E:Nat}{p q r g h x y z:Int}{X:zsi}(hs:Sat w (pts C (.cells #[p,q,r] TPl (0,0))*(pts D (.cells #[g,h] zam (0,0))*(pts B (.cells #[x,y,z] TPl (0,0))*(pts E (.cells zbr zam (0,0))*X))))):
  (w.cell? ⟨B,0,none⟩=some (.int .i64 x)∧w.cell? ⟨B,1,none⟩=some (.int .i64 y)∧w.cell? ⟨B,2,none⟩=some (.int .i64 z))∧(w.cell? ⟨E,0,none⟩=some (.int .i64 0)∧w.cell? ⟨E,1,none⟩=some (.int .i64 0))∧
  w.cell? ⟨C,0,none⟩=some (.int .i64 p)∧w.cell? ⟨C,1,none⟩=some (.int .i64 q)∧w.cell? ⟨C,2,none⟩=some (.int .i64 r)∧w.cell? ⟨D,0,none⟩=some (.int .i64 g)∧w.cell? ⟨D,1,none⟩=some (.int .i64 h)∧w.frozen? ⟨E,0,none⟩=false∧w.frozen? ⟨E,1,none⟩=false:=by
 have h1:=zab hs.block;have h2:=zab hs.right.block;have h3:=zab hs.right.right.block;have h4:=zab hs.right.right.right.block;have f4:=zaj hs.right.right.right.block;exact⟨⟨h3 0,h3 1,h3 2⟩,⟨h4 0,h4 1⟩,h1 0,h1 1,h1 2,h2 0,h2 1,f4 0,f4 1⟩
theorem zcy {w w0:World}{E:Nat}{g h:Int}{X Y Z W:zsi}(hm:Same w0 w)(hs:Sat w (X*(Y*(Z*(pts E (.cells zbr zam (0,0))*W))))):
  Same w0 ((w.setCell ⟨E,0,none⟩ (.int .i64 g)).setCell ⟨E,1,none⟩ (.int .i64 h))∧Sat ((w.setCell ⟨E,0,none⟩ (.int .i64 g)).setCell ⟨E,1,none⟩ (.int .i64 h)) (pts E (.cells #[g,h] zam (0,0))*W):=by
 have h1:=hs.right.right.right;exact⟨(hm.setCell _ _).setCell _ _,(h1.setCell (i:=0) (.int .i64 g)).setCell (i:=1) (.int .i64 h)⟩
theorem zfp {w:World}{D:Nat}{g h:Int}{X Y:zsi}(hs:Sat w (X*(pts D (.cells #[g,h] zam (0,0))*Y))):w.cell? ⟨D,0,none⟩=some (.int .i64 g)∧w.cell? ⟨D,1,none⟩=some (.int .i64 h):=by
 have h1:=zab hs.right.block;exact⟨h1 0,h1 1⟩
theorem zgX {w:World}{D:Nat}{g h:Int}{X Y Z:zsi}(hs:Sat w (X*(Z*(pts D (.cells #[g,h] zam (0,0))*Y)))):w.cell? ⟨D,0,none⟩=some (.int .i64 g)∧w.cell? ⟨D,1,none⟩=some (.int .i64 h):=by
 have h1:=zab hs.right.right.block;exact⟨h1 0,h1 1⟩
theorem zjf (A B C D E:zsi):A*(B*(C*(D*E)))=D*(A*(B*(C*E))):=by ac_rfl
theorem zpg (a:zsj)(s:List UInt8)(ha:zbk a=true)(hs:s.length=64)(hl:zbB s=false)(F:zsi)(w:World)(hF:Sat w F):
  Calls prog 78 #[.agg (plA a),.string (zae s)] w fun e w'=>e = .returned (.tuple #[.agg zbr,.string (zae []),.int .i64 7])∧Hid (Same w w'∧Sat w' F):=by
 have hLP:zeS s=⟨0,0,0⟩:=by unfold zeS;rw[hl];rfl
 have hLG:zeR s=g0:=by unfold zeR;rw[hl];rfl
 have hLE:zeQ s=7:=by unfold zeQ;rw[hl];rfl
 have hva:=fun W=>zeJ a W
 rw[ha] at hva;have HVA:=zh hva
 have hlb:=fun (F':zsi) (W:World) (h:Sat W F')=>zgS s hs F' W h
 rw[hLP,hLG,hLE] at hlb;have HLB:=zh hlb;have HS:=zh hs;have H1:=(zd (((Same.refl w).alloc (.cells (plA a) TPl)).alloc (.cells zbr zam)) (((hF.alloc (.cells (plA a) TPl)).alloc (.cells zbr zam)).perm (show _=pts w.heap.size (.cells (plA a) TPl (0,0))*(pts (w.alloc (.cells (plA a) TPl)).heap.size (.cells zbr zam (0,0))*F) from by ac_rfl)));rw[World.size_alloc] at H1;clear hva hlb hF hs hl ha hLP hLG hLE;go_enter func78,ntmps78;go_upto_region 1 with ((with_reducible (refine zai ?_ zam ?_ _ (zcT _) ?_));rfl;rfl)
 generalize (w.alloc (.cells (plA a) TPl)).alloc (.cells zbr zam)=w1 at H1 ⊢;generalize w.heap.size=B at H1 ⊢;obtain⟨⟨b0,b1,b2⟩,⟨c0,c1⟩,lb,lc⟩:=zaG (g:=g0) H1.out.2
 go_upto_region 4 with (first
  | (go_at_call 121;refine (HVA.out _).mono ?_;rintro e w2 ⟨rfl,hb⟩;replace H1:=(zd (H1.out.1.below hb) (H1.out.2.below hb));clear b0 b1 b2 c0 c1 lb lc hb;obtain⟨⟨b0,b1,b2⟩,⟨c0,c1⟩,lb,lc⟩:=zaG (g:=g0) H1.out.2)
  | (go_at_call 122;refine (HLB.out _ _ H1.out.2).mono ?_;rintro e w3 ⟨rfl,h3⟩;replace H1:=(zt H1 h3);clear b0 b1 b2 c0 c1 lb lc h3;obtain⟨⟨b0,b1,b2⟩,⟨c0,c1⟩,lb,lc⟩:=zaG (g:=g0) H1.out.2))
 have hw:=((H1.out.2.alloc (.cells #[.int .i64 0,.int .i64 0,.int .i64 0] TPl)).alloc (.cells #[g0.epoch,g0.count] zam));rw[World.size_alloc] at hw;replace H1:=(zd ((H1.out.1.alloc (.cells #[.int .i64 0,.int .i64 0,.int .i64 0] TPl)).alloc (.cells #[g0.epoch,g0.count] zam)) (hw.perm (show _=pts w3.heap.size (.cells #[.int .i64 0,.int .i64 0,.int .i64 0] TPl (0,0))*(pts (w3.heap.size+1) (.cells #[g0.epoch,g0.count] zam (0,0))*(pts B (.cells (plA a) TPl (0,0))*(pts (B+1) (.cells zbr zam (0,0))*F))) from by ac_rfl)))
 clear hw b0 b1 b2 c0 c1 lb lc;generalize (w3.alloc (.cells #[.int .i64 0,.int .i64 0,.int .i64 0] TPl)).alloc (.cells #[g0.epoch,g0.count] zam)=w4 at H1 ⊢;generalize w3.heap.size=C at H1 ⊢;obtain⟨⟨b0,b1,b2⟩,⟨c0,c1⟩,d0,d1,d2,e0,e1,f0,f1⟩:=zdg H1.out.2;go_wp2;replace H1:=zh (zcy (g:=0) (h:=0) H1.out.1 H1.out.2);refine bodyPost_ret (v:=.tuple #[.agg zbr,.string (zae []),.int .i64 7]) (zaz results78 (ResIs.row rfl H1.out.2.block underlying42 rfl (za1 rfl)) (.tmp rfl) (.tmp rfl)) rfl ?_;exact⟨rfl,H1.out.1,H1.out.2.right⟩
theorem znt (a:zsj)(s:List UInt8)(ha:zbk a=true)(hs:s.length=64)(hl:zbB s=true)(x y z g h:Int)(hp:zcv s=⟨x,y,z⟩)(hg:zex s 8=⟨g,h⟩)(hne:(⟨x,y,z⟩:zsj)≠a)(F:zsi)(w:World)(hF:Sat w F):
  Calls prog 78 #[.agg (plA a),.string (zae s)] w fun e w'=>e = .returned (.tuple #[.agg zbr,.string (zae []),.int .i64 8])∧Hid (Same w w'∧Sat w' F):=by
 have hLP:zeS s=⟨x,y,z⟩:=by unfold zeS;rw[hl];exact hp
 have hLG:zeR s=⟨g,h⟩:=by unfold zeR;rw[hl];exact hg
 have hLE:zeQ s=0:=by unfold zeQ;rw[hl];rfl
 clear hp hg
 have HNE:=zh (show (x==a.disk&&(y==a.area&&z==a.index))=false from by
  rw[Bool.eq_false_iff];intro hh;simp only[Bool.and_eq_true,beq_iff_eq] at hh;obtain⟨d,e,f⟩:=a;simp only at hh;obtain⟨rfl,rfl,rfl⟩:=hh
  exact hne rfl)
 clear hne
 have hva:=fun W=>zeJ a W
 rw[ha] at hva;have HVA:=zh hva
 have hlb:=fun (F':zsi) (W:World) (h:Sat W F')=>zgS s hs F' W h
 rw[hLP,hLG,hLE] at hlb;have HLB:=zh hlb;have HS:=zh hs;have H1:=(zd (((Same.refl w).alloc (.cells (plA a) TPl)).alloc (.cells zbr zam)) (((hF.alloc (.cells (plA a) TPl)).alloc (.cells zbr zam)).perm (show _=pts w.heap.size (.cells (plA a) TPl (0,0))*(pts (w.alloc (.cells (plA a) TPl)).heap.size (.cells zbr zam (0,0))*F) from by ac_rfl)));rw[World.size_alloc] at H1;clear hva hlb hF hs hl ha hLP hLG hLE;go_enter func78,ntmps78;go_upto_region 1 with ((with_reducible (refine zai ?_ zam ?_ _ (zcT _) ?_));rfl;rfl)
 generalize (w.alloc (.cells (plA a) TPl)).alloc (.cells zbr zam)=w1 at H1 ⊢;generalize w.heap.size=B at H1 ⊢;obtain⟨⟨b0,b1,b2⟩,⟨c0,c1⟩,lb,lc⟩:=zaG (g:=g0) H1.out.2
 go_upto_region 4 with (first
  | (go_at_call 121;refine (HVA.out _).mono ?_;rintro e w2 ⟨rfl,hb⟩;replace H1:=(zd (H1.out.1.below hb) (H1.out.2.below hb));clear b0 b1 b2 c0 c1 lb lc hb;obtain⟨⟨b0,b1,b2⟩,⟨c0,c1⟩,lb,lc⟩:=zaG (g:=g0) H1.out.2)
  | (go_at_call 122;refine (HLB.out _ _ H1.out.2).mono ?_;rintro e w3 ⟨rfl,h3⟩;replace H1:=(zt H1 h3);clear b0 b1 b2 c0 c1 lb lc h3;obtain⟨⟨b0,b1,b2⟩,⟨c0,c1⟩,lb,lc⟩:=zaG (g:=g0) H1.out.2))
 have hw:=((H1.out.2.alloc (.cells (plA ⟨x,y,z⟩) TPl)).alloc (.cells (zcH ⟨g,h⟩) zam));rw[World.size_alloc] at hw;replace H1:=(zd ((H1.out.1.alloc (.cells (plA ⟨x,y,z⟩) TPl)).alloc (.cells (zcH ⟨g,h⟩) zam)) (hw.perm (show _=pts w3.heap.size (.cells (plA ⟨x,y,z⟩) TPl (0,0))*(pts (w3.heap.size+1) (.cells (zcH ⟨g,h⟩) zam (0,0))*(pts B (.cells (plA a) TPl (0,0))*(pts (B+1) (.cells zbr zam (0,0))*F))) from by ac_rfl)));clear hw b0 b1 b2 c0 c1 lb lc;generalize (w3.alloc (.cells (plA ⟨x,y,z⟩) TPl)).alloc (.cells (zcH ⟨g,h⟩) zam)=w4 at H1 ⊢
 generalize w3.heap.size=C at H1 ⊢;obtain⟨⟨b0,b1,b2⟩,⟨c0,c1⟩,d0,d1,d2,e0,e1,f0,f1⟩:=zdg H1.out.2;cases z1:(x==a.disk)
 ·clear HNE
  go_wp2;replace H1:=zh (zcy (g:=0) (h:=0) H1.out.1 H1.out.2);refine bodyPost_ret (v:=.tuple #[.agg zbr,.string (zae []),.int .i64 8]) (zaz results78 (ResIs.row rfl H1.out.2.block underlying42 rfl (za1 rfl)) (.tmp rfl) (.tmp rfl)) rfl ?_;exact⟨rfl,H1.out.1,H1.out.2.right⟩
 cases z2:(y==a.area)
 ·clear HNE
  go_wp2;replace H1:=zh (zcy (g:=0) (h:=0) H1.out.1 H1.out.2);refine bodyPost_ret (v:=.tuple #[.agg zbr,.string (zae []),.int .i64 8]) (zaz results78 (ResIs.row rfl H1.out.2.block underlying42 rfl (za1 rfl)) (.tmp rfl) (.tmp rfl)) rfl ?_;exact⟨rfl,H1.out.1,H1.out.2.right⟩
 have z3:(z==a.index)=false:=by have e:=HNE.out;rw[z1,z2] at e;simpa using e
 clear HNE;go_wp2;replace H1:=zh (zcy (g:=0) (h:=0) H1.out.1 H1.out.2);refine bodyPost_ret (v:=.tuple #[.agg zbr,.string (zae []),.int .i64 8]) (zaz results78 (ResIs.row rfl H1.out.2.block underlying42 rfl (za1 rfl)) (.tmp rfl) (.tmp rfl)) rfl ?_;exact⟨rfl,H1.out.1,H1.out.2.right⟩
theorem znu (a:zsj)(s:List UInt8)(ha:zbk a=true)(hs:s.length=64)(hl:zbB s=true)(g h:Int)(hp:zcv s=a)(hg:zex s 8=⟨g,h⟩)(F:zsi)(w:World)(hF:Sat w F):
  Calls prog 78 #[.agg (plA a),.string (zae s)] w fun e w'=>e = .returned (.tuple #[.agg (zcH ⟨g,h⟩),.string (zae (zav s 16 56)),.int .i64 0])∧Hid (Same w w'∧Sat w' F):=by
 obtain⟨x,y,z⟩:=a
 have hLP:zeS s=⟨x,y,z⟩:=by unfold zeS;rw[hl];exact hp
 have hLG:zeR s=⟨g,h⟩:=by unfold zeR;rw[hl];exact hg
 have hLE:zeQ s=0:=by unfold zeQ;rw[hl];rfl
 clear hp hg
 have hva:=fun W=>zeJ ⟨x,y,z⟩ W
 rw[ha] at hva;have HVA:=zh hva
 have hlb:=fun (F':zsi) (W:World) (h:Sat W F')=>zgS s hs F' W h
 rw[hLP,hLG,hLE] at hlb;have HLB:=zh hlb;have HS:=zh hs;have H1:=(zd (((Same.refl w).alloc (.cells (plA ⟨x,y,z⟩) TPl)).alloc (.cells zbr zam)) (((hF.alloc (.cells (plA ⟨x,y,z⟩) TPl)).alloc (.cells zbr zam)).perm (show _=pts w.heap.size (.cells (plA ⟨x,y,z⟩) TPl (0,0))*(pts (w.alloc (.cells (plA ⟨x,y,z⟩) TPl)).heap.size (.cells zbr zam (0,0))*F) from by ac_rfl)));rw[World.size_alloc] at H1;clear hva hlb hF hs hl ha hLP hLG hLE;go_enter func78,ntmps78;go_upto_region 1 with ((with_reducible (refine zai ?_ zam ?_ _ (zcT _) ?_));rfl;rfl)
 generalize (w.alloc (.cells (plA ⟨x,y,z⟩) TPl)).alloc (.cells zbr zam)=w1 at H1 ⊢;generalize w.heap.size=B at H1 ⊢;obtain⟨⟨b0,b1,b2⟩,⟨c0,c1⟩,lb,lc⟩:=zaG (g:=g0) H1.out.2
 go_upto_region 4 with (first
  | (go_at_call 121;refine (HVA.out _).mono ?_;rintro e w2 ⟨rfl,hb⟩;replace H1:=(zd (H1.out.1.below hb) (H1.out.2.below hb));clear b0 b1 b2 c0 c1 lb lc hb;obtain⟨⟨b0,b1,b2⟩,⟨c0,c1⟩,lb,lc⟩:=zaG (g:=g0) H1.out.2)
  | (go_at_call 122;refine (HLB.out _ _ H1.out.2).mono ?_;rintro e w3 ⟨rfl,h3⟩;replace H1:=(zt H1 h3);clear b0 b1 b2 c0 c1 lb lc h3;obtain⟨⟨b0,b1,b2⟩,⟨c0,c1⟩,lb,lc⟩:=zaG (g:=g0) H1.out.2))
 have hw:=((H1.out.2.alloc (.cells (plA ⟨x,y,z⟩) TPl)).alloc (.cells (zcH ⟨g,h⟩) zam));rw[World.size_alloc] at hw;replace H1:=(zd ((H1.out.1.alloc (.cells (plA ⟨x,y,z⟩) TPl)).alloc (.cells (zcH ⟨g,h⟩) zam)) (hw.perm (show _=pts w3.heap.size (.cells (plA ⟨x,y,z⟩) TPl (0,0))*(pts (w3.heap.size+1) (.cells (zcH ⟨g,h⟩) zam (0,0))*(pts B (.cells (plA ⟨x,y,z⟩) TPl (0,0))*(pts (B+1) (.cells zbr zam (0,0))*F))) from by ac_rfl)));clear hw b0 b1 b2 c0 c1 lb lc;generalize (w3.alloc (.cells (plA ⟨x,y,z⟩) TPl)).alloc (.cells (zcH ⟨g,h⟩) zam)=w4 at H1 ⊢
 generalize w3.heap.size=C at H1 ⊢;obtain⟨⟨b0,b1,b2⟩,⟨c0,c1⟩,d0,d1,d2,e0,e1,f0,f1⟩:=zdg H1.out.2;go_upto_region 8 with (fail)
 replace H1:=(zd H1.out.1.drew H1.out.2.drew);have hS0:=zfp H1.out.2;clear b0 b1 b2 c0 c1 d0 d1 d2 e0 e1 f0 f1;refine zah (fun w'=>w'.cell? ⟨C+1,0,none⟩=some (.int .i64 g)∧w'.cell? ⟨C+1,1,none⟩=some (.int .i64 h)) (by kernel_rfl) ?_;(apply zaa 0 rfl rfl (by kernel_rfl) rfl);(rintro w' ⟨h1,h2⟩;go_simp;rfl);exact hS0;simp only[zq];(apply zaa 1 rfl rfl (by kernel_rfl) rfl);(rintro w' ⟨h1,h2⟩;go_simp;rfl);exact hS0;simp only[zq];refine zaa 2 (v:=.string (zae (zav s 16 56))) rfl rfl (by kernel_rfl) rfl (fun w' _=>za3 (i:=16) (j:=56) rfl underlying9 rfl rfl rfl (by decide) (by rw[HS.out];decide)) hS0 ?_;simp only[zq]
 refine zan 3 rfl rfl (by kernel_rfl) rfl (f:=123) (args:=#[.string (zae (zav s 16 56))]) (R:=fun v w'=>v = .string (zae (zav s 16 56))∧Hid (Below w4.drew.heap.size w4.drew w')) (by kernel_rfl) ((zmJ (zae (zav s 16 56)) w4.drew (by rw[zap];simp[zav];omega)).mono fun e w' h=>⟨_,h.1,rfl,h.2⟩) ?_
 rintro _ w5 ⟨rfl,hb⟩;replace H1:=(zd (H1.out.1.below hb.out) (H1.out.2.below hb.out));replace hS0:=zfp H1.out.2;refine⟨hS0,?_⟩;simp only[zq];clear hb;refine zbG 4 (T:=zam) (old:=zbr) (new:=#[.int .i64 g,.int .i64 h]) rfl rfl (by kernel_rfl) rfl rfl rfl rfl (H1.out.2.perm (zjf _ _ _ _ _)) (za1 rfl) rfl (by simp[Value.oneCell']) ?_;intro w6 h6;replace H1:=(zt H1 h6);replace hS0:=zgX h6.out.2;refine⟨hS0,?_⟩;clear h6;(apply zaa 5 rfl rfl (by kernel_rfl) rfl);(rintro w' ⟨h1,h2⟩;go_simp;rfl);exact hS0;simp only[zq]
 (apply zaa 6 rfl rfl (by kernel_rfl) rfl);(rintro w' ⟨h1,h2⟩;go_simp;rfl);exact hS0;simp only[zq];refine zar (by kernel_rfl) ?_;clear hS0;go_wp2;refine bodyPost_ret (v:=.tuple #[.agg (zcH ⟨g,h⟩),.string (zae (zav s 16 56)),.int .i64 0]) (zaz results78 (ResIs.row rfl H1.out.2.block underlying42 rfl (za1 rfl)) (.tmp rfl) (.tmp rfl)) rfl ?_;exact⟨rfl,H1.out.1,H1.out.2.right.right.right.right⟩
def zjd (r:Option (GenM×List UInt8)):Array Value×List UInt8:=match r with|some (g,p)=>(zcH g,p)|none=>(zbr,[])
theorem zpf (a:zsj)(s:List UInt8)(ha:zbk a=true)(hs:s.length=64)(F:zsi)(w:World)(hF:Sat w F):
  Calls prog 78 #[.agg (plA a),.string (zae s)] w fun e w'=>∃ k:Int,(k=0↔(zbj a s).isSome=true)∧e = .returned (.tuple #[.agg (zjd (zbj a s)).1,.string (zae (zjd (zbj a s)).2),k])∧Hid (Same w w'∧Sat w' F):=by
 cases hl:zbB s with
 | false =>
  have e:zbj a s=none:=by unfold zbj;rw[if_neg (by rw[hl];simp)]
  rw[e]
  exact (zpg a s ha hs hl F w hF).mono fun _ _ h=>⟨7,by simp,h.1,h.2⟩
 | true =>
  by_cases hp:zcv s=a
  ·have e:zbj a s=some (zex s 8,zav s 16 56):=by unfold zbj;rw[if_pos ⟨ha,hs,hl,hp⟩]
   rw[e]
   exact (znu a s ha hs hl _ _ hp rfl F w hF).mono fun _ _ h=>⟨0,by simp,h.1,h.2⟩
  ·have e:zbj a s=none:=by unfold zbj;rw[if_neg (by rintro⟨_,_,_,h⟩;exact hp h)]
   rw[e]
   exact (znt a s ha hs hl _ _ _ _ _ rfl rfl hp F w hF).mono fun _ _ h=>⟨8,by simp,h.1,h.2⟩
end Go.Proofs.YtmcclbiaoeilkaaGreat
