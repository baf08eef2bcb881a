import Derived.Test.YtmcclbiaoeilkaaGreatQ42
set_option maxHeartbeats 4000000
set_option maxRecDepth 20000
/- Part 43 of a proof;the last part says what is proved. -/
namespace Go.Proofs.YtmcclbiaoeilkaaGreat
open Go.Proofs.Tryz Go.RowKit Go.Sl Go.ChangeMaps
def svL (l:List (Nat×Int)):KV:=l.map fun x=>((x.1:Int),.int .i64 x.2)
theorem zkq (l:List (Nat×Int))(k:Nat)(a:Int):svL (l++[(k,a)])=svL l++[((k:Int),.int .i64 a)]:=by simp[svL]
theorem zjC {l:List (Nat×Int)}{k:Nat}(h:∀ x ∈ l,x.1<k)(a:Int):upd (svL l) (k:Int) (.int .i64 a)=svL (l++[(k,a)]):=by
 rw[zkq]
 induction l with
 | nil=>rfl
 | cons x r ih =>
  have h1:=h x (by simp);have e:=ih (fun y hy=>h y (by simp[hy]));show upd (((x.1:Int),.int .i64 x.2)::svL r) _ _=((x.1:Int),.int .i64 x.2)::(svL r++_);simp only[upd];rw[if_neg (by omega),e]
theorem zpN {l:List (Nat×Int)}{k:Nat}(h:∀ x ∈ l,x.1<k)(a b:Int):upd (svL (l++[(k,a)])) (k:Int) (.int .i64 b)=svL (l++[(k,b)]):=by
 rw[zkq,zkq]
 induction l with
 | nil=>simp[svL,upd]
 | cons x r ih =>
  have h1:=h x (by simp);have e:=ih (fun y hy=>h y (by simp[hy]));show upd (((x.1:Int),.int .i64 x.2)::(svL r++_)) _ _=((x.1:Int),.int .i64 x.2)::(svL r++_);simp only[upd];rw[if_neg (by omega),e]
theorem zj3 {l:List (Nat×Int)}{k:Nat}(h:∀ x ∈ l,x.1<k)(a:Int):lk (svL (l++[(k,a)])) (k:Int)=some (.int .i64 a):=by
 rw[← zjC h,znj,if_pos rfl]
theorem zek {c:CkM}{S:zsg}{l:List (Nat×Int)}{k m:Nat}(h:S.state k≠1):za6 c S l k (m+1)=za6 c S l (k+1) m:=by
 show (if _ then _ else _)=_;rw[if_pos h]
theorem zdj {c:CkM}{S:zsg}{l:List (Nat×Int)}{k m:Nat}(h:S.state k=1)(h2:(zbH S k (zc7 S k) c).2≠0):za6 c S l k (m+1)=((zbH S k (zc7 S k) c).1,l,(zbH S k (zc7 S k) c).2):=by
 show (if _ then _ else _)=_;rw[if_neg (fun e=>e h),if_pos h2]
theorem zdZ {c:CkM}{S:zsg}{l:List (Nat×Int)}{k m:Nat}(h:S.state k=1)(h2:(zbH S k (zc7 S k) c).2=0):za6 c S l k (m+1)=za6 c (zbH S k (zc7 S k) c).1 (l++[(k,zc7 S k)]) (k+1) m:=by
 show (if _ then _ else _)=_;rw[if_neg (fun e=>e h),if_neg (by rw[h2];simp)]
structure SvS (w:World)(p:Nat)(c:CkM)(S:zsg)(mB cB:Nat)(A:Array Value)(F:zsi)(m:Nat)(iv:Value)(wr:World):Prop where
 st:∃ (k:Nat) (Sk:zsg) (l:List (Nat×Int)) (es:Array MapEntry) (ck:Nat) (X:zsi),k≤m∧l.length≤k∧iv = .int .i64 (k:Int)∧Hid (za6 c S [] 0 m=za6 c Sk l k (m - k)∧(∀ x ∈ l,x.1<k))∧Hid (MapL es ck (svL l))∧Hid (Same w wr∧Sat wr (zac SH p Sk*(pts mB (.map es ck)*(pts cB (.cells A TCk (0,0))*(X*F)))))
theorem zcp {w:World}{cB p mB:Nat}{o:Obj}{S:zsg}{a b c d:Value}{F:zsi}(h:Sat w (zac SH p S*(pts mB o*(pts cB (.cells #[a,b,c,d] TCk (0,0))*F)))):w.cell? ⟨cB,0,none⟩=some a∧w.cell? ⟨cB,1,none⟩=some b∧w.cell? ⟨cB,2,none⟩=some c∧w.cell? ⟨cB,3,none⟩=some d∧cB<w.heap.size∧mB<w.heap.size∧w.heap[mB]?=some o:=
 ⟨zab h.right.right.block 0,zab h.right.right.block 1,zab h.right.right.block 2,zab h.right.right.block 3,h.right.right.lt,h.right.lt,h.right.block⟩
theorem zhm {w W:World}{mB cB p:Nat}{o:Obj}{S:zsg}{A:Array Value}{X F:zsi}(h1:Same w W)(h2:Sat W (zac SH p S*(pts mB o*(pts cB (.cells A TCk (0,0))*(X*F))))):Hid (Same w W∧Sat W (zac SH p S*F)):=
 ⟨h1,(h2.perm (show _=(pts mB o*(pts cB (.cells A TCk (0,0))*X))*(zac SH p S*F) from by ac_rfl)).right⟩
theorem zo6 {P:Program}{w:World}{T K E:TypeId}{r:Nat}{es:Array MapEntry}{clock:Nat}{l:KV}(hT:P.underlying T=some (.map K E))(hb:w.heap[r]?=some (.map es clock))(hl:MapL es clock l)(ty:TypeId):
  (Builtin.len_ #[T] ty #[.map (some r)]).run P w = .ok (.int .i64 (l.length:Int)) w:=by
 simp[Builtin.len_,run_underlying hT,MapKept.run_getObj_map hb,goInt,Result.andThen,hl.size]
theorem zh8 (g:MapEntry→Bool)(sn:List Nat)(e:MapEntry)(he:e.born ∉ sn):∀ L:List MapEntry,(L.map (·.born)).Nodup→e ∈ L→(L.filter fun x=>(sn++[e.born]).contains x.born&&g x).length=(L.filter fun x=>sn.contains x.born&&g x).length+if g e=true then 1 else 0
 | a::t,hn,hm=>by
  simp only[List.map_cons,List.nodup_cons] at hn
  by_cases hab:a.born=e.born
  ·have hae:a=e:=by
    rcases List.mem_cons.1 hm with h|h
    ·exact h.symm
    ·exact absurd (hab ▸ List.mem_map_of_mem h) hn.1
   subst hae
   have ht:t.filter (fun x=>(sn++[a.born]).contains x.born&&g x)=t.filter fun x=>sn.contains x.born&&g x:=by
    refine List.filter_congr fun x hx=>?_
    have hne:x.born≠a.born:=fun h=>hn.1 (h ▸ List.mem_map_of_mem hx)
    congr 1;rw[Bool.eq_iff_iff];simp[hne]
   rw[List.filter_cons,List.filter_cons,ht]
   have h1:(sn++[a.born]).contains a.born=true:=by simp
   have h2:sn.contains a.born=false:=by simpa using he
   rw[h1,h2]
   cases g a <;> simp
  ·have hm':e ∈ t:=by
    rcases List.mem_cons.1 hm with h|h
    ·exact absurd (by rw[h]) hab
    ·exact h
   have ih:=zh8 g sn e he t hn.2 hm'
   have h1:(sn++[e.born]).contains a.born=sn.contains a.born:=by
    rw[Bool.eq_iff_iff];simp[hab]
   rw[List.filter_cons,List.filter_cons,h1];split
   ·rw[List.length_cons,List.length_cons,ih];omega
   ·exact ih
def zqT (mb r:Nat)(w:World):Nat:=match w.heap[mb]?,w.heap[r]? with
 | some (.map es _),some (.mapIter _ _ seen _)=>es.size - (es.toList.filter fun x=>seen.toList.contains x.born&&true).length
 | _,_=>0
theorem zoe {es:Array MapEntry}{sn:List Nat}{e:MapEntry}(hb:(es.toList.map (·.born)).Nodup)(hm:e ∈ es.toList)(he:e.born ∉ sn):es.size - (es.toList.filter fun x=>(sn++[e.born]).contains x.born&&true).length<es.size - (es.toList.filter fun x=>sn.contains x.born&&true).length:=by
 have h1:=zh8 (fun _=>true) sn e he es.toList hb hm;have h2:=List.length_filter_le (fun x:MapEntry=>(sn++[e.born]).contains x.born&&true) es.toList;simp only[Array.length_toList] at h2;simp only[if_true] at h1;omega
def zdw (S:zsg)(c:CkM)(e:MapEntry):Bool:=decide (zaS S (intOf e.key) (intOf e.val)=(c,0))
theorem zqb {S:zsg}{c:CkM}{es:Array MapEntry}{ck:Nat}{l:List (Nat×Int)}(hM:MapL es ck (svL l)):(es.toList.filter (zdw S c)).length=zen S c l:=by
 have h:=hM.ent;unfold zen
 have e1:es.toList.filter (zdw S c)=es.toList.filter ((fun q:Value×Value=>decide (zaS S (intOf q.1) (intOf q.2)=(c,0))) ∘ fun e=>(e.key,e.val)):=rfl
 have h2:((es.toList.map fun e=>(e.key,e.val)).filter fun q:Value×Value=>decide (zaS S (intOf q.1) (intOf q.2)=(c,0))).length=(es.toList.filter (zdw S c)).length:=by rw[List.filter_map,List.length_map];rfl
 rw[← h2,h,List.filter_map,List.length_map];unfold svL;rw[List.filter_map,List.length_map]
 rfl
theorem zq9 {es:Array MapEntry}{ck:Nat}{l:List (Nat×Int)}(hM:MapL es ck (svL l)){e:MapEntry}(he:e ∈ es.toList):∃ x ∈ l,e.key = .int .i64 (x.1:Int)∧e.val = .int .i64 x.2:=by
 have h:(e.key,e.val) ∈ es.toList.map fun e=>(e.key,e.val):=List.mem_map_of_mem (f:=fun e:MapEntry=>(e.key,e.val)) he
 rw[hM.ent] at h;unfold svL at h;simp only[List.map_map,List.mem_map,Function.comp_apply,Prod.mk.injEq] at h;obtain⟨x,hx,h1,h2⟩:=h;exact⟨x,hx,h1.symm,h2.symm⟩
theorem zq8 (a b c a' b' c':Int)(s s':List UInt8)(w:World):(binOp .eql TCk (.agg #[a,b,c,.string (zae s)]) (.agg #[a',b',c',.string (zae s')])).run prog w = .ok (.bool (decide ((⟨⟨a,b⟩,c,s⟩:CkM)=⟨⟨a',b'⟩,c',s'⟩))) w:=by
 have e:((zae s).toList==(zae s').toList)=decide (s=s'):=by
  rw[Lib.toList_data,Lib.toList_data];show (s.toArray.toList==s'.toArray.toList)=_;rw[Bool.eq_iff_iff];simp
 have h:decide ((⟨⟨a,b⟩,c,s⟩:CkM)=⟨⟨a',b'⟩,c',s'⟩)=(a==a'&&(b==b'&&(c==c'&&((zae s).toList==(zae s').toList)))):=by
  rw[e,Bool.eq_iff_iff];simp[and_assoc]
 rw[h];go_simp
 by_cases h1:a=a' <;> by_cases h2:b=b' <;> by_cases h3:c=c' <;> by_cases h4:s=s' <;> simp[h1,h2,h3,h4]
theorem zm4:prog.eqGuardType prog.depth TCk=false:=by kernel_rfl
theorem ziU {a:Act}{o:Oper}{w:World}{x y:Operand}{t2 t:TypeId}{xs ys:Array Value}{r:Bool}(hm:prog.eqGuardType prog.depth t=false)(ho:o.op = .binOp .eql t x y t2)(hx:a.eval x = .agg xs)(hy:a.eval y = .agg ys)
  (h:(binOp .eql t (.agg xs) (.agg ys)).run prog w = .ok (.bool r) w):(execOp a.eval o).run prog w = .ok (.value (.bool r)) w:=by
 have hg:=run_eqGuard_agg (P:=prog) (w:=w) .eql t x y xs ys hm;unfold execOp;simp only[ho,Sem.run_bind,Sem.run_pure,hx,hy,hg,h,Result.andThen_ok]
structure LpS (w:World)(p:Nat)(c:CkM)(Sk:zsg)(mB cB it:Nat)(A:Array Value)(F:zsi)(es:Array MapEntry)(ck:Nat)(nv:Value)(wq:World):Prop where
 st:∃ (seen:Array Nat) (X:zsi),nv = .int .i64 ((es.toList.filter fun x=>seen.toList.contains x.born&&zdw Sk c x).length:Int)∧Hid (Same w wq∧Sat wq (pts it (.mapIter (some mB) ck seen ck)*(pts mB (.map es ck)*(zac SH p Sk*(pts cB (.cells A TCk (0,0))*(X*F))))))
theorem zo8 {w:World}{cB p it mB:Nat}{o o2:Obj}{S:zsg}{a b c d:Value}{F:zsi}(h:Sat w (pts it o2*(pts mB o*(zac SH p S*(pts cB (.cells #[a,b,c,d] TCk (0,0))*F))))):w.cell? ⟨cB,0,none⟩=some a∧w.cell? ⟨cB,1,none⟩=some b∧w.cell? ⟨cB,2,none⟩=some c∧w.cell? ⟨cB,3,none⟩=some d∧cB<w.heap.size:=
 ⟨zab h.right.right.right.block 0,zab h.right.right.right.block 1,zab h.right.right.right.block 2,zab h.right.right.right.block 3,h.right.right.right.lt⟩
theorem zky (w:World):(zeroValue 3).run prog w = .ok (.int .i64 0) w:=by kernel_rfl
theorem znV (p:Nat)(S:zsg)(F:zsi)(ge gc:Int)(sq:Nat)(im:List UInt8)(hsq:sq<9223372036854775808)(hs:decide ((sq:Int)<0)=false)(he:zcq ge=true)(hc:zcq gc=true)(hz:(ge==0)=false∨((ge==0)=true∧(gc==0)=false))(hl:decide (zda S.cfg<(im.length:Int))=false)(hoff:S.off=false)(w:World)(hS:Sat w (zac SH p S*F)):
  Calls prog 10 #[.pointer (some ⟨p,0,none⟩),.agg #[ge,gc,(sq:Int),.string (zae im)]] w (zff p F (zdc S ⟨⟨ge,gc⟩,(sq:Int),im⟩) w):=by
 have HWE:=zh (show ∀ (W:World),Calls prog 34 #[ge] W fun e w'=>e = .returned (.bool true)∧W=w' from fun W=>by rw[← he];exact zb6 ge W);have HWC:=zh (show ∀ (W:World),Calls prog 34 #[gc] W fun e w'=>e = .returned (.bool true)∧W=w' from fun W=>by rw[← hc];exact zb6 gc W);obtain⟨m,hm⟩:∃ m:Nat,S.cfg.disks=(m:Int):=⟨S.cfg.disks.toNat,by have:=(zaE hS).cfg.disks;omega⟩;have HM64:=zh (show m≤64 from by have:=(zaE hS).cfg.disks;omega)
 have HGO:=zh (show zcQ ⟨ge,gc⟩=true from by
  cases h:zcQ ⟨ge,gc⟩ with
  | true=>rfl
  | false =>
   have h2:=(zdW ge gc (sq:Int) im).1 (.inr h);have e1:=of_decide_eq_false hs;rw[he,hc] at h2;simp at h2 hz
   omega)
 have HPC:=zh (zgY (c:=⟨⟨ge,gc⟩,(sq:Int),im⟩) (zaE hS).cfg.image.2 (zaE hS).cfg.image.1 (by have:=of_decide_eq_false hl;simp only;omega));have hmm:=@run_makeMap prog;obtain⟨R,hR⟩:∃ R,zdc S ⟨⟨ge,gc⟩,(sq:Int),im⟩=R:=⟨_,rfl⟩
 have HR:=zh (show R=if (za6 ⟨⟨ge,gc⟩,(sq:Int),im⟩ S [] 0 m).2.2≠0 then ((za6 ⟨⟨ge,gc⟩,(sq:Int),im⟩ S [] 0 m).1,0,(za6 ⟨⟨ge,gc⟩,(sq:Int),im⟩ S [] 0 m).2.2) else if (za6 ⟨⟨ge,gc⟩,(sq:Int),im⟩ S [] 0 m).2.1=[] then ((za6 ⟨⟨ge,gc⟩,(sq:Int),im⟩ S [] 0 m).1,0,15) else ((za6 ⟨⟨ge,gc⟩,(sq:Int),im⟩ S [] 0 m).1,(zen (za6 ⟨⟨ge,gc⟩,(sq:Int),im⟩ S [] 0 m).1 ⟨⟨ge,gc⟩,(sq:Int),im⟩ (za6 ⟨⟨ge,gc⟩,(sq:Int),im⟩ S [] 0 m).2.1:Int),0) from by
  rw[← hR];unfold zdc;rw[if_neg,if_neg (of_decide_eq_false hl),if_neg (by rw[hoff];simp),show S.cfg.disks.toNat=m by omega];rintro (h|h)
  ·exact of_decide_eq_false hs h
  ·rw[HGO.out] at h;cases h)
 rw[hR];clear hR;have hwf:=zaE hS;obtain⟨mx,hmx⟩:∃ mx,zda S.cfg=mx:=⟨_,rfl⟩;rw[hmx] at hl;have hci:=hwf.cfg.image
 have HCFG:=zh (show ∀ (W:World) (X:zsi),Sat W (zac SH p S*X)→Calls prog 26 #[.pointer (some ⟨p,0,none⟩)] W fun e w'=>e = .returned (.agg (za8 S.cfg))∧Below W.heap.size W w' from fun W X h=>zcM p S X W h)
 have HCAP:=zh (show ∀ (W:World),Calls prog 22 #[.agg (za8 S.cfg)] W fun e w'=>e = .returned (.int .i64 mx)∧Below W.heap.size W w' from fun W=>by rw[← hmx];exact zdM S.cfg hci.1 hci.2 W);clear hci hmx hwf;have hsz:(zae im).size=im.length:=zap im
 have HUP:=zh (show ∀ (W:World) (X:zsi),Sat W (zac SH p S*X)→Calls prog 35 #[.pointer (some ⟨p,0,none⟩)] W fun e w'=>e = .returned (.bool (!S.off))∧W=w' from fun W X h=>zog p S X W h)
 rw[hoff] at HUP;have H1:=(zd ((Same.refl w).alloc (.cells #[ge,gc,(sq:Int),.string (zae im)] TCk)) ((hS.alloc (.cells #[ge,gc,(sq:Int),.string (zae im)] TCk)).perm (show _=zac SH p S*(pts w.heap.size (.cells #[ge,gc,(sq:Int),.string (zae im)] TCk (0,0))*F) from by ac_rfl)));clear hS;go_enter func10,ntmps10;go_upto_region 1 with (fail)
 generalize w.alloc (.cells #[ge,gc,(sq:Int),.string (zae im)] TCk)=w1 at H1 ⊢;generalize w.heap.size=cB at H1 ⊢;obtain⟨c0,c1,c2,c3,lc⟩:=zbO H1.out.2;rcases hz with hz|⟨hz,hz2⟩
 all_goals
  go_upto_region 3 with (first
   | (go_at_call 34;(with_reducible refine (HWE.out _).mono ?_);rintro e w2 ⟨rfl,rfl⟩)
   | (go_at_call 34;(with_reducible refine (HWC.out _).mono ?_);rintro e w2 ⟨rfl,rfl⟩))
  refine zah (fun w'=>w'.cell? ⟨cB,3,none⟩=some (.string (zae im))) (by kernel_rfl) ?_
  replace H1:=(zd H1.out.1.drew H1.out.2.drew);generalize w1.drew=w2 at H1 ⊢;clear c0 c1 c2 c3 lc HWE HWC;have hS0:=(zbO H1.out.2).2.2.2.1;(apply zaa 0 rfl rfl (by kernel_rfl) rfl);(intro w' h3';go_simp;rfl);exact hS0;simp only[zq];(apply zaa 1 rfl rfl (by kernel_rfl) rfl);(intro w' h3';go_simp;rfl);exact hS0;simp only[zq];(apply zaa 2 rfl rfl (by kernel_rfl) rfl);(intro w' h3';go_simp;rfl);exact hS0;simp only[zq];(apply zaa 3 rfl rfl (by kernel_rfl) rfl);(intro w' h3';go_simp;rfl);exact hS0;simp only[zq]
  refine zan 4 rfl rfl (by kernel_rfl) rfl (f:=26) (args:=#[.pointer (some ⟨p,0,none⟩)]) (R:=fun v w'=>v = .agg (za8 S.cfg)∧Hid (Below w2.heap.size w2 w')) (by kernel_rfl) ((HCFG.out w2 _ H1.out.2).mono fun e w' h=>⟨_,h.1,rfl,h.2⟩) ?_;rintro _ w3 ⟨rfl,hb⟩;replace H1:=(zd (H1.out.1.below hb.out) (H1.out.2.below hb.out));replace hS0:=(zbO H1.out.2).2.2.2.1;refine⟨hS0,?_⟩;simp only[zq];refine zan 5 rfl rfl (by kernel_rfl) rfl (f:=22) (args:=#[.agg (za8 S.cfg)]) (R:=fun v w'=>v = .int .i64 mx∧Hid (Below w3.heap.size w3 w')) (by kernel_rfl) ((HCAP.out w3).mono fun e w' h=>⟨_,h.1,rfl,h.2⟩) ?_
  rintro _ w4 ⟨rfl,hb2⟩;replace H1:=(zd (H1.out.1.below hb2.out) (H1.out.2.below hb2.out));replace hS0:=(zbO H1.out.2).2.2.2.1;refine⟨hS0,?_⟩;simp only[zq];(apply zaa 6 rfl rfl (by kernel_rfl) rfl);(intro w' _;go_simp;rfl);exact hS0;simp only[zq];(apply zaa 7 rfl rfl (by kernel_rfl) rfl);(intro w' _;go_simp;rfl);exact hS0;simp only[zq];refine zar (by kernel_rfl) ?_;clear hS0 hb hb2 HCAP
  go_upto_region 9 with (first
   | (go_at_call 35;refine (HUP.out w4 _ H1.out.2).mono ?_;rintro e w5 ⟨rfl,rfl⟩)
   | (go_at_call 26;refine (HCFG.out _ _ (H1.out.2.allocKeep (.map #[] 0))).mono ?_;rintro e w5 ⟨rfl,hb⟩;have hfd:(Instr.field 23 (.agg (za8 S.cfg)) 0).run prog w5 = .ok (.int .i64 (m:Int)) w5:=by rw[← hm];exact zfQ S.cfg w5))
  have H2:=(zd ((H1.out.1.alloc (.map #[] 0)).below hb) ((H1.out.2.alloc (.map #[] 0)).below hb));generalize w4.heap.size=mB at H2 ⊢;clear hb hfd H1 hs he hc hz hl hoff HCFG HUP hmm hm hsz
  go_loopw [57] (fun iv wr=>SvS w p ⟨⟨ge,gc⟩,(sq:Int),im⟩ S mB cB #[ge,gc,(sq:Int),.string (zae im)] F m iv wr) (fun iv _=>m - (intOf iv).toNat)
  case atStart=>exact⟨⟨0,S,[],#[],0,emp,Nat.zero_le _,Nat.le_refl _,rfl,zh ⟨by rw[Nat.sub_zero],by simp⟩,zh (MapL.empty 0),zh ⟨H2.out.1,H2.out.2.perm (by rw[zaL];ac_rfl)⟩⟩⟩
  case round =>
   clear H2;obtain⟨k,Sk,l,es,ck,X,hk,hll,rfl,HK,HM,H1⟩:=hrel.st;have HLL:=zh hll;clear hll;clear hrel
   by_cases hlt:k<m
   ·have hltd:decide ((k:Int)<(m:Int))=true:=decide_eq_true (by omega)
    have hki:(k:Int)<(m:Int):=by omega
    have hw1:IntKind.i64.wrap ((k:Int)+1)=(k:Int)+1:=IntWalk.i64_in _ (by have:=HM64.out;omega);have HSTA:=zh (zdY p Sk _ (k:Int) wr H1.out.2);have HLT:=zh hlt
    by_cases hst:Sk.state (k:Int)=1
    ·have HST:=zh hst
     rw[hst] at HSTA;obtain⟨es4,ck4,hup,hM4⟩:=zbt (P:=prog) (w:=wr) underlying90 underlying3 (zcp H1.out.2).2.2.2.2.2.2 HM.out (k:Int) (.int .i64 2);rw[zjC HK.out.2] at hM4;have H4:=(zd (H1.out.1.setBlock (r:=mB) (.map es4 ck4)) ((H1.out.2.perm (za0 _ _ _)).setBlock (o':=.map es4 ck4)));have HM4:=zh hM4;clear hst hM4 hlt hk;go_upto_region 13 with (go_at_call 36;refine HSTA.out.mono ?_;rintro e w2 ⟨rfl,rfl⟩)
     generalize setBlock wr mB (.map es4 ck4)=w2 at H4 ⊢;obtain⟨⟨ar,⟨⟨ne,nc⟩,nsq,ni⟩,en⟩,hnk⟩:∃ r,zbs Sk (k:Int)=r:=⟨_,rfl⟩;have hnw:=zf5 p Sk _ (k:Int) w2 (H4.out.2.perm (za0 _ _ _));rw[hnk] at hnw;have HN1:=zh hnw;have HNX:=zh (show zc7 Sk (k:Int)=if en=0∧ar=2 then 3 else 2 from by unfold zc7;rw[hnk]);clear hnk hnw hup HSTA;go_upto_region 14 with (go_at_call 18;refine HN1.out.mono ?_;rintro e w3 ⟨rfl,h2,h3⟩;replace H4:=(zd (H4.out.1.trans h2) h3);clear h2 h3;unfold ckA)
     clear HN1;replace H4:=(zd (H4.out.1.alloc (.cells #[ne,nc,nsq,.string (zae ni)] TCk)) ((H4.out.2.alloc (.cells #[ne,nc,nsq,.string (zae ni)] TCk)).perm (show _=zac SH p Sk*(pts mB (.map es4 ck4)*(pts cB (.cells #[ge,gc,(sq:Int),.string (zae im)] TCk (0,0))*((pts w3.heap.size (.cells #[ne,nc,nsq,.string (zae ni)] TCk (0,0))*X)*F))) from by ac_rfl)));generalize w3.alloc (.cells #[ne,nc,nsq,.string (zae ni)] TCk)=w5 at H4 ⊢;generalize w3.heap.size=nB at H4 ⊢
     by_cases hen:en=0
     case pos =>
      subst hen
      by_cases har:ar=2
      case pos =>
       subst har;obtain⟨es6,ck6,hup,hM6⟩:=zbt (P:=prog) (w:=w5) underlying90 underlying3 (zcp H4.out.2).2.2.2.2.2.2 HM4.out (k:Int) (.int .i64 3);rw[zpN HK.out.2] at hM6;have HM6:=zh hM6;have H6:=(zd (H4.out.1.setBlock (r:=mB) (.map es6 ck6)) (((H4.out.2.perm (za0 _ _ _)).setBlock (o':=.map es6 ck6)).perm (za0 _ _ _)));have HA:=zh (show zc7 Sk (k:Int)=3∧((3:Int)=2∨(3:Int)=3) from⟨by rw[HNX.out];rfl,.inr rfl⟩);clear hM6 HNX;go_upto_region 16 with (fail)
       generalize setBlock w5 mB (.map es6 ck6)=w6 at H6 ⊢;clear hup;have hlk:=zdb (P:=prog) (w:=w6) underlying90 underlying3 (zky w6) (zcp H6.out.2).2.2.2.2.2.2 HM6.out (k:Int);rw[zj3 HK.out.2] at hlk;simp only[Option.getD_some] at hlk;obtain⟨q0,q1,q2,q3,-,-,-⟩:=zcp H6.out.2;obtain⟨⟨S7,e7⟩,hwk⟩:∃ r,zbH Sk (k:Int) 3 ⟨⟨ge,gc⟩,(sq:Int),im⟩=r:=⟨_,rfl⟩;have hwr:=zfi p Sk _ (k:Int) 3 ge gc sq im hsq HPC.out.2 (zei (c:=⟨⟨ge,gc⟩,(sq:Int),im⟩) ⟨by omega,by have:=HM64.out;have:=HLT.out;omega⟩ HA.out.2 HGO.out HPC.out.1) w6 H6.out.2
       unfold zjQ at hwr;rw[hwk] at hwr;have HW:=zh hwr;have HWK:=zh hwk;clear hwr hwk;go_upto_region 17 with (go_at_call 37;refine HW.out.mono ?_;rintro e w7 ⟨rfl,h7⟩;replace H6:=(zd (H6.out.1.trans h7.out.1) h7.out.2);clear h7)
       clear q0 q1 q2 q3 hlk HW
       by_cases he7:e7=0
       case pos =>
        subst he7;go_wp2
        go_roundw
        case rel=>exact⟨⟨k+1,S7,l++[(k,3)],es6,ck6,pts nB (.cells #[ne,nc,nsq,.string (zae ni)] TCk (0,0))*X,HLT.out,by rw[List.length_append];exact Nat.succ_le_succ HLL.out,congrArg (Value.int .i64) (by omega),zh ⟨by rw[HK.out.1,show m - k=(m - (k+1))+1 by have:=HLT.out;omega,zdZ HST.out (by rw[HA.out.1,HWK.out]),HA.out.1,HWK.out],fun x hx=>by
         rcases List.mem_append.1 hx with h|h
         ·exact Nat.lt_succ_of_lt (HK.out.2 x h)
         ·rw[List.mem_singleton.1 h];exact Nat.lt_succ_self k⟩,HM6,H6⟩⟩
        case measure=>have:=HLT.out;simp[intOf];omega
       case neg =>
        have hed:(e7 != 0)=true:=bne_iff_ne.2 he7
        have HE:=zh (show R=(S7,0,e7) from by
         rw[HR.out,HK.out.1,show m - k=(m - (k+1))+1 by have:=HLT.out;omega,zdj HST.out (by rw[HA.out.1,HWK.out];exact he7),HA.out.1,HWK.out,if_pos he7])
        clear he7;go_wp2;go_ret2;unfold zff;rw[HE.out];exact⟨rfl,zhm H6.out.1 H6.out.2⟩
      case neg =>
       have hab:(ar==2)=false:=by simp[har]
       have HA:=zh (show zc7 Sk (k:Int)=2∧((2:Int)=2∨(2:Int)=3) from⟨by rw[HNX.out,if_neg (fun h=>har h.2)],.inl rfl⟩);clear har HNX;go_upto_region 16 with (fail)
       clear hab;obtain⟨es6,ck6,HM6,H6⟩:∃ es6 ck6,Hid (MapL es6 ck6 (svL (l++[(k,2)])))∧Hid (Same w w5∧Sat w5 (zac SH p Sk*(pts mB (.map es6 ck6)*(pts cB (.cells #[ge,gc,(sq:Int),.string (zae im)] TCk (0,0))*((pts nB (.cells #[ne,nc,nsq,.string (zae ni)] TCk (0,0))*X)*F))))):=⟨es4,ck4,HM4,H4⟩;clear H4 HM4;generalize w5=w6 at H6 ⊢;have hlk:=zdb (P:=prog) (w:=w6) underlying90 underlying3 (zky w6) (zcp H6.out.2).2.2.2.2.2.2 HM6.out (k:Int);rw[zj3 HK.out.2] at hlk;simp only[Option.getD_some] at hlk;obtain⟨q0,q1,q2,q3,-,-,-⟩:=zcp H6.out.2
       obtain⟨⟨S7,e7⟩,hwk⟩:∃ r,zbH Sk (k:Int) 2 ⟨⟨ge,gc⟩,(sq:Int),im⟩=r:=⟨_,rfl⟩;have hwr:=zfi p Sk _ (k:Int) 2 ge gc sq im hsq HPC.out.2 (zei (c:=⟨⟨ge,gc⟩,(sq:Int),im⟩) ⟨by omega,by have:=HM64.out;have:=HLT.out;omega⟩ HA.out.2 HGO.out HPC.out.1) w6 H6.out.2;unfold zjQ at hwr;rw[hwk] at hwr;have HW:=zh hwr;have HWK:=zh hwk;clear hwr hwk;go_upto_region 17 with (go_at_call 37;refine HW.out.mono ?_;rintro e w7 ⟨rfl,h7⟩;replace H6:=(zd (H6.out.1.trans h7.out.1) h7.out.2);clear h7)
       clear q0 q1 q2 q3 hlk HW
       by_cases he7:e7=0
       case pos =>
        subst he7;go_wp2
        go_roundw
        case rel=>exact⟨⟨k+1,S7,l++[(k,2)],es6,ck6,pts nB (.cells #[ne,nc,nsq,.string (zae ni)] TCk (0,0))*X,HLT.out,by rw[List.length_append];exact Nat.succ_le_succ HLL.out,congrArg (Value.int .i64) (by omega),zh ⟨by rw[HK.out.1,show m - k=(m - (k+1))+1 by have:=HLT.out;omega,zdZ HST.out (by rw[HA.out.1,HWK.out]),HA.out.1,HWK.out],fun x hx=>by
         rcases List.mem_append.1 hx with h|h
         ·exact Nat.lt_succ_of_lt (HK.out.2 x h)
         ·rw[List.mem_singleton.1 h];exact Nat.lt_succ_self k⟩,HM6,H6⟩⟩
        case measure=>have:=HLT.out;simp[intOf];omega
       case neg =>
        have hed:(e7 != 0)=true:=bne_iff_ne.2 he7
        have HE:=zh (show R=(S7,0,e7) from by
         rw[HR.out,HK.out.1,show m - k=(m - (k+1))+1 by have:=HLT.out;omega,zdj HST.out (by rw[HA.out.1,HWK.out];exact he7),HA.out.1,HWK.out,if_pos he7])
        clear he7;go_wp2;go_ret2;unfold zff;rw[HE.out];exact⟨rfl,zhm H6.out.1 H6.out.2⟩
     case neg =>
      have heb:(en==0)=false:=by simp[hen]
      have HA:=zh (show zc7 Sk (k:Int)=2∧((2:Int)=2∨(2:Int)=3) from⟨by rw[HNX.out,if_neg (fun h=>hen h.1)],.inl rfl⟩);clear hen HNX;go_upto_region 16 with (fail)
      clear heb;obtain⟨es6,ck6,HM6,H6⟩:∃ es6 ck6,Hid (MapL es6 ck6 (svL (l++[(k,2)])))∧Hid (Same w w5∧Sat w5 (zac SH p Sk*(pts mB (.map es6 ck6)*(pts cB (.cells #[ge,gc,(sq:Int),.string (zae im)] TCk (0,0))*((pts nB (.cells #[ne,nc,nsq,.string (zae ni)] TCk (0,0))*X)*F))))):=⟨es4,ck4,HM4,H4⟩;clear H4 HM4;generalize w5=w6 at H6 ⊢;have hlk:=zdb (P:=prog) (w:=w6) underlying90 underlying3 (zky w6) (zcp H6.out.2).2.2.2.2.2.2 HM6.out (k:Int);rw[zj3 HK.out.2] at hlk;simp only[Option.getD_some] at hlk;obtain⟨q0,q1,q2,q3,-,-,-⟩:=zcp H6.out.2
      obtain⟨⟨S7,e7⟩,hwk⟩:∃ r,zbH Sk (k:Int) 2 ⟨⟨ge,gc⟩,(sq:Int),im⟩=r:=⟨_,rfl⟩;have hwr:=zfi p Sk _ (k:Int) 2 ge gc sq im hsq HPC.out.2 (zei (c:=⟨⟨ge,gc⟩,(sq:Int),im⟩) ⟨by omega,by have:=HM64.out;have:=HLT.out;omega⟩ HA.out.2 HGO.out HPC.out.1) w6 H6.out.2;unfold zjQ at hwr;rw[hwk] at hwr;have HW:=zh hwr;have HWK:=zh hwk;clear hwr hwk;go_upto_region 17 with (go_at_call 37;refine HW.out.mono ?_;rintro e w7 ⟨rfl,h7⟩;replace H6:=(zd (H6.out.1.trans h7.out.1) h7.out.2);clear h7)
      clear q0 q1 q2 q3 hlk HW
      by_cases he7:e7=0
      case pos =>
       subst he7;go_wp2
       go_roundw
       case rel=>exact⟨⟨k+1,S7,l++[(k,2)],es6,ck6,pts nB (.cells #[ne,nc,nsq,.string (zae ni)] TCk (0,0))*X,HLT.out,by rw[List.length_append];exact Nat.succ_le_succ HLL.out,congrArg (Value.int .i64) (by omega),zh ⟨by rw[HK.out.1,show m - k=(m - (k+1))+1 by have:=HLT.out;omega,zdZ HST.out (by rw[HA.out.1,HWK.out]),HA.out.1,HWK.out],fun x hx=>by
        rcases List.mem_append.1 hx with h|h
        ·exact Nat.lt_succ_of_lt (HK.out.2 x h)
        ·rw[List.mem_singleton.1 h];exact Nat.lt_succ_self k⟩,HM6,H6⟩⟩
       case measure=>have:=HLT.out;simp[intOf];omega
      case neg =>
       have hed:(e7 != 0)=true:=bne_iff_ne.2 he7
       have HE:=zh (show R=(S7,0,e7) from by
        rw[HR.out,HK.out.1,show m - k=(m - (k+1))+1 by have:=HLT.out;omega,zdj HST.out (by rw[HA.out.1,HWK.out];exact he7),HA.out.1,HWK.out,if_pos he7])
       clear he7;go_wp2;go_ret2;unfold zff;rw[HE.out];exact⟨rfl,zhm H6.out.1 H6.out.2⟩
    ·have hsb:(Sk.state (k:Int) != 1)=true:=bne_iff_ne.2 hst
     have HST:=zh hst;generalize Sk.state (k:Int)=st at HSTA hsb;clear hst hlt hk;go_wp2_with (go_at_call 36;refine HSTA.out.mono ?_;rintro e w2 ⟨rfl,rfl⟩)
     go_roundw
     case rel=>exact⟨⟨k+1,Sk,l,es,ck,X,HLT.out,Nat.le_succ_of_le HLL.out,congrArg (Value.int .i64) (by omega),zh ⟨by rw[HK.out.1,show m - k=(m - (k+1))+1 by have:=HLT.out;omega,zek HST.out],fun x hx=>Nat.lt_succ_of_lt (HK.out.2 x hx)⟩,HM,H1⟩⟩
     case measure=>have:=HLT.out;simp[intOf];omega
   ·have hltd:decide ((k:Int)<(m:Int))=false:=decide_eq_false (by omega)
    have hki:¬ (k:Int)<(m:Int):=by omega
    obtain rfl:k=m:=by omega
    have hsf:za6 ⟨⟨ge,gc⟩,(sq:Int),im⟩ S [] 0 k=(Sk,l,0):=HK.out.1.trans (by rw[Nat.sub_self];rfl);have HR2:=zh (show R=if l=[] then (Sk,0,15) else (Sk,(zen Sk ⟨⟨ge,gc⟩,(sq:Int),im⟩ l:Int),0) from by rw[HR.out,hsf];rfl);have hlen:=zo6 (P:=prog) underlying90 (zcp H1.out.2).2.2.2.2.2.2 HM.out;rw[show (svL l).length=l.length by simp[svL]] at hlen;clear hlt hsf
    by_cases hln:l=[]
    ·subst hln
     have HE:=zh (show R=(Sk,0,15) from HR2.out);simp only[List.length_nil] at hlen;go_wp2;go_ret2;unfold zff;rw[HE.out];exact⟨rfl,zhm H1.out.1 H1.out.2⟩
    ·have hpos:0<l.length:=List.length_pos_iff.2 hln
     have hne:((l.length:Int)==0)=false:=beq_eq_false_iff_ne.2 (by omega);have HE:=zh (show R=(Sk,(zen Sk ⟨⟨ge,gc⟩,(sq:Int),im⟩ l:Int),0) from by rw[HR2.out,if_neg hln]);have hrg:=zeG (P:=prog) underlying90 (zcp H1.out.2).2.2.2.2.2.2;clear hln;go_upto_region 24 with (fail)
     have H7:=zh (show Same w (wr.alloc (.mapIter (some mB) ck #[] ck))∧Sat (wr.alloc (.mapIter (some mB) ck #[] ck)) (pts wr.heap.size (.mapIter (some mB) ck #[] ck)*(pts mB (.map es ck)*(zac SH p Sk*(pts cB (.cells #[ge,gc,(sq:Int),.string (zae im)] TCk (0,0))*(X*F))))) from⟨H1.out.1.alloc _,(H1.out.2.alloc _).perm (by ac_rfl)⟩);clear hrg hlen H1 hne hpos;generalize wr.alloc (.mapIter (some mB) ck #[] ck)=w8 at H7 ⊢;generalize wr.heap.size=it at H7 ⊢;have HES:=zh (show es.size≤64 from by rw[HM.out.size];simp only[svL,List.length_map];have:=HLL.out;have:=HM64.out;omega)
     go_loopw [12] (fun nv wq=>LpS w p ⟨⟨ge,gc⟩,(sq:Int),im⟩ Sk mB cB it #[ge,gc,(sq:Int),.string (zae im)] F es ck nv wq) (fun _ wq=>zqT mB it wq)
     case atStart=>exact⟨⟨#[],X,by rw[List.filter_eq_nil_iff.2 (by simp)];rfl,H7.out⟩⟩
     case round =>
      clear H7;obtain⟨seen,Y,hnv,H7⟩:=hrel.st;clear hrel;obtain⟨n,hn⟩:∃ n,(es.toList.filter fun x=>seen.toList.contains x.born&&zdw Sk ⟨⟨ge,gc⟩,(sq:Int),im⟩ x).length=n:=⟨_,rfl⟩;rw[hn] at hnv;subst hnv
      have hn64:n≤64:=by rw[← hn];have h1:=List.length_filter_le (fun x:MapEntry=>seen.toList.contains x.born&&zdw Sk ⟨⟨ge,gc⟩,(sq:Int),im⟩ x) es.toList;simp only[Array.length_toList] at h1;have:=HES.out;omega
      have hM:=HM.out;rcases zfs (P:=prog) H7.out.2.block H7.out.2.right.block hM with ⟨hall,W,hnx,hW⟩|⟨e,he,hes,w0,hw0,hnx⟩
      ·have hsW:Same w W∧Sat W (zac SH p Sk*(pts mB (.map es ck)*(pts cB (.cells #[ge,gc,(sq:Int),.string (zae im)] TCk (0,0))*(Y*F)))):=by
        rcases hW with rfl|rfl
        ·exact⟨H7.out.1,H7.out.2.right.perm (za0 _ _ _)⟩
        ·exact⟨H7.out.1.drew,H7.out.2.right.drew.perm (za0 _ _ _)⟩
       have hcnt:n=zen Sk ⟨⟨ge,gc⟩,(sq:Int),im⟩ l:=by
        rw[← hn,← zqb hM];congr 1
        refine List.filter_congr fun x hx=>?_
        have:=hall x hx;simp[this]
       have H8:=zh hsW;have HC:=zh hcnt;clear hM hn hcnt hsW hW hall H7 hn64;go_wp2_with ((with_reducible (apply zcg (h:=hnx)));rfl;rfl;rfl);go_ret2;unfold zff;rw[HE.out,← HC.out];exact⟨rfl,zhm H8.out.1 H8.out.2⟩
      ·obtain⟨x,hx,hkey,hval⟩:=zq9 hM he
       have hs0:Same w w0∧Sat w0 (pts it (.mapIter (some mB) ck seen ck)*(pts mB (.map es ck)*(zac SH p Sk*(pts cB (.cells #[ge,gc,(sq:Int),.string (zae im)] TCk (0,0))*(Y*F))))):=by
        rcases hw0 with rfl|rfl
        ·exact H7.out
        ·exact⟨H7.out.1.drew,H7.out.2.drew⟩
       have H8:=(zd (hs0.1.setBlock (r:=it) (.mapIter (some mB) ck (seen.push e.born) ck)) (hs0.2.setBlock (o':=.mapIter (some mB) ck (seen.push e.born) ck)));have hen:=zgk (P:=prog) H8.out.2.block H8.out.2.right.block hM he (by simp);have hes':e.born ∉ seen.toList:=hes;have hst:=zh8 (zdw Sk ⟨⟨ge,gc⟩,(sq:Int),im⟩) seen.toList e hes' es.toList hM.born he;rw[hn] at hst;have HUN:=zh (zoe hM.born he hes');have HU0:=zh (show zqT mB it wr=es.size - (es.toList.filter fun x=>seen.toList.contains x.born&&true).length from by unfold zqT;rw[H7.out.2.right.block,H7.out.2.block])
       have hgd:zdw Sk ⟨⟨ge,gc⟩,(sq:Int),im⟩ e=decide (zaS Sk (x.1:Int) x.2=(⟨⟨ge,gc⟩,(sq:Int),im⟩,0)):=by unfold zdw;rw[hkey,hval];rfl
       rw[hkey,hval] at hnx hen;obtain⟨⟨⟨⟨ne,nc⟩,nsq,ni⟩,en⟩,hrd⟩:∃ r,zaS Sk (x.1:Int) x.2=r:=⟨_,rfl⟩;have hRD:=zeM p Sk _ (x.1:Int) x.2 _ (H8.out.2.perm (show _=zac SH p Sk*(pts it (.mapIter (some mB) ck (seen.push e.born) ck)*(pts mB (.map es ck)*(pts cB (.cells #[ge,gc,(sq:Int),.string (zae im)] TCk (0,0))*(Y*F)))) from by ac_rfl));rw[hrd] at hRD hgd;rw[hgd] at hst;have HRD:=zh hRD;have HST:=zh (show (es.toList.filter fun x=>(seen.push e.born).toList.contains x.born&&zdw Sk ⟨⟨ge,gc⟩,(sq:Int),im⟩ x).length=n+(if decide (((⟨⟨ne,nc⟩,nsq,ni⟩:CkM),en)=(⟨⟨ge,gc⟩,(sq:Int),im⟩,(0:Int)))=true then 1 else 0) from by rw[Array.toList_push];exact hst)
       clear hM hn hs0 hw0 hes hes' hst hgd hrd hRD hkey hval he H7;generalize setBlock w0 it (.mapIter (some mB) ck (seen.push e.born) ck)=W1 at hnx hen H8 HRD
       go_upto_region 26 with (first
        | ((with_reducible (apply zcg (h:=hnx)));rfl;rfl;rfl)
        | ((with_reducible (apply zep (h:=hen)));rfl;rfl;rfl))
       clear hnx hen;go_upto_region 27 with (go_at_call 20;refine HRD.out.mono ?_;rintro e w9 ⟨rfl,h2,h3⟩;replace H8:=(zd (H8.out.1.trans h2) h3);clear h2 h3;unfold ckA)
       clear HRD;replace H8:=(zd (H8.out.1.alloc (.cells #[ne,nc,nsq,.string (zae ni)] TCk)) ((H8.out.2.alloc (.cells #[ne,nc,nsq,.string (zae ni)] TCk)).perm (show _=pts it (.mapIter (some mB) ck (seen.push e.born) ck)*(pts mB (.map es ck)*(zac SH p Sk*(pts cB (.cells #[ge,gc,(sq:Int),.string (zae im)] TCk (0,0))*((pts w9.heap.size (.cells #[ne,nc,nsq,.string (zae ni)] TCk (0,0))*Y)*F)))) from by ac_rfl)));generalize w9.alloc (.cells #[ne,nc,nsq,.string (zae ni)] TCk)=wz at H8 ⊢;generalize w9.heap.size=nB at H8 ⊢
       have hwn:IntKind.i64.wrap ((n:Int)+1)=(n:Int)+1:=IntWalk.i64_in _ (by omega)
       by_cases hen0:en=0
       case neg =>
        have heb:(en==0)=false:=by simp[hen0]
        have HCN:=zh (show (es.toList.filter fun x=>(seen.push e.born).toList.contains x.born&&zdw Sk ⟨⟨ge,gc⟩,(sq:Int),im⟩ x).length=n from by rw[HST.out,if_neg (by simp[hen0])];rfl);clear hen0;go_wp2
        go_roundw
        case rel=>exact⟨⟨seen.push e.born,pts nB (.cells #[ne,nc,nsq,.string (zae ni)] TCk (0,0))*Y,by rw[HCN.out];try exact congrArg (Value.int .i64) (by omega),zh ⟨H8.out.1,H8.out.2⟩⟩⟩
        case measure=>rw[HU0.out];unfold zqT;rw[H8.out.2.right.block,H8.out.2.block];simpa using HUN.out
       case pos =>
        subst hen0;obtain⟨b,hb⟩:∃ b,decide ((⟨⟨ne,nc⟩,nsq,ni⟩:CkM)=⟨⟨ge,gc⟩,(sq:Int),im⟩)=b:=⟨_,rfl⟩;have HCN0:=zh (show (es.toList.filter fun x=>(seen.push e.born).toList.contains x.born&&zdw Sk ⟨⟨ge,gc⟩,(sq:Int),im⟩ x).length=n+(if b=true then 1 else 0) from by rw[HST.out,← hb];simp);obtain⟨q0,q1,q2,q3,-⟩:=zo8 H8.out.2;have hnb:=(H8.out.2.perm (show _=pts nB (.cells #[ne,nc,nsq,.string (zae ni)] TCk (0,0))*(pts it (.mapIter (some mB) ck (seen.push e.born) ck)*(pts mB (.map es ck)*(zac SH p Sk*(pts cB (.cells #[ge,gc,(sq:Int),.string (zae im)] TCk (0,0))*(Y*F))))) from by ac_rfl)).block
        have r0:=zab hnb 0;have r1:=zab hnb 1;have r2:=zab hnb 2;have r3:=zab hnb 3;simp only[List.getElem?_toArray,List.getElem?_cons_zero,List.getElem?_cons_succ] at r0 r1 r2 r3;clear hnb;refine wp_region_lit ?_;(apply zag rfl);(go_simp;first|rfl|exact⟨rfl,rfl⟩);simp only[Act.put,zq];(apply zag rfl);(go_simp;first|rfl|exact⟨rfl,rfl⟩);simp only[Act.put,zq];(apply zag rfl);(go_simp;first|rfl|exact⟨rfl,rfl⟩);simp only[Act.put,zq];(apply zag rfl);(go_simp;first|rfl|exact⟨rfl,rfl⟩);simp only[Act.put,zq];(apply zag rfl);(go_simp;first|rfl|exact⟨rfl,rfl⟩);simp only[Act.put,zq]
        refine zag (v:=.bool b) rfl (ziU zm4 rfl rfl rfl (by rw[zq8,hb])) ?_;simp only[Act.put,zq];clear hb q0 q1 q2 q3 r0 r1 r2 r3;cases b
        case false =>
         have HCN:=zh (show (es.toList.filter fun x=>(seen.push e.born).toList.contains x.born&&zdw Sk ⟨⟨ge,gc⟩,(sq:Int),im⟩ x).length=n from HCN0.out);go_wp2
         go_roundw
         case rel=>exact⟨⟨seen.push e.born,pts nB (.cells #[ne,nc,nsq,.string (zae ni)] TCk (0,0))*Y,by rw[HCN.out];try exact congrArg (Value.int .i64) (by omega),zh ⟨H8.out.1,H8.out.2⟩⟩⟩
         case measure=>rw[HU0.out];unfold zqT;rw[H8.out.2.right.block,H8.out.2.block];simpa using HUN.out
        case true =>
         have HCN:=zh (show (es.toList.filter fun x=>(seen.push e.born).toList.contains x.born&&zdw Sk ⟨⟨ge,gc⟩,(sq:Int),im⟩ x).length=n+1 from HCN0.out);go_wp2
         go_roundw
         case rel=>exact⟨⟨seen.push e.born,pts nB (.cells #[ne,nc,nsq,.string (zae ni)] TCk (0,0))*Y,by rw[HCN.out];try exact congrArg (Value.int .i64) (by omega),zh ⟨H8.out.1,H8.out.2⟩⟩⟩
         case measure=>rw[HU0.out];unfold zqT;rw[H8.out.2.right.block,H8.out.2.block];simpa using HUN.out
end Go.Proofs.YtmcclbiaoeilkaaGreat
