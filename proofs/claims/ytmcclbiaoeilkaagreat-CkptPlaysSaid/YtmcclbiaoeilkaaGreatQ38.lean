import Derived.OrdersIn
import Derived.RangeFuncWrites
import Derived.WalkIn
import Derived.TacticsInMore
import Derived.LoopNIn
import Derived.LoopIn
import Derived.Test.YtmcclbiaoeilkaaGreatQ37
set_option maxHeartbeats 2000000
set_option maxRecDepth 100000
/- Part 38 of a proof;the last part says what is proved. -/
section
namespace Go.Sl
open Go Go.RowKit
structure Free (F:Fence)(P:Program):Prop where
 round:F.round=none
 depth:F.depth=none
 fn:∀ f,F.fn f
 calls:∀ (n:Nat) (f:FuncId) (args:Array Value) (w:World) (R:Ending→World→Prop),Calls P f args w R→CallsIn F n P f args w R
theorem zm1 (P:Program):Free Fence.wide P:=⟨rfl,rfl,fun _=>trivial,fun _ _ _ _ _ h=>callsIn_wide.2 h⟩
theorem Free.callsR {F:Fence}{P:Program}(h:Free F P)(l n:Nat){f:FuncId}{args:Array Value}{w:World}{R:Ending→World→Prop}(hc:Calls P f args w R):CallsIn (F.inRound l) n P f args w R:=h.calls n f args w R hc
theorem Free.ask {F:Fence}{P:Program}(h:Free F P)(k:Nat):(F.depth.isSome=true→1≤k):=fun h2=>by rw[h.depth] at h2;cases h2
section
variable {F:Fence} {n:Nat} {P:Program} {ops:Array Oper} {Q:Exit→Act→World→Prop} {S:World→Prop}
theorem YieldsIf.wpOpI (hF:Free F P){i:Nat}{o:Oper}{v:Value}{a:Act}(hi:ops[i]?=some o)(hy:YieldsIf P ops S o v a){K:Act→World→Prop}{w:World}(hS:S w)(h:K (a.put o.dst v) w):wpOpIn F n P ops Q i K a w:=by
 unfold Go.wpOpIn;simp only[hi];rcases hy with ⟨hw,hv⟩|⟨hw,rfl⟩
 ·simp only[hw,if_true,Oper.wpIn,hF.round,Oper.semAt_none,hv w hS,Oper.uponIn];exact⟨fun _ _=>hF.fn _,h⟩
 ·simp only[hw,Bool.false_eq_true,if_false];exact⟨fun _ _=>hF.fn _,h⟩
theorem zok (hF:Free F P){j:Nat}{oi oj:Oper}{v:Value}(hj:ops[j]?=some oj)(hap:oi.apart ops oj=true)(hsi:∀ cs b,oi.op ≠ .select cs b)(hsj:∀ cs b,oj.op ≠ .select cs b)
  (hQ:∀ c a w,Q (.panic c) (a.put oi.dst v) w→Q (.panic c) a w) {K:Act→World→Prop} {a:Act} {w:World} (hy:YieldsIf P ops S oi v a) (h:wpOpIn F n P ops Q j K (a.put oi.dst v) w):
  wpOpIn F n P ops Q j (fun a' w'=>YieldsIf P ops S oi v a'∧K (a'.put oi.dst v) w') a w:=by
 obtain⟨h1,h2,h3⟩:=Oper.apart_spec hap
 have keep:∀ b:Act,YieldsIf P ops S oi v b→∀ u,YieldsIf P ops S oi v (b.put oj.dst u):=fun b hb u=>hb.of_same (execOp_put oi hsi b oj.dst u h3) (wanted_put oi b oj.dst u h3)
 unfold wpOpIn at *
 simp only[hj] at *
 rw[wanted_put oj a oi.dst v h1] at h
 cases hw:Region.wanted oj (yielded ops a.tmps) with
 | false =>
  simp only[hw,Bool.false_eq_true,if_false] at h ⊢;exact⟨fun _ _=>hF.fn _,keep a hy _,by rw[← Act.put_comm a v undef h2];exact h.2⟩
 | true =>
  simp only[hw,if_true] at h ⊢
  unfold Oper.wpIn at *
  refine⟨fun _ _=>hF.fn _,?_⟩;have h:=h.2;rw[hF.round,Oper.semAt_none,execOp_put oj hsj a oi.dst v h1] at h;rw[hF.round,Oper.semAt_none]
  cases hr:(execOp a.eval oj).run P w with
  | ok x w' =>
   rw[hr] at h
   cases x <;> simp only[Oper.uponIn] at h ⊢
   case value u=>exact⟨keep a hy u,by rw[← Act.put_comm a v u h2];exact h⟩
   case skip=>exact⟨keep a hy _,by rw[← Act.put_comm a v undef h2];exact h⟩
   case defer d =>
    refine⟨keep ⟨a.tmps,d::a.defers⟩ (hy.of_same rfl rfl) _,?_⟩;rw[← Act.put_comm _ v undef h2,← Act.put_defers];exact h
   case enter f args =>
    refine⟨h.1,CallsIn.mono h.2 fun e w'' he=>?_⟩
    cases e with
    | returned u=>exact⟨keep a hy u,by rw[← Act.put_comm a v u h2];exact he⟩
    | panicked c=>exact hQ _ _ _ he
    | outgrown=>exact he
   case row row args=>exact⟨h.1,RowsIn.mono h.2 fun u w'' he=>⟨keep a hy u,by rw[← Act.put_comm a v u h2];exact he⟩⟩
   case round l f tmps assign body =>
    refine⟨h.1,RoundIn.mono h.2 fun e w'' he=>?_⟩
    cases e with
    | returned u=>exact⟨keep a hy u,by rw[← Act.put_comm a v u h2];exact he⟩
    | panicked c=>exact hQ _ _ _ he
    | outgrown=>exact he
  | halt x w' =>
   rw[hr] at h
   cases x <;> simp only[Oper.uponIn] at h ⊢
   exact hQ _ _ _ h
def zrw (ops:Array Oper)(j:Nat):Bool:=(List.range ops.size).all fun i=>i==j || zg1 ops 12 j i || zg1 ops 12 i j
theorem zqn {i j:Nat}{listed:Array Bool}(hc:Closed ops listed)(hi:i ∈ Region.ready .any ops listed)(hj:j ∈ Region.ready .any ops listed)(hne:j≠i):zrw ops j=false:=by
 obtain⟨hiun,oi,hoi,halli⟩:=mem_ready.1 hi;obtain⟨hjun,oj,hoj,hall⟩:=mem_ready.1 hj
 cases ht:zrw ops j with
 | false=>rfl
 | true =>
  exfalso
  unfold zrw at ht;have hisz:i<ops.size:=(Array.getElem?_eq_some_iff.1 hoi).1;have h1:=List.all_eq_true.1 ht i (by simp[hisz])
  have h2:(i==j)=false:=by simp;exact Ne.symm hne
  rw[h2,Bool.false_or,Bool.or_eq_true] at h1;rcases h1 with h1|h1
  ·have h3:=hc.reach _ j i oj hoj hall h1
   rcases Nat.lt_or_ge i listed.size with h'|h'
   ·simp[h'] at hiun h3;rw[hiun] at h3;cases h3
   ·simp[Array.getElem?_eq_none h'] at h3
  ·have h3:=hc.reach _ i j oi hoi halli h1
   rcases Nat.lt_or_ge j listed.size with h'|h'
   ·simp[h'] at hjun h3;rw[hjun] at h3;cases h3
   ·simp[Array.getElem?_eq_none h'] at h3
def zhp (F:Fence)(n:Nat)(P:Program)(ops:Array Oper)(Q:Exit→Act→World→Prop)(S:World→Prop):Nat→Array Bool→Act→World→Prop
 | 0,listed,a,w=>Region.ready .any ops listed=[]∧Q .normal a w
 | fuel+1,listed,a,w =>
  (Region.ready .any ops listed=[]→Q .normal a w)∧
  ∀ i ∈ Region.ready .any ops listed,wpOpIn F n P ops Q i (fun a' w'=>(zrw ops i=true∨S w')∧zhp F n P ops Q S fuel (listed.setIfInBounds i true) a' w') a w
theorem zfU:∀ (fuel:Nat) (listed:Array Bool) (a:Act) (w:World),zhp F n P ops Q S fuel listed a w→wpAnyIn F n P .any ops Q fuel listed a w
 | 0,_,_,_,h=>h
 | fuel+1,_,_,_,h=>⟨h.1,fun i hi=>wpOpIn_mono (fun a' w' h'=>zfU fuel _ a' w' h'.2) (h.2 i hi)⟩
theorem ziB (hF:Free F P){i:Nat}{oi:Oper}{v:Value}(hi:ops[i]?=some oi)(hsel:∀ (j:Nat) (o:Oper) cs b,ops[j]?=some o→o.op ≠ .select cs b)
  (hQ:∀ c a w,Q (.panic c) (a.put oi.dst v) w→Q (.panic c) a w):
  ∀ (fuel:Nat) (listed:Array Bool) (a:Act) (w:World),Closed ops listed →
   (∀ j oj,ops[j]?=some oj→j≠i→listed.getD j true=false→(∀ e ∈ oj.after,Region.binds .any e=true→e.on≠i)→oi.apart ops oj=true) →
   i ∈ Region.ready .any ops listed→YieldsIf P ops S oi v a→S w →
   zhp F n P ops Q S fuel (listed.setIfInBounds i true) (a.put oi.dst v) w→zhp F n P ops Q S (fuel+1) listed a w:=by
 intro fuel
 induction fuel with
 | zero =>
  intro listed a w _ _ hr hy hS H;refine⟨fun h=>(by rw[h] at hr;cases hr),fun j hj=>?_⟩
  by_cases hji:j=i
  ·subst hji;exact YieldsIf.wpOpI hF hi hy hS ⟨.inr hS,H⟩
  ·have:=ready_mono hj hji
   rw[H.1] at this;cases this
 | succ fuel ih =>
  intro listed a w hc hfree hr hy hS H;refine⟨fun h=>(by rw[h] at hr;cases hr),fun j hj=>?_⟩
  by_cases hji:j=i
  ·subst hji;exact YieldsIf.wpOpI hF hi hy hS ⟨.inr hS,H⟩
  ·have h1:=H.2 j (ready_mono hj hji)
   obtain⟨hjun,oj,hoj,hall⟩:=mem_ready.1 hj
   have hnot:∀ e ∈ oj.after,Region.binds .any e=true→e.on≠i:=fun e he hb heq=>by
    have h1:=hall e he hb;have h0:=(mem_ready.1 hr).1;rw[heq] at h1;rcases Nat.lt_or_ge i listed.size with h'|h'
    ·simp[h'] at h0 h1;rw[h0] at h1;cases h1
    ·simp[Array.getElem?_eq_none h'] at h1
   have h2:=zok hF hoj (hfree j oj hoj hji hjun hnot) (fun cs b=>hsel i oi cs b hi) (fun cs b=>hsel j oj cs b hoj) hQ hy h1
   have hfree':∀ k ok,ops[k]?=some ok→k≠i→(listed.setIfInBounds j true).getD k true=false →
     (∀ e ∈ ok.after,Region.binds .any e=true→e.on≠i)→oi.apart ops ok=true:=fun k ok hk hki hun hno=>by
    refine hfree k ok hk hki ?_ hno
    by_cases hjk:j=k
    ·subst hjk;exact hjun
    ·rw[getD_set_ne true hjk] at hun;exact hun
   have hnt:=zqn hc hr hj hji;refine wpOpIn_mono (fun a' w' h3=>?_) h2
   have hS':S w':=by
    rcases h3.2.1 with h|h
    ·rw[hnt] at h;cases h
    ·exact h
   refine⟨.inr hS',ih (listed.setIfInBounds j true) a' w' (hc.set hj) hfree' (ready_mono hr (Ne.symm hji)) h3.1 hS' ?_⟩;rw[Array.setIfInBounds_comm _ _ hji];exact h3.2.2
end
structure zlq (F:Fence)(n:Nat)(P:Program)(ops:Array Oper)(Q:Exit→Act→World→Prop)(S:World→Prop)(fuel:Nat)(listed:Array Bool)(t:Array Value)(df:List Deferred)(w:World):Prop where
 out:Closed ops listed→zhp F n P ops (NoPanic Q) S fuel listed ⟨t,df⟩ w
section
variable {F:Fence} {n:Nat} {P:Program} {ops:Array Oper} {Q:Exit→Act→World→Prop} {S:World→Prop} {fuel:Nat} {listed:Array Bool} {t:Array Value} {df:List Deferred} {w:World}
theorem zl4 (S:World→Prop){id:Nat}(hm:P.follows .mixedOrders=true)(h:zlq F n P ops Q S ops.size (Array.replicate ops.size false) t df w.drew):(Code.region id ops true).wpIn F n P Q ⟨t,df⟩ w:=
 wpIn_mono (wpIn_region_any hm (zfU _ _ _ _ (h.out (Closed.init ops)))) NoPanic.imp
theorem zc0 (hF:Free F P)(i:Nat){o:Oper}{d:Tmp}{v:Value}(ho:ops[i]?=some o)(hd:o.dst=some d)(hck:zgp ops listed i=true)(hw:Region.wanted o (yielded ops t)=true)
  (hr:∀ w',S w'→(execOp (Act.eval ⟨t,df⟩) o).run P w' = .ok (.value v) w') (hS:S w)
  (k:zlq F n P ops Q S fuel (listed.setIfInBounds i true) (t.setIfInBounds d v) df w):zlq F n P ops Q S (fuel+1) listed t df w:=by
 simp only[zgp,Bool.and_eq_true] at hck
 exact⟨fun hc=>ziB hF ho (Region.noSelect_spec hck.1.1) (fun _ _ _ h=>h) _ _ _ _ hc (Region.free_spec ho hck.1.2) (by simpa using hck.2) (.inl ⟨hw,hr⟩) hS (by rw[hd];exact k.out (hc.set (by simpa using hck.2)))⟩
theorem zkf (hF:Free F P)(i:Nat){o:Oper}(ho:ops[i]?=some o)(hck:zcD ops listed i=true)(hw:Region.wanted o (yielded ops t)=true)
  (k:o.uponIn F n P ⟨t,df⟩ (fun a' w'=>S w'∧zlq F n P ops Q S fuel (listed.setIfInBounds i true) a'.tmps a'.defers w') (NoPanic Q) ((execOp (Act.eval ⟨t,df⟩) o).run P w)):zlq F n P ops Q S (fuel+1) listed t df w:=by
 have hck':Region.ready .any ops listed=[i]:=by simpa [zcD] using hck
 constructor
 intro hc;have hci:Closed ops (listed.setIfInBounds i true):=hc.set (by rw[hck'];simp);refine⟨fun h=>(by rw[hck'] at h;cases h),fun j hj=>?_⟩;rw[hck'] at hj
 obtain rfl:j=i:=by simpa using hj
 unfold wpOpIn;simp only[ho,hw,if_true];refine Oper.wpIn_mono (K:=fun a' w'=>S w'∧zlq F n P ops Q S fuel (listed.setIfInBounds j true) a'.tmps a'.defers w') (fun a' w' h=>⟨.inr h.1,h.2.out hci⟩) ?_;unfold Oper.wpIn;rw[hF.round,Oper.semAt_none];exact⟨fun _ _=>hF.fn _,k⟩
theorem zk4 (hF:Free F P)(i:Nat){o:Oper}{d:Tmp}(v:Value)(w':World)(ho:ops[i]?=some o)(hd:o.dst=some d)(hck:zcD ops listed i=true)(hw:Region.wanted o (yielded ops t)=true)
  (hr:(execOp (Act.eval ⟨t,df⟩) o).run P w = .ok (.value v) w') (hS:S w')
  (k:zlq F n P ops Q S fuel (listed.setIfInBounds i true) (t.setIfInBounds d v) df w'):zlq F n P ops Q S (fuel+1) listed t df w:=
 zkf hF i ho hck hw (by rw[hr];simp only[Oper.uponIn,hd,zeZ];exact⟨hS,k⟩)
theorem zjm (hF:Free F P)(i:Nat){o:Oper}{d:Tmp}{f:FuncId}{args:Array Value}{R:Value→World→Prop}(ho:ops[i]?=some o)(hd:o.dst=some d)(hck:zcD ops listed i=true)(hw:Region.wanted o (yielded ops t)=true)
  (hr:(execOp (Act.eval ⟨t,df⟩) o).run P w = .ok (.enter f args) w) (hc:Calls P f args w fun e w'=>∃ v,e = .returned v∧R v w')
  (k:∀ v w',R v w'→S w'∧zlq F n P ops Q S fuel (listed.setIfInBounds i true) (t.setIfInBounds d v) df w'):zlq F n P ops Q S (fuel+1) listed t df w:=
 zkf hF i ho hck hw (by
  rw[hr];refine⟨hF.ask _,(hF.calls _ _ _ _ _ hc).mono ?_⟩;rintro e w' ⟨v,rfl,h⟩;simp only[hd,zeZ]
  exact k v w' h)
theorem zl5 (hF:Free F P)(i:Nat){o:Oper}{d l:Nat}{f:FuncId}{tmps:Array Value}{assign body:Code}{w1:World}{R:Value→World→Prop}(ho:ops[i]?=some o)(hd:o.dst=some d)(hck:zcD ops listed i=true)(hw:Region.wanted o (yielded ops t)=true)
  (hr:(execOp (Act.eval ⟨t,df⟩) o).run P w = .ok (.round l f tmps assign body) w1) (hc:RoundIn F (n - 1) P l f tmps assign body w1 fun e w'=>∃ v,e = .returned v∧R v w')
  (k:∀ v w',R v w'→S w'∧zlq F n P ops Q S fuel (listed.setIfInBounds i true) (t.setIfInBounds d v) df w'):zlq F n P ops Q S (fuel+1) listed t df w:=
 zkf hF i ho hck hw (by
  rw[hr];refine⟨hF.ask _,hc.mono ?_⟩;rintro e w' ⟨v,rfl,h⟩;simp only[hd,zeZ]
  exact k v w' h)
theorem zjn (hr:(Region.ready .any ops listed).isEmpty=true)(h:Q .normal ⟨t,df⟩ w):zlq F n P ops Q S fuel listed t df w:=by
 have hr':Region.ready .any ops listed=[]:=by simpa using hr
 constructor
 intro _
 cases fuel with
 | zero=>exact⟨hr',NoPanic.normal h⟩
 | succ n=>exact⟨fun _=>NoPanic.normal h,fun j hj=>by rw[hr'] at hj;cases hj⟩
end
end Go.Sl
end
section
namespace Go.Sl
open Go Go.RowKit
def zmw {α:Type}(F:Fence)(n:Nat)(P:Program)(gf:Nat)(lb:Array Value)(encs:α→Array Value)(xs:List α)(Bx:zsi)(w0:World):Prop:=
 ∀ (l:Nat) (J:Nat→zsi) (Jx:zsi) (W:World),
  (∀ i x W1 G,xs[i]?=some x→Same w0 W1→Sat W1 (J i*(Bx*G))→YieldAt F (n - 1) P l (encs x) W1 fun e W' =>
   (e = .returned (.bool true)∧Same w0 W'∧Sat W' (J (i+1)*(Bx*G)))∨(e = .returned (.bool false)∧Same w0 W'∧Sat W' (Jx*(Bx*G)))) →
  Same w0 W→Sat W (J 0*Bx) →
  CallsIn F n P gf (#[.func (.yield l) #[] #[]]++lb) W fun e W'=>(∃ v,e = .returned v)∧((Same w0 W'∧Sat W' (J xs.length*Bx))∨(Same w0 W'∧Sat W' (Jx*Bx)))
def znT (w0:World)(R:zsi)(Rx:Code→zsi)(G:zsi):Exit→Act→World→Prop
 | .normal,_,W'=>Same w0 W'∧Sat W' (R*G)
 | .ret,_,W'=>Same w0 W'∧Sat W' (Rx .ret*G)
 | .exit id,_,W'=>Same w0 W'∧Sat W' (Rx (.exit id)*G)
 | .goto t,_,W'=>Same w0 W'∧Sat W' (Rx (.goto t)*G)
 | .panic _,_,_=>False
 | .outgrown,_,_=>False
theorem zfV {α:Type}{F:Fence}{n:Nat}{P:Program}{g:Operand}{ps:Array Tmp}{assign body:Code}{Q:Exit→Act→World→Prop}{a:Act}{w:World}
  (hro:F.round=none) (h1:1≤n) {gf:Nat} {lb:Array Value} (hg:a.eval g = .func (.func gf) #[] lb) (hFg:F.fn gf) (eg:∀ args w,(callFunc gf args).run P w = .ok (.enter gf args) w)
  {encs:α→Array Value} {xs:List α} {Bx:zsi} {w0:World} (hseq:zmw F (n - 1) P gf lb encs xs Bx w0) (hps:∀ x,(encs x).size=ps.size)
  (R:Nat→zsi) (Rx:Code→zsi) (hsm:Same w0 w) (h0:Sat w (R 0*Bx)) (a₁:α→Act)
  (hassign:∀ (l:Nat) (x:α) (W:World) (K:Act→World→Prop),K (a₁ x) W →
   assign.wpIn (F.inRound l) (n - 1 - 1) P (Exit.then K (fun _ _ _=>False)) { tmps:=(ps.zip (encs x)).foldl (fun t (p,v)=>t.setIfInBounds p v) a.tmps,defers:=[] } W)
  (hbody:∀ (l i:Nat) (x:α) (G:zsi) (W:World),xs[i]?=some x→Same w0 W→Sat W (R i*G)→body.wpIn (F.inRound l) (n - 1 - 1) P (znT w0 (R (i+1)) Rx G) (a₁ x) W)
  (hdone:∀ (D:Nat) (W:World),Same w0 W→Sat W (R xs.length*(pts D (.deferred (some []))*Bx))→Q .normal { a with defers:={ target:=.collected D,args:=#[] }::a.defers } W)
  (hstop:∀ (D:Nat) (c:Code) (W:World),Same w0 W→Sat W (Rx c*(pts D (.deferred (some []))*Bx))→c.wpIn F n P Q { a with defers:={ target:=.collected D,args:=#[] }::a.defers } W):
  (Code.rangeFunc g ps assign body).wpIn F n P Q a w:=by
 refine wpIn_rangeFunc ?_;intro fn hfn;rw[hro]
 obtain⟨rec,hrec⟩:∃ rec:LoopState→Option Code→Loop,rec=fun st pe=>{ state:=st,pending:=pe,fn,tmps:=a.tmps,params:=ps,assign,body,defers:=w.heap.size }:=⟨_,rfl⟩
 obtain⟨W1,hW1⟩:∃ W1,(w.alloc (.deferred (some []))).alloc (.loop (rec .ready none))=W1:=⟨_,rfl⟩
 have hS1:Sat W1 (pts (w.heap.size+1) (.loop (rec .ready none))*(pts w.heap.size (.deferred (some []))*(R 0*Bx))):=by
  have h:=(h0.alloc (.deferred (some []))).alloc (.loop (rec .ready none));rw[World.size_alloc,hW1] at h;exact h
 have hM1:Same w0 W1:=by rw[← hW1];exact (hsm.alloc _).alloc _
 refine⟨w.heap.size+1,[{ target:=.collected w.heap.size,args:=#[] }],W1,{ target:=.fn (.func gf) lb,args:=#[.func (.yield (w.heap.size+1)) #[] #[]] },W1,gf,
  #[.func (.yield (w.heap.size+1)) #[] #[]]++lb,W1,?_,?_,?_,?_,fun _=>h1,?_⟩
 ·rw[← hW1,hrec];exact run_enterLoop_outer _ _ _ _ _
 ·simp only[resolve,hg]
  simp[go_sem]
 ·intro f' hf';simp[Target.leads] at hf';subst hf';exact hFg
 ·simp[invoke,go_sem,eg]
 ·generalize w.heap.size=D at hS1 hrec ⊢
  refine (hseq (D+1) (fun i=>R i*(pts (D+1) (.loop (rec .ready none))*pts D (.deferred (some [])))) (ex fun c=>Rx c*(pts (D+1) (.loop (rec .done (some c)))*pts D (.deferred (some []))))
   W1 ?_ hM1 (hS1.perm (by ac_rfl))).mono ?_
  ·rintro i x W G' hx hm hs
   have hsl:Sat W (pts (D+1) (.loop (rec .ready none))*(R i*(pts D (.deferred (some []))*(Bx*G')))):=hs.perm (by ac_rfl);have hl:=hsl.block;have hy:=run_yield (P:=P) (args:=encs x) hl (by rw[hrec];exact hps x);rw[hrec] at hy;refine⟨fn,_,assign,body,hy,roundIn_of_wpIn hfn (hassign _ x W _ ⟨_,run_beginRound hl (by rw[hrec]),?_⟩)⟩;have hs2:Sat (W.putObj (D+1) (.loop { rec .ready none with state:=.busy })) (pts (D+1) (.loop { rec .ready none with state:=.busy })*(R i*(pts D (.deferred (some []))*(Bx*G')))):=hsl.putObj
   have hm2:Same w0 (W.putObj (D+1) (.loop { rec .ready none with state:=.busy })):=hm.putObj _ _;refine wpIn_mono (hbody _ i x (pts (D+1) (.loop { rec .ready none with state:=.busy })*(pts D (.deferred (some []))*(Bx*G'))) _ hx hm2 (hs2.perm (by ac_rfl))) ?_
   have fin:∀ (jump:Option Code) (W3:World) (X:zsi),Same w0 W3→Sat W3 (X*(pts (D+1) (.loop { rec .ready none with state:=.busy })*(pts D (.deferred (some []))*(Bx*G')))) →
     (Instr.endRound (D+1) jump).run P W3 = .ok (.bool jump.isNone) (W3.putObj (D+1) (.loop (rec (if jump.isNone then .ready else .done) jump)))∧
     Same w0 (W3.putObj (D+1) (.loop (rec (if jump.isNone then .ready else .done) jump)))∧
     Sat (W3.putObj (D+1) (.loop (rec (if jump.isNone then .ready else .done) jump))) (X*(pts (D+1) (.loop (rec (if jump.isNone then .ready else .done) jump))*pts D (.deferred (some [])))*(Bx*G')):=fun jump W3 X hm3 hs3=>by
    have hs4:Sat W3 (pts (D+1) (.loop { rec .ready none with state:=.busy })*(X*(pts D (.deferred (some []))*(Bx*G')))):=hs3.perm (by ac_rfl);have hl3:=hs4.block;have:=run_endRound (P:=P) jump hl3;rw[hrec] at this ⊢;refine⟨this,hm3.putObj _ _,?_⟩;have h5:=hs4.putObj (o':=.loop (rec (if jump.isNone then .ready else .done) jump));rw[hrec] at h5;exact Sat.perm h5 (by ac_rfl)
   rintro e a3 W3 hp
   cases e with
   | normal =>
    obtain⟨hm3,hs3⟩:=hp;obtain⟨hr,hm4,hs4⟩:=fin none W3 _ hm3 hs3;exact⟨_,_,hr,.inl ⟨rfl,hm4,hs4⟩⟩
   | ret =>
    obtain⟨hm3,hs3⟩:=hp;obtain⟨hr,hm4,hs4⟩:=fin (some .ret) W3 _ hm3 hs3;exact⟨_,_,hr,.inr ⟨rfl,hm4,Sat.ex.2 ⟨.ret,hs4⟩⟩⟩
   | exit id =>
    obtain⟨hm3,hs3⟩:=hp;obtain⟨hr,hm4,hs4⟩:=fin (some (.exit id)) W3 _ hm3 hs3;exact⟨_,_,hr,.inr ⟨rfl,hm4,Sat.ex.2 ⟨.exit id,hs4⟩⟩⟩
   | goto t =>
    obtain⟨hm3,hs3⟩:=hp;obtain⟨hr,hm4,hs4⟩:=fin (some (.goto t)) W3 _ hm3 hs3;exact⟨_,_,hr,.inr ⟨rfl,hm4,Sat.ex.2 ⟨.goto t,hs4⟩⟩⟩
   | panic ch=>exact hp.elim
   | outgrown=>exact hp.elim
  ·rintro e W2 ⟨⟨v,rfl⟩,(⟨hm,hs⟩|⟨hm,hs⟩)⟩
   ·have hsl:Sat W2 (pts (D+1) (.loop (rec .ready none))*(R xs.length*(pts D (.deferred (some []))*Bx))):=hs.perm (by ac_rfl)
    exact⟨none,_,by have:=run_endLoop (P:=P) hsl.block (by rw[hrec];simp);rw[hrec] at this;exact this,hdone D _ (hm.putObj _ _) ((hsl.putObj (o':=_)).right)⟩
   ·obtain⟨c,hc⟩:=Sat.ex.1 hs
    have hsl:Sat W2 (pts (D+1) (.loop (rec .done (some c)))*(Rx c*(pts D (.deferred (some []))*Bx))):=hc.perm (by ac_rfl);exact⟨some c,_,by have:=run_endLoop (P:=P) hsl.block (by rw[hrec];simp);rw[hrec] at this;exact this,hstop D c _ (hm.putObj _ _) ((hsl.putObj (o':=_)).right)⟩
end Go.Sl
end
section
namespace Go.Proofs.YtmcclbiaoeilkaaGreat
open Go.Proofs.Tryz Go.RowKit Go.Sl Go.ChangeMaps
abbrev zsd (x:Nat×List UInt8):Array Value:=#[.int .i64 (x.1:Int),.string (zae x.2)]
def zqS (c:CkM):List (Nat×List UInt8):=(List.range (zaR c+1)).map fun i=>(i,zcs c i)
theorem zin (c:CkM):(zqS c).length=zaR c+1:=by simp[zqS]
theorem znG {c:CkM}{i:Nat}(h:i<zaR c+1):(zqS c)[i]?=some (i,zcs c i):=by simp[zqS,h]
def pyB (B:Nat)(c:CkM):zsi:=pts B (.cells (ckA c) TCk (0,0))
theorem zpp {w:World}{B:Nat}{c:CkM}{X:zsi}(h:Sat w (pyB B c*X)):w.cell? ⟨B,2,none⟩=some (.int .i64 c.seq)∧w.cell? ⟨B,3,none⟩=some (.string (zae c.image)):=by
 unfold pyB at h;exact⟨zab h.block 2,zab h.block 3⟩
theorem zox {w:World}{v1 v2:Value}{a b:List UInt8}{X:zsi}(hb:0<b.length)(hl:a.length+b.length≤1000000)(h:Sat w (zbu v2 b*(zbu v1 a*X))):
  ∃ v' w',(Builtin.append_ #[69,69] 69 #[v1,v2]).run prog w = .ok v' w'∧Same w w'∧Sat w' (zbu v' (a++b)*X):=by
 obtain⟨g,cap,rfl,hc⟩:=zbd h hb;obtain⟨ti,hti,hz0,hts,hz2⟩:=info_parts zdz;have h':Sat w (zbu v1 a*X):=h.right;obtain⟨v5,w5,hr5,hsm5,hs5⟩:=zaH (P:=prog) 69 69 zaM ti _ underlying69 hti hz0 (by rw[hts];rfl) v1 a.length (zaY a) (by rw[hts];exact h') ⟨g,0,none⟩ b.length cap (zaY b) (by rw[hts];simp[zaY])
  (by
   intro j u hu;rw[Addr.add_mid,Nat.zero_add]
   exact hc j u hu) (by intro u hu;simp only[zaY,List.mem_map] at hu;obtain⟨x,_,rfl⟩:=hu;rfl) (by unfold maxLen;omega) (by rw[hz2];omega)
 rw[hts] at hs5;refine⟨v5,w5,hr5,hsm5,?_⟩;unfold zbu;rw[List.length_append,show zaY (a++b)=zaY a++zaY b by simp[zaY]];exact hs5
structure PyS (w0:World)(J:Nat→zsi)(B:Nat)(c:CkM)(rv iv:Value)(wr:World):Prop where
 st:∃ k:Nat,k≤zaR c∧iv = .int .i64 ((k:Int)+1)∧rv = .string (zae (c.image.drop (40*k)))∧Hid (Same w0 wr∧Sat wr (J (k+1)*pyB B c))
theorem zlg (q:List UInt8):(zae q).toList.isEmpty=q.isEmpty:=by
 rw[Lib.toList_data];simp[zae]
theorem zlY {c:CkM}{k:Nat}(h:k≤zaR c):c.image.drop (40*k)=[]↔k=zaR c:=by
 rw[List.drop_eq_nil_iff];unfold zaR at h ⊢;omega
theorem zmI (F:Fence)(hF:Free F prog)(n B:Nat)(g:GenM)(sq:Nat)(im:List UInt8)(hsq:sq<9223372036854775808)(him:im.length≤2621440)(w0:World):
  zmw F n prog 132 #[.pointer (some ⟨B,0,none⟩)] zsd (zqS ⟨g,(sq:Int),im⟩) (pyB B ⟨g,(sq:Int),im⟩) w0:=by
 intro l J Jx W hY hsm hs;have hdd:∀ k:Nat,(F.depth.isSome=true→1≤k):=hF.ask;have hro:=hF.round;have hfn:=hF.fn;have HY:=zh hY;rw[zin];have H1:=(zd hsm hs);have hrz:(zae im).size=im.length:=zap im;have HIM:=zh him;have HSQ:=zh hsq;have HP0:=zh (show zcs ⟨g,(sq:Int),im⟩ 0=zb9 sq++zb9 im.length from by unfold zcs;rw[if_pos rfl];simp);have HXA:=zh (fun i (h:i<zaR ⟨g,(sq:Int),im⟩+1)=>znG (c:=⟨g,(sq:Int),im⟩) h)
 have HCS:=zh (show ∀ (w':World) (X:zsi),Sat w' (X*pyB B ⟨g,(sq:Int),im⟩)→w'.cell? ⟨B,2,none⟩=some (.int .i64 (sq:Int))∧w'.cell? ⟨B,3,none⟩=some (.string (zae im)) from fun w' X h=>zpp (h.perm (zcf _ _)))
 clear hY hsm hs him hsq;refine callsIn_of_wp func132 rfl (hF.fn _) ?_ hF.round;simp only[ntmps132,List.size_toArray,List.length_cons,List.length_nil,Nat.reduceAdd,Nat.reduceSub,Array.replicate_succ,Array.replicate_zero,List.push_toArray,List.append_toArray,List.nil_append,List.cons_append];gi_wp2
 refine zl4 (fun w'=>w'.cell? ⟨B,2,none⟩=some (.int .i64 (sq:Int))∧w'.cell? ⟨B,3,none⟩=some (.string (zae im))) (by kernel_rfl) ?_
 replace H1:=(zd H1.out.1.drew H1.out.2.drew);generalize W.drew=w1 at H1 ⊢;have hS0:=HCS.out w1 _ H1.out.2;(apply zc0 hF 0 rfl rfl (by kernel_rfl) rfl);(rintro w' ⟨h1,h2⟩;go_simp;rfl);exact hS0;simp only[zq];(apply zc0 hF 1 rfl rfl (by kernel_rfl) rfl);(rintro w' ⟨h1,h2⟩;go_simp;rfl);exact hS0;simp only[zq];(apply zc0 hF 2 rfl rfl (by kernel_rfl) rfl);(rintro w' ⟨h1,h2⟩;go_simp;rfl);exact hS0;simp only[zq];(apply zc0 hF 4 rfl rfl (by kernel_rfl) rfl);(rintro w' ⟨h1,h2⟩;go_simp;rfl);exact hS0;simp only[zq]
 (apply zc0 hF 5 rfl rfl (by kernel_rfl) rfl);(rintro w' ⟨h1,h2⟩;go_simp;rfl);exact hS0;simp only[zq];(apply zc0 hF 6 rfl rfl (by kernel_rfl) rfl);(rintro w' ⟨h1,h2⟩;go_simp;rfl);exact hS0;simp only[zq]
 refine zjm hF 3 rfl rfl (by kernel_rfl) rfl (f:=133) (args:=#[.int .i64 (sq:Int)]) (R:=fun v w'=>Hid (Same w1 w'∧Sat w' (zbu v (zb9 sq)*(J 0*pyB B ⟨g,(sq:Int),im⟩)))) (by kernel_rfl) (zjF sq HSQ.out _ w1 H1.out.2) ?_
 rintro v2 w2 h2;replace H1:=(zt H1 h2);replace hS0:=HCS.out w2 _ (H1.out.2.perm (zax _ _ _).symm);refine⟨hS0,?_⟩;simp only[zq]
 refine zjm hF 7 rfl rfl (by kernel_rfl) rfl (f:=133) (args:=#[.int .i64 (im.length:Int)]) (R:=fun v w'=>Hid (Same w2 w'∧Sat w' (zbu v (zb9 im.length)*(zbu v2 (zb9 sq)*(J 0*pyB B ⟨g,(sq:Int),im⟩))))) (by kernel_rfl) (zjF im.length (by have:=HIM.out;omega) _ w2 H1.out.2) ?_
 rintro v3 w3 h3;replace H1:=(zt H1 h3);replace hS0:=HCS.out w3 _ (H1.out.2.perm (show _=(zbu v3 (zb9 im.length)*(zbu v2 (zb9 sq)*J 0))*pyB B ⟨g,(sq:Int),im⟩ from by ac_rfl));refine⟨hS0,?_⟩;simp only[zq];clear h2 h3;obtain⟨v4,w4,hr4,hm4,hs4⟩:=zox (show 0<(zb9 im.length).length by simp[zb9]) (by have h1:=zc3 sq;have h2:=zc3 im.length;omega) H1.out.2;replace H1:=(zd (H1.out.1.trans hm4) hs4);replace hS0:=HCS.out w4 _ (H1.out.2.perm (zax _ _ _).symm);refine zk4 hF 8 v4 w4 rfl rfl (by kernel_rfl) rfl (zbc rfl rfl rfl hr4) hS0 ?_
 simp only[zq];refine zk4 hF 9 (.string (zae (zb9 sq++zb9 im.length))) w4 rfl rfl (by kernel_rfl) rfl (zaD rfl rfl (zdp (by simp[zb9]) H1.out.2)) hS0 ?_;simp only[zq];clear hr4 hm4 hs4;have H2:=(zd H1.out.1 H1.out.2.right);obtain⟨fn,tmps,assign,body,hy,hR⟩:=HY.out 0 (0,zcs ⟨g,(sq:Int),im⟩ 0) w4 emp (HXA.out 0 (Nat.succ_pos _)) H2.out.1 (H2.out.2.perm (by rw[zcf (pyB _ _) emp,zaL]));replace hy:(Instr.yield l #[.int .i64 0,.string (zae (zcs ⟨g,(sq:Int),im⟩ 0))]).run prog w4 = .ok (.round l fn tmps assign body) w4:=hy
 rw[HP0.out] at hy;have HYY:=zh hy;clear hy H1
 refine zl5 hF 10 rfl rfl (by kernel_rfl) rfl (R:=fun v w'=>(v = .bool true∧Hid (Same w0 w'∧Sat w' (J 1*pyB B ⟨g,(sq:Int),im⟩)))∨(v = .bool false∧Hid (Same w0 w'∧Sat w' (Jx*pyB B ⟨g,(sq:Int),im⟩)))) (show _=_ from by
  unfold execOp
  simp[resolve,invoke,go_sem,HYY.out]) (hR.mono fun e w' h=>by
   rcases h with ⟨rfl,h1,h2⟩|⟨rfl,h1,h2⟩
   ·exact⟨_,rfl,.inl ⟨rfl,h1,h2.perm (by rw[zcf (pyB _ _) emp,zaL])⟩⟩
   ·exact⟨_,rfl,.inr ⟨rfl,h1,h2.perm (by rw[zcf (pyB _ _) emp,zaL])⟩⟩) ?_
 clear hR HYY H2 hS0;rintro _ w5 (⟨rfl,h5⟩|⟨rfl,h5⟩)
 ·have hS1:=HCS.out w5 _ h5.out.2
  refine⟨hS1,?_⟩;simp only[zq];(apply zc0 hF 11 rfl rfl (by kernel_rfl) rfl);(rintro w' ⟨h1,h2⟩;go_simp;rfl);exact hS1;simp only[zq];refine zjn (by kernel_rfl) ?_;obtain⟨-,c3⟩:=hS1;gi_wp2;have HST:=zh (show PyS w0 J B ⟨g,(sq:Int),im⟩ (.string (zae im)) (.int .i64 1) w5 from⟨⟨0,Nat.zero_le _,rfl,rfl,h5⟩⟩);clear h5 c3
  gi_loopw [3,4] (fun rv iv wr=>PyS w0 J B ⟨g,(sq:Int),im⟩ rv iv wr) (fun _ iv _=>zaR ⟨g,(sq:Int),im⟩+2 - (intOf iv).toNat)
  case atStart=>exact HST.out
  case round =>
   clear HST HP0;obtain⟨k,hk,rfl,rfl,H1⟩:=hrel.st;clear hrel;have hd:=zlY hk;simp only at hd;obtain⟨q,hq⟩:∃ q,im.drop (40*k)=q:=⟨_,rfl⟩;have hqs:(zae q).size=q.length:=zap q
   have hpq:zcs ⟨g,(sq:Int),im⟩ (k+1)=q.take 40:=by unfold zcs;rw[if_neg (by omega)];simp only[Nat.add_sub_cancel];rw[hq]
   have hdq:im.drop (40*(k+1))=q.drop (min 40 q.length):=by
    rw[← hq,List.drop_drop];rcases Nat.le_total 40 (im.drop (40*k)).length with h|h
    ·rw[Nat.min_eq_left h,Nat.mul_succ]
    ·rw[Nat.min_eq_right h,List.length_drop]
     rw[List.length_drop] at h;rw[List.drop_eq_nil_iff.2 (by omega),List.drop_eq_nil_iff.2 (by omega)]
   have hql:q.length≤2621440:=by rw[← hq,List.length_drop];have:=HIM.out;omega
   rw[hq] at hd;have HPQ:=(zd hpq hdq);have HK:=zh hk;have HD:=zh hd;simp only;rw[hq];have HQ:=zh hq;clear hq hpq hdq hd hk
   by_cases hqn:q=[]
   ·have HKP:=zh (HD.out.1 hqn)
    subst hqn;have hqe:(zae []).toList.isEmpty=true:=zlg [];gi_wp2;obtain rfl:k=zaR ⟨g,(sq:Int),im⟩:=HKP.out
    go_end0
    exact⟨⟨_,rfl⟩,.inl H1.out⟩
   ·have hqe:(zae q).toList.isEmpty=false:=by rw[zlg];cases q with|nil=>exact absurd rfl hqn|cons=>rfl
    have hql0:0<q.length:=List.length_pos_iff.2 hqn;have HQN:=zh (show k<zaR ⟨g,(sq:Int),im⟩ from by have h1:=HD.out;have h2:=HK.out;rcases Nat.lt_or_ge k (zaR ⟨g,(sq:Int),im⟩) with h|h;exact h;exact absurd (h1.2 (by omega)) hqn);obtain⟨m,hm⟩:∃ m,min 40 q.length=m:=⟨_,rfl⟩
    have hmi:min (40:Int) (q.length:Int)=(m:Int):=by omega
    have hm1:m≤q.length:=by omega
    have hmI:(m:Int)≤(q.length:Int):=by omega
    have hmt:q.take 40=q.take m:=by
     rcases Nat.le_total 40 q.length with h|h
     ·rw[show m=40 by omega]
     ·rw[show m=q.length by omega,List.take_of_length_le h,List.take_of_length_le (Nat.le_refl _)]
    have hx1:(zae q).extract 0 m=zae (q.take m):=by rw[zdE];simp[zav]
    have hx2:(zae q).extract m q.length=zae (q.drop m):=by rw[zdE];unfold zav;rw[List.take_of_length_le (by rw[List.length_drop];omega)]
    replace HPQ:=zh (show zcs ⟨g,(sq:Int),im⟩ (k+1)=q.take m∧im.drop (40*(k+1))=q.drop m from⟨HPQ.out.1.trans hmt,by rw[← hm];exact HPQ.out.2⟩);have hw1:IntKind.i64.wrap ((k:Int)+1+1)=(k:Int)+1+1:=IntWalk.i64_in _ (by have:=HK.out;unfold zaR at this;simp only at this;have:=HIM.out;omega);obtain⟨fn,tmps,assign,body,hy,hR⟩:=HY.out (k+1) (k+1,zcs ⟨g,(sq:Int),im⟩ (k+1)) wr emp (HXA.out (k+1) (by have:=HQN.out;omega)) H1.out.1 (H1.out.2.perm (by rw[zcf (pyB _ _) emp,zaL]));replace hy:(Instr.yield l #[.int .i64 ((k:Int)+1),.string (zae (zcs ⟨g,(sq:Int),im⟩ (k+1)))]).run prog wr = .ok (.round l fn tmps assign body) wr:=hy
    rw[HPQ.out.1] at hy;clear hqn hm hmt
    gi_wp2_with ((try refine⟨hdd _,?_⟩);refine hR.mono ?_;clear hR;rintro e w6 (⟨rfl,h6,h7⟩|⟨rfl,h6,h7⟩);clear hy)
    ·refine⟨⟨⟨k+1,HQN.out,congrArg (Value.int .i64) (by omega),?_,h6,h7.perm (by rw[zcf (pyB _ _) emp,zaL])⟩⟩,?_⟩
     ·rw[HPQ.out.2]
     ·have:=HQN.out
      simp only[intOf];omega
    ·exact bodyPost_ret (results_none results132 _ _ _) rfl ⟨⟨_,rfl⟩,.inr ⟨h6,h7.perm (by rw[zcf (pyB _ _) emp,zaL])⟩⟩
 ·have hS1:=HCS.out w5 _ h5.out.2
  refine⟨hS1,?_⟩;simp only[zq];(apply zc0 hF 11 rfl rfl (by kernel_rfl) rfl);(rintro w' ⟨h1,h2⟩;go_simp;rfl);exact hS1;simp only[zq];refine zjn (by kernel_rfl) ?_;clear hS1;gi_wp2;exact bodyPost_ret (results_none results132 _ _ _) rfl ⟨⟨_,rfl⟩,.inr ⟨h5.out.1,h5.out.2⟩⟩
theorem zmH (c:CkM)(F:zsi)(w:World)(hF:Sat w F):
  Calls prog 86 #[.agg (ckA c)] w fun e w'=>∃ B,e = .returned (.func (.func 132) #[] #[.pointer (some ⟨B,0,none⟩)])∧Hid (Same w w'∧Sat w' (pyB B c*F)):=by
 have H1:=(zd ((Same.refl w).alloc (.cells (ckA c) TCk)) (hF.alloc (.cells (ckA c) TCk)));clear hF;go_enter func86,ntmps86;go_wp2;go_ret;refine⟨_,rfl,H1.out.1,?_⟩;unfold pyB;exact H1.out.2
end Go.Proofs.YtmcclbiaoeilkaaGreat
end
