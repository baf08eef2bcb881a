import Derived.WalkKit
import Derived.Deep.MidRow
theorem zq.{u}{α:Type u}:(∀ (l:List α) (i:Nat) (a:α),l.toArray.setIfInBounds i a=(l.set i a).toArray)∧(∀ (x:α) (xs:List α) (i:Nat) (a:α),(x::xs).set (i+1) a=x::xs.set i a)∧(∀ (x:α) (xs:List α) (a:α),(x::xs).set 0 a=a::xs):=⟨fun _ _ _=>List.setIfInBounds_toArray ..,fun _ _ _ _=>rfl,fun _ _ _=>rfl⟩
instance:Coe Int Go.Value:=⟨Go.Value.int .i64⟩
instance:Coe Nat Go.Value:=⟨fun n=>Go.Value.int .i64 (n:Int)⟩
theorem zh {p:Prop}(h:p):Go.RowKit.Hid p:=h
theorem zd {p q:Prop}(a:p)(b:q):Go.RowKit.Hid (p∧q):=(⟨a,b⟩:p∧q)
/- Part 1 of a proof;the last part says what is proved. -/
namespace Go.Sl
open Go Go.RowKit
abbrev Hp:=Nat→Option Obj
structure zsi where
 holds:Hp→Prop
theorem zsi.ext {P Q:zsi}(h:∀ x,P.holds x↔Q.holds x):P=Q:=by
 cases P;cases Q;congr 1;funext x;exact propext (h x)
def zor (a b:Hp):Prop:=∀ k,a k=none∨b k=none
def un (a b:Hp):Hp:=fun k=>(a k).or (b k)
def zsf (P Q:zsi):zsi:=⟨fun h=>∃ a b,P.holds a∧Q.holds b∧zor a b∧h=un a b⟩
instance:Mul zsi:=⟨zsf⟩
def emp:zsi:=⟨fun h=>h=fun _=>none⟩
def pts (b:Nat)(o:Obj):zsi:=⟨fun h=>h=fun k=>if k=b then some o else none⟩
def lift (p:Prop):zsi:=⟨fun h=>p∧h=fun _=>none⟩
def ex {α:Type}(P:α→zsi):zsi:=⟨fun h=>∃ x,(P x).holds h⟩
theorem zcX {a b:Hp}(h:zor a b):zor b a:=fun k=>(h k).symm
theorem zof {a b:Hp}(h:zor a b):un a b=un b a:=by
 funext k
 unfold un
 rcases h k with h|h <;> simp[h]
theorem zlj (a b c:Hp):un (un a b) c=un a (un b c):=by
 funext k;simp[un,Option.or_assoc]
theorem zcf (P Q:zsi):P*Q=Q*P:=by
 apply zsi.ext;intro h
 constructor
 ·rintro⟨a,b,ha,hb,hd,rfl⟩;exact⟨b,a,hb,ha,zcX hd,zof hd⟩
 ·rintro⟨a,b,ha,hb,hd,rfl⟩;exact⟨b,a,hb,ha,zcX hd,zof hd⟩
theorem zgd {a b c:Hp}(h:zor (un a b) c):zor a c∧zor b c:=by
 constructor
 ·intro k
  rcases h k with h|h
  ·left;unfold un at h;cases ha:a k <;> simp[ha] at h ⊢
  ·exact .inr h
 ·intro k
  rcases h k with h|h
  ·left;unfold un at h;cases ha:a k <;> simp[ha] at h;exact h
  ·exact .inr h
theorem zmT {a b c:Hp}(h:zor a c)(h':zor b c):zor (un a b) c:=by
 intro k;rcases h k with h|h
 ·rcases h' k with h'|h'
  ·left;simp[un,h,h']
  ·exact .inr h'
 ·exact .inr h
theorem zax (P Q R:zsi):P*Q*R=P*(Q*R):=by
 apply zsi.ext;intro h
 constructor
 ·rintro⟨_,c,⟨a,b,ha,hb,hab,rfl⟩,hc,hd,rfl⟩
  obtain⟨hac,hbc⟩:=zgd hd;exact⟨a,un b c,ha,⟨b,c,hb,hc,hbc,rfl⟩,zcX (zmT (zcX hab) (zcX hac)),zlj a b c⟩
 ·rintro⟨a,_,ha,⟨b,c,hb,hc,hbc,rfl⟩,hd,rfl⟩
  obtain⟨hba,hca⟩:=zgd (zcX hd);exact⟨un a b,c,⟨a,b,ha,hb,zcX hba,rfl⟩,hc,zmT (zcX hca) hbc,(zlj a b c).symm⟩
instance:Std.Associative (α:=zsi) (·*·):=⟨zax⟩
instance:Std.Commutative (α:=zsi) (·*·):=⟨zcf⟩
theorem zaL (P:zsi):emp*P=P:=by
 apply zsi.ext;intro h
 constructor
 ·rintro⟨a,b,rfl,hb,_,rfl⟩
  have:un (fun _=>none) b=b:=by funext k;simp[un]
  rwa [this]
 ·intro hp
  exact⟨_,h,rfl,hp,fun k=>.inl rfl,by funext k;simp[un]⟩
theorem zgy (P:zsi):P*emp=P:=by rw[zcf,zaL]
theorem zeA {p:Prop}{P:zsi}{h:Hp}:(lift p*P).holds h↔p∧P.holds h:=by
 constructor
 ·rintro⟨a,b,⟨hp,rfl⟩,hb,_,rfl⟩
  have:un (fun _=>none) b=b:=by funext k;simp[un]
  rw[this];exact⟨hp,hb⟩
 ·rintro⟨hp,hP⟩
  exact⟨_,h,⟨hp,rfl⟩,hP,fun k=>.inl rfl,by funext k;simp[un]⟩
theorem zqd {α:Type}(P:α→zsi)(Q:zsi):ex P*Q=ex fun x=>P x*Q:=by
 apply zsi.ext;intro h
 constructor
 ·rintro⟨a,b,⟨x,ha⟩,hb,hd,rfl⟩;exact⟨x,a,b,ha,hb,hd,rfl⟩
 ·rintro⟨x,a,b,ha,hb,hd,rfl⟩;exact⟨a,b,⟨x,ha⟩,hb,hd,rfl⟩
def Sat (w:World)(P:zsi):Prop:=∃ h,P.holds h∧∀ k o,h k=some o→w.heap[k]?=some o
section
variable {w w':World} {P Q R F:zsi}
theorem Sat.perm (h:Sat w P)(e:P=Q):Sat w Q:=e ▸ h
theorem Sat.mono (h:Sat w P)(i:∀ x,P.holds x→Q.holds x):Sat w Q:=let ⟨x,hx,hk⟩:=h;⟨x,i x hx,hk⟩
theorem Sat.left (h:Sat w (P*Q)):Sat w P:=by
 obtain⟨_,⟨a,b,ha,hb,hd,rfl⟩,hk⟩:=h;exact⟨a,ha,fun k o hko=>hk k o (by simp[un,hko])⟩
theorem Sat.right (h:Sat w (P*Q)):Sat w Q:=(h.perm (zcf P Q)).left
theorem Sat.ex {α:Type}{P:α→zsi}:Sat w (ex P*F)↔∃ x,Sat w (P x*F):=by
 rw[zqd]
 constructor
 ·rintro⟨h,⟨x,hx⟩,hk⟩;exact⟨x,h,hx,hk⟩
 ·rintro⟨x,h,hx,hk⟩;exact⟨h,⟨x,hx⟩,hk⟩
theorem Sat.lift {p:Prop}:Sat w (lift p*F)↔p∧Sat w F:=by
 constructor
 ·rintro⟨h,hh,hk⟩;rw[zeA] at hh;exact⟨hh.1,h,hh.2,hk⟩
 ·rintro⟨hp,h,hh,hk⟩;exact⟨h,zeA.2 ⟨hp,hh⟩,hk⟩
theorem Sat.block {b:Nat}{o:Obj}(h:Sat w (pts b o*F)):w.heap[b]?=some o:=by
 obtain⟨_,⟨a,c,rfl,hb,hd,rfl⟩,hk⟩:=h;exact hk b o (by simp[un])
theorem Sat.ne {b c:Nat}{o q:Obj}(h:Sat w (pts b o*(pts c q*F))):b≠c:=by
 obtain⟨_,⟨_,_,rfl,⟨_,_,rfl,_,hd',rfl⟩,hd,rfl⟩,hk⟩:=h;rintro rfl
 rcases hd b with h|h <;> simp[un] at h
theorem Sat.lt {b:Nat}{o:Obj}(h:Sat w (pts b o*F)):b<w.heap.size:=(Array.getElem?_eq_some_iff.1 h.block).1
theorem Sat.keep (h:Sat w P)(hk:∀ k,k<w.heap.size→w'.heap[k]?=w.heap[k]?):Sat w' P:=by
 obtain⟨x,hx,hx'⟩:=h;refine⟨x,hx,fun k o hko=>?_⟩;have:=hx' k o hko;rw[hk k (Array.getElem?_eq_some_iff.1 this).1];exact this
theorem Sat.below (h:Sat w P)(hb:Below w.heap.size w w'):Sat w' P:=h.keep hb.block
theorem Sat.drew (h:Sat w P):Sat w.drew P:=h
theorem Sat.allocKeep (h:Sat w P)(o:Obj):Sat (w.alloc o) P:=h.keep (fun k hk=>Below.heap_alloc w o k hk)
theorem Sat.alloc (h:Sat w P)(o:Obj):Sat (w.alloc o) (pts w.heap.size o*P):=by
 obtain⟨x,hx,hk⟩:=h;refine⟨un (fun k=>if k=w.heap.size then some o else none) x,⟨_,x,rfl,hx,?_,rfl⟩,?_⟩
 ·intro k
  by_cases hkk:k=w.heap.size
  ·right
   cases hxk:x k with
   | none=>rfl
   | some q=>have:=(Array.getElem?_eq_some_iff.1 (hk k q hxk)).1;omega
  ·left;simp[hkk]
 ·intro k q hkq
  unfold un at hkq
  by_cases hkk:k=w.heap.size
  ·subst hkk;simp at hkq;subst hkq;exact heap_alloc_new w o
  ·simp[hkk] at hkq
   have h2:=hk k q hkq;rw[Below.heap_alloc w o k (Array.getElem?_eq_some_iff.1 h2).1];exact h2
theorem Sat.growAt {w w':World}{P:zsi}{o:Obj}{g:Nat}(h:Sat w P)(hk:∀ k,k<w.heap.size→w'.heap[k]?=w.heap[k]?)(hg:w.heap.size≤g)(hb:w'.heap[g]?=some o):Sat w' (pts g o*P):=by
 obtain⟨x,hx,hk'⟩:=h;refine⟨un (fun k=>if k=g then some o else none) x,⟨_,x,rfl,hx,?_,rfl⟩,?_⟩
 ·intro k
  by_cases hkk:k=g
  ·right
   cases hxk:x k with
   | none=>rfl
   | some q=>have:=(Array.getElem?_eq_some_iff.1 (hk' k q hxk)).1;omega
  ·left;simp[hkk]
 ·intro k q hkq
  unfold un at hkq
  by_cases hkk:k=g
  ·subst hkk;simp at hkq;subst hkq;exact hb
  ·simp[hkk] at hkq
   have h2:=hk' k q hkq;rw[hk k (Array.getElem?_eq_some_iff.1 h2).1];exact h2
theorem Sat.grow {w w':World}{P:zsi}{o:Obj}(h:Sat w P)(hk:∀ k,k<w.heap.size→w'.heap[k]?=w.heap[k]?)(hb:w'.heap[w.heap.size]?=some o):Sat w' (pts w.heap.size o*P):=h.growAt hk (Nat.le_refl _) hb
theorem Sat.put {b:Nat}{o o':Obj}(h:Sat w (pts b o*F))(h1:w'.heap[b]?=some o')(h2:∀ k,k≠b→k<w.heap.size→w'.heap[k]?=w.heap[k]?):Sat w' (pts b o'*F):=by
 obtain⟨_,⟨a,x,rfl,hx,hd,rfl⟩,hk⟩:=h;refine⟨_,⟨_,x,rfl,hx,?_,rfl⟩,?_⟩
 ·intro k
  by_cases hkb:k=b
  ·right;subst hkb;rcases hd k with h|h
   ·simp at h
   ·exact h
  ·left;simp[hkb]
 ·intro k q hkq
  unfold un at hkq
  by_cases hkb:k=b
  ·subst hkb;simp at hkq;subst hkq;exact h1
  ·simp[hkb] at hkq
   have h3:=hk k q (by simp[un,hkb,hkq]);rw[h2 k hkb (Array.getElem?_eq_some_iff.1 h3).1];exact h3
theorem Sat.setCell {b i:Nat}{c:Array Value}{T:TypeId}{fr:Nat×Nat}(h:Sat w (pts b (.cells c T fr)*F))(v:Value):
  Sat (w.setCell ⟨b,i,none⟩ v) (pts b (.cells (c.setIfInBounds i v) T fr)*F):=by
 refine h.put ?_ (fun k hk _=>heap_setCell_other w ⟨b,i,none⟩ k v hk);have:=h.block;have hlt:=h.lt;simp only[World.setCell,Array.getElem?_modify,this];simp
theorem Sat.setRow {b:Nat}{c c':Array Value}{T:TypeId}{fr:Nat×Nat}(h:Sat w (pts b (.cells c T fr)*F)):
  Sat (w.setRow b c') (pts b (.cells c' T fr)*F):=by
 refine h.put (setRow_heap w b c c' T fr h.block) (fun k hk _=>setRow_other w b k c' hk)
theorem Sat.putObj {b:Nat}{o o':Obj}(h:Sat w (pts b o*F)):
  Sat { w with heap:=w.heap.setIfInBounds b o' } (pts b o'*F):=by
 have hlt:=h.lt;refine h.put ?_ ?_
 ·simp[hlt]
 ·intro k hk hk'
  simp[Ne.symm hk]
end
def old (w:World):zsi:=⟨fun h=>h=fun k=>w.heap[k]?⟩
theorem Sat.old (w:World):Sat w (old w):=⟨_,rfl,fun _ _ h=>h⟩
theorem Sat.of_old {w w':World}{P:zsi}(h:Sat w' (P*Sl.old w)):∀ k,k<w.heap.size→w'.heap[k]?=w.heap[k]?:=by
 obtain⟨x,rfl,hk⟩:=h.right;intro k hlt
 have:w.heap[k]?=some w.heap[k]:=by simp[hlt]
 rw[this];exact hk k _ this
structure Same (w w':World):Prop where
 os:w'.os=w.os
 tape:w'.tape=w.tape
 output:w'.output=w.output
 size:w.heap.size≤w'.heap.size
section
variable {w w' w'':World}
theorem Same.refl (w:World):Same w w:=⟨rfl,rfl,rfl,Nat.le_refl _⟩
theorem Same.trans (h:Same w w')(k:Same w' w''):Same w w'':=⟨k.os.trans h.os,k.tape.trans h.tape,k.output.trans h.output,Nat.le_trans h.size k.size⟩
theorem Same.alloc (h:Same w w')(o:Obj):Same w (w'.alloc o):=h.trans ⟨rfl,rfl,rfl,by simp⟩
theorem Same.drew (h:Same w w'):Same w w'.drew:=h.trans ⟨rfl,rfl,rfl,Nat.le_refl _⟩
theorem Same.setCell (h:Same w w')(a:Addr)(v:Value):Same w (w'.setCell a v):=h.trans ⟨rfl,rfl,rfl,by simp[World.setCell]⟩
theorem Same.setRow (h:Same w w')(g:Nat)(c:Array Value):Same w (w'.setRow g c):=h.trans ⟨rfl,rfl,rfl,by simp⟩
theorem Same.putObj (h:Same w w')(g:Nat)(o:Obj):Same w { w' with heap:=w'.heap.setIfInBounds g o }:=h.trans ⟨rfl,rfl,rfl,by simp⟩
theorem Same.below {B:Nat}(h:Same w w')(k:Below B w' w''):Same w w'':=h.trans ⟨k.os,k.tape,k.output,k.size⟩
theorem Same.below_of (h:Same w w'){P:zsi}(k:Sat w' (P*old w)):Below w.heap.size w w':=⟨h.os,h.tape,h.output,h.size,k.of_old⟩
end
theorem zab {w:World}{b:Nat}{c:Array Value}{T:TypeId}{fr:Nat×Nat}(h:w.heap[b]?=some (.cells c T fr)):∀ o,w.cell? ⟨b,o,none⟩=c[o]?:=by
 intro o;simp[World.cell?,h]
theorem zaj {w:World}{b:Nat}{c:Array Value}{T:TypeId}(h:w.heap[b]?=some (.cells c T (0,0))):∀ o,w.frozen? ⟨b,o,none⟩=false:=by
 intro o;simp[World.frozen?,h]
theorem zt {w w1 w2:World}{X Y:Prop}(h:Go.RowKit.Hid (Same w w1∧X))(h2:Go.RowKit.Hid (Same w1 w2∧Y)):Go.RowKit.Hid (Same w w2∧Y):=(⟨h.out.1.trans h2.out.1,h2.out.2⟩:Same w w2∧Y)
end Go.Sl
namespace Go.Sl
open Go Go.RowKit
def IntsAt (w:World)(v:Value)(l:List Int):Prop:=∃ ao cap,v = .slice ao l.length cap∧(l≠[]→∃ b off,ao=some ⟨b,off,none⟩∧∀ j x,l[j]?=some x→w.cell? ⟨b,off+j*1,none⟩=some (.int .i64 x))
theorem IntsAt.nil (w:World):IntsAt w (.slice none 0 0) []:=⟨none,0,rfl,fun h=>absurd rfl h⟩
section
variable {P:Program} {ops:Array Oper} {rest:List Oper} {o:Oper} {a:Act} {w:World} {Q:Exit→Act→World→Prop}
theorem zbC {ty:TypeId}{x:Operand}{p v:Value}{w':World}(ho:o.op = .load ty x)(hx:a.eval x=p)(h:(Instr.loadAt ty p).run P w = .ok v w'):(execOp a.eval o).run P w = .ok (.value v) w':=by
 unfold execOp;simp[ho,hx,h]
theorem zdN {ty:TypeId}{x y:Operand}{p v:Value}{w':World}(ho:o.op = .store ty x y)(hx:a.eval x=p)(hy:a.eval y=v)(h:(Instr.storeAt ty p v).run P w = .ok () w'):(execOp a.eval o).run P w = .ok .skip w':=by
 unfold execOp;simp[ho,hx,hy,h]
theorem zdG {T:TypeId}{m k x:Operand}{vm vk vx:Value}{w':World}(ho:o.op = .mapUpdate T m k x)(hm:a.eval m=vm)(hk:a.eval k=vk)(hx:a.eval x=vx)(h:(Instr.mapUpdate T vm vk vx).run P w = .ok () w'):
  (execOp a.eval o).run P w = .ok .skip w':=by
 unfold execOp;simp[ho,hm,hk,hx,h]
theorem zaD {s d:TypeId}{x:Operand}{p v:Value}{w':World}(ho:o.op = .convert s d x)(hx:a.eval x=p)(h:(convert s d p).run P w = .ok v w'):(execOp a.eval o).run P w = .ok (.value v) w':=by
 unfold execOp;simp[ho,hx,h]
theorem zjY {T:TypeId}{m k:Operand}{b:Bool}{vm vk v:Value}{w':World}(ho:o.op = .lookup T m k b)(hm:a.eval m=vm)(hk:a.eval k=vk)(h:(Instr.lookup T vm vk b).run P w = .ok v w'):
  (execOp a.eval o).run P w = .ok (.value v) w':=by
 unfold execOp;simp[ho,hm,hk,h]
theorem zgf {T e:TypeId}{n:Nat}{x:Operand}{b:Option Addr}{l c:Nat}(ho:o.op = .sliceToArrayPointer T x)(hx:a.eval x = .slice b l c)(hT:P.underlying T=some (.array n e))(hn:n≤l):
  (execOp a.eval o).run P w = .ok (.value (.pointer b)) w:=by
 unfold execOp;simp[ho,hx,Instr.arrayAt,run_underlying hT,show ¬ l<n by omega]
theorem zlD {T:TypeId}{x:Operand}{p v:Value}{w':World}(ho:o.op = .range T x)(hx:a.eval x=p)(h:(Instr.range T p).run P w = .ok v w'):(execOp a.eval o).run P w = .ok (.value v) w':=by
 unfold execOp;simp[ho,hx,h]
theorem zmW {b:Bool}{x:Operand}{p v:Value}{w':World}(ho:o.op = .next x b)(hx:a.eval x=p)(h:∀ T,(Instr.next p b T).run P w = .ok v w'):(execOp a.eval o).run P w = .ok (.value v) w':=by
 unfold execOp;simp[ho,hx,h]
theorem zlC {x:Operand}{p v:Value}{w':World}(ho:o.op = .entry x)(hx:a.eval x=p)(h:(Instr.entry p).run P w = .ok v w'):(execOp a.eval o).run P w = .ok (.value v) w':=by
 unfold execOp;simp[ho,hx,h]
theorem zcr {T e:TypeId}{n sz b off i:Nat}{q:IntKind}{x y:Operand}{ti:TypeInfo}(ho:o.op = .indexAddr T x y)(hx:a.eval x = .pointer (some ⟨b,off,none⟩))(hy:a.eval y = .int q (i:Int))
  (hT:P.underlying T=some (.array n e)) (he:P.info? e=some ti) (hs:ti.size=sz) (hi:i<n):(execOp a.eval o).run P w = .ok (.value (.pointer (some ⟨b,off+i*sz,none⟩))) w:=by
 unfold execOp
 have h1:(0:Int)≤(i:Int)∧(i:Int)<(n:Int):=by omega
 simp[ho,hx,hy,Instr.indexAt,asIntOf,run_underlying hT,Instr.sureAddr,h1.1,hi,sizeOf,typeInfo,he,hs,Addr.add_mid]
theorem zaw {T e:TypeId}{n c sz b off i:Nat}{q:IntKind}{x y:Operand}{ti:TypeInfo}(ho:o.op = .indexAddr T x y)(hx:a.eval x = .slice (some ⟨b,off,none⟩) n c)(hy:a.eval y = .int q (i:Int))
  (hT:P.underlying T=some (.slice e)) (he:P.info? e=some ti) (hs:ti.size=sz) (hi:i<n):(execOp a.eval o).run P w = .ok (.value (.pointer (some ⟨b,off+i*sz,none⟩))) w:=by
 unfold execOp
 have h1:(0:Int)≤(i:Int)∧(i:Int)<(n:Int):=by omega
 simp[ho,hx,hy,Instr.indexAt,asIntOf,run_underlying hT,h1.1,hi,sizeOf,typeInfo,he,hs,Addr.add_mid]
theorem zau {op:BinOp}{t t2:TypeId}{x y:Operand}{vx vy v:Value}(ho:o.op = .binOp op t x y t2)(hx:a.eval x=vx)(hy:a.eval y=vy)(hg:eqGuard op t x y vx vy=pure ())
  (h:(binOp op t vx vy).run P w = .ok v w):(execOp a.eval o).run P w = .ok (.value v) w:=by
 unfold execOp;simp[ho,hx,hy,hg,h]
theorem zbl {ty:TypeId}{x:Operand}{ad:Addr}{v:Value}{d:TypeDesc}(ho:o.op = .load ty x)(hx:a.eval x = .pointer (some ad))(hT:P.underlying ty=some d)(hd:d.isRow=false)
  (hc:w.cell? ad=some v):(execOp a.eval o).run P w = .ok (.value v) w:=by
 refine zbC ho hx ?_
 have hagg:(isAgg ty).run P w = .ok false w:=by
  unfold isAgg;rw[Sem.run_bind,run_underlying hT w]
  cases d <;> simp_all [TypeDesc.isRow]
 simp[Instr.loadAt,Instr.sureAddr,loadVar,hagg,hc]
theorem zay {ty:TypeId}{x y:Operand}{ad:Addr}{v u:Value}{ti:TypeInfo}(ho:o.op = .store ty x y)(hx:a.eval x = .pointer (some ad))(hy:a.eval y=v)(hT:P.info? ty=some ti)(hs:ti.size=1)(hv:v.oneCell'=true)
  (hc:w.cell? ad=some u) (hf:w.frozen? ad=false):(execOp a.eval o).run P w = .ok .skip (w.setCell ad v):=by
 refine zdN ho hx hy ?_
 have hcs:v.cells=#[v]:=by cases v <;> first|rfl|simp[Value.oneCell'] at hv
 simp only[Instr.storeAt,Instr.sureAddr,storeVar,sizeOf,typeInfo,Sem.run_bind,run_program,hT,Sem.run_pure,Result.andThen_ok,hs,hcs];simp[storeCells,Addr.add,run_store P w ad v .plain hv,hc,hf]
theorem zhV (t:TypeId)(r:Nat)(hr:r<8)(w:World):(binOp .shl t (.int .u8 1) (.int .i64 (r:Int))).run P w = .ok (.int .u8 ((1 <<< UInt8.ofNat r:UInt8).toNat:Int)) w:=by
 match r,hr with
 | 0,_=>rfl
 | 1,_=>rfl
 | 2,_=>rfl
 | 3,_=>rfl
 | 4,_=>rfl
 | 5,_=>rfl
 | 6,_=>rfl
 | 7,_=>rfl
theorem zhW (t:TypeId)(x y:UInt8)(w:World):(binOp .xor t (.int .u8 (x.toNat:Int)) (.int .u8 (y.toNat:Int))).run P w = .ok (.int .u8 ((x ^^^ y).toNat:Int)) w:=by
 have h:=u8_xor_nat x.toNat y.toNat x.toNat_lt y.toNat_lt;have e:(binOp .xor t (.int .u8 (x.toNat:Int)) (.int .u8 (y.toNat:Int))).run P w = .ok (.int .u8 (bits .xor .u8 (x.toNat:Int) (y.toNat:Int))) w:=rfl;rw[e,h];simp
theorem zpO (q:Nat)(h:q≤4611686018427387904):IntKind.i64.wrap (q:Int)=(q:Int):=IntWalk.i64_in _ (by omega)
theorem zhb (t:TypeId)(x y:Nat)(hx:x≤4611686018427387904)(hy:0<y)(w:World):(binOp .quo t (.int .i64 (x:Int)) (.int .i64 (y:Int))).run P w = .ok (.int .i64 ((x / y:Nat):Int)) w:=by
 have hy0:¬ ((y:Int)=0):=by omega
 have hle:x / y≤x:=Nat.div_le_self x y
 have e:(x:Int).tdiv (y:Int)=((x / y:Nat):Int):=by rw[Int.natCast_ediv];exact Int.tdiv_eq_ediv_of_nonneg (by omega)
 have hw:=zpO (x / y) (Nat.le_trans hle hx);have h0:binOp .quo t (.int .i64 (x:Int)) (.int .i64 (y:Int))=Op.intDiv .quo .i64 (x:Int) (y:Int):=rfl;rw[h0];unfold Op.intDiv;rw[if_neg hy0,e];show Result.ok (Value.int .i64 (IntKind.i64.wrap ((x / y:Nat):Int))) w=_;rw[hw]
theorem zhc (t:TypeId)(x y:Nat)(hy:0<y)(w:World):(binOp .rem t (.int .i64 (x:Int)) (.int .i64 (y:Int))).run P w = .ok (.int .i64 ((x%y:Nat):Int)) w:=by
 have hy0:¬ ((y:Int)=0):=by omega
 have e:(x:Int).tmod (y:Int)=((x%y:Nat):Int):=by rw[Int.natCast_emod];exact Int.tmod_eq_emod_of_nonneg (by omega)
 have h0:binOp .rem t (.int .i64 (x:Int)) (.int .i64 (y:Int))=Op.intDiv .rem .i64 (x:Int) (y:Int):=rfl;rw[h0];unfold Op.intDiv;rw[if_neg hy0,e]
 rfl
theorem zhw {T e:TypeId}{n:Nat}{x:Operand}{ad:Addr}(ho:o.op = .slice T x none none none)(hx:a.eval x = .pointer (some ad))(hT:P.underlying T=some (.array n e))(he:(P.info? e).map (·.size)=some 1):
  (execOp a.eval o).run P w = .ok (.value (.slice (some ad) n n)) w:=by
 obtain⟨ti,hti,hts⟩:=Option.map_eq_some_iff.1 he;unfold execOp;simp[ho,hx,Instr.sliceAt,run_underlying hT,Instr.sureAddr,Instr.sliceBounds,sizeOf,typeInfo,hti,Addr.add]
theorem zia {T e:TypeId}{n c:Nat}{x y:Operand}{ad:Addr}(ho:o.op = .slice T x none (some y) none)(hx:a.eval x = .pointer (some ad))(hy:a.eval y = .int .i64 (c:Int))(hT:P.underlying T=some (.array n e))(he:(P.info? e).map (·.size)=some 1)(hc:c≤n):
  (execOp a.eval o).run P w = .ok (.value (.slice (some ad) c n)) w:=by
 obtain⟨ti,hti,hts⟩:=Option.map_eq_some_iff.1 he;unfold execOp;simp[ho,hx,hy,Instr.sliceAt,run_underlying hT,Instr.sureAddr,Instr.sliceBounds,Instr.sliceBound,asIntOf,sizeOf,typeInfo,hti,Addr.add,hc]
theorem zoO {ts:Array TypeId}{x y:Operand}{m n:Int}(ho:o.op = .call { callee:=.builtin .max,args:=#[x,y],argTypes:=ts })(hx:a.eval x = .int .i64 m)(hy:a.eval y = .int .i64 n):
  (execOp a.eval o).run P w = .ok (.value (.int .i64 (max m n))) w:=by
 unfold execOp;simp[ho,resolve,invoke,hx,hy,builtin,Builtin.max_,Builtin.max2]
 split <;> omega
theorem zoP {ts:Array TypeId}{x y:Operand}{m n:Int}(ho:o.op = .call { callee:=.builtin .min,args:=#[x,y],argTypes:=ts })(hx:a.eval x = .int .i64 m)(hy:a.eval y = .int .i64 n):
  (execOp a.eval o).run P w = .ok (.value (.int .i64 (min m n))) w:=by
 unfold execOp;simp[ho,resolve,invoke,hx,hy,builtin,Builtin.min_,Builtin.min2]
 split <;> omega
theorem zmV {x y:Operand}{T e:TypeId}{ad:Addr}{b off dl dc sl sc:Nat}{vs:List Value}(ho:o.op = .call { callee:=.builtin .copy,args:=#[x,y],argTypes:=#[T,T] })(hx:a.eval x = .slice (some ⟨b,off,none⟩) dl dc)(hy:a.eval y = .slice (some ad) sl sc)
  (hT:P.underlying T=some (.slice e)) (he:(P.info? e).map (·.size)=some 1) (hle:sl≤dl) (hl:vs.length=sl) (hs:∀ j v,vs[j]?=some v→w.cell? (ad.add j)=some v) (ht:w.there b off sl) (h1:∀ v ∈ vs,v.oneCell'=true):
  (execOp a.eval o).run P w = .ok (.value (.int .i64 (sl:Int))) (w.setCells b off vs):=by
 obtain⟨ti,hti,hts⟩:=Option.map_eq_some_iff.1 he;have hld:=run_loadCells_list (P:=P) w ad vs hs
 have hst:=run_storeCells_cells (P:=P) b off vs 0 w (fun j hj=>by simpa using (ht j (by omega)).1) (fun j hj=>by simpa using (ht j (by omega)).2) h1
 rw[hl] at hld;simp only[Nat.add_zero] at hst;have hmin:Nat.min sl dl=sl:=Nat.min_eq_left hle;unfold execOp;simp only[ho];simp[resolve,invoke,hx,hy,builtin,Builtin.copy_,run_underlying hT,Builtin.lenOf,hmin,sizeOf,typeInfo,hti,hts,Builtin.firstCells,hld,hst,goInt]
theorem zaT (hg:o.guard=none){v:Value}{w':World}(h:(execOp a.eval o).run P w = .ok (.value v) w')(k:wpList P ops Q rest (a.put o.dst v) w'):wpList P ops Q (o::rest) a w:=by
 refine wpList_plain hg fun K hK=>?_
 unfold Oper.wp;rw[h];exact hK _ _ k
theorem zai (hg:o.guard=none)(e:TypeId)(ho:o.op = .alloc e)(z:Array Value)(hz:(zeroValue e).run P w = .ok (.agg z) w)
  (k:wpList P ops Q rest (a.put o.dst (.pointer (some ⟨w.heap.size,0,none⟩))) (w.alloc (.cells z e))):wpList P ops Q (o::rest) a w:=by
 refine zaT hg (v:=.pointer (some ⟨w.heap.size,0,none⟩)) (w':=w.alloc (.cells z e)) ?_ k;unfold execOp;simp[ho,Instr.alloc,hz,newVar,newRow,Value.cells]
theorem zeq (hg:o.guard=none){T:TypeId}{x:Operand}{p v:Value}{w':World}(h:(Instr.range T p).run P w = .ok v w')(ho:o.op = .range T x)(hx:a.eval x=p)
  (k:wpList P ops Q rest (a.put o.dst v) w'):wpList P ops Q (o::rest) a w:=zaT hg (zlD ho hx h) k
theorem zcg (hg:o.guard=none){b:Bool}{x:Operand}{p v:Value}{w':World}(h:∀ T,(Instr.next p b T).run P w = .ok v w')(ho:o.op = .next x b)(hx:a.eval x=p)
  (k:wpList P ops Q rest (a.put o.dst v) w'):wpList P ops Q (o::rest) a w:=zaT hg (zmW ho hx h) k
theorem zep (hg:o.guard=none){x:Operand}{p v:Value}{w':World}(h:(Instr.entry p).run P w = .ok v w')(ho:o.op = .entry x)(hx:a.eval x=p)
  (k:wpList P ops Q rest (a.put o.dst v) w'):wpList P ops Q (o::rest) a w:=zaT hg (zlC ho hx h) k
theorem zga (hg:o.guard=none){T:TypeId}{m k:Operand}{b:Bool}{vm vk v:Value}{w':World}(h:(Instr.lookup T vm vk b).run P w = .ok v w')(ho:o.op = .lookup T m k b)(hm:a.eval m=vm)(hk:a.eval k=vk)
  (c:wpList P ops Q rest (a.put o.dst v) w'):wpList P ops Q (o::rest) a w:=zaT hg (zjY ho hm hk h) c
theorem zbU (hg:o.guard=none)(m k:Operand)(T K:TypeId)(ho:o.op=Op.call { callee:=Callee.builtin Builtin.delete,args:=#[m,k],argTypes:=#[T,K] }){vm vk:Value}{w':World}
  (hrun:∀ ty,(Builtin.delete_ #[T,K] ty #[vm,vk]).run P w = .ok (.tuple #[]) w') (hm:a.eval m=vm) (hk:a.eval k=vk)
  (h:wpList P ops Q rest (a.put o.dst (.tuple #[])) w'):wpList P ops Q (o::rest) a w:=by
 refine zaT hg (v:=.tuple #[]) (w':=w') ?_ h;unfold execOp;simp[ho,resolve,invoke,builtin,hm,hk,hrun]
theorem zc8 (hg:o.guard=none)(m:Operand)(T:TypeId)(ho:o.op=Op.call { callee:=Callee.builtin Builtin.clear,args:=#[m],argTypes:=#[T] }){vm:Value}{w':World}
  (hrun:∀ ty,(Builtin.clear_ #[T] ty #[vm]).run P w = .ok (.tuple #[]) w') (hm:a.eval m=vm)
  (h:wpList P ops Q rest (a.put o.dst (.tuple #[])) w'):wpList P ops Q (o::rest) a w:=by
 refine zaT hg (v:=.tuple #[]) (w':=w') ?_ h;unfold execOp;simp[ho,resolve,invoke,builtin,hm,hrun]
theorem zdK (w:World)(T:TypeId):∀ (vs:List Value) (i:Nat) (c:Array Value),i+vs.length≤c.size →
  (w.alloc (.cells c T)).setCells w.heap.size i vs=w.alloc (.cells (c.toList.take i++vs++c.toList.drop (i+vs.length)).toArray T)
 | [],i,c,h=>by simp[World.setCells]
 | v::r,i,c,h=>by
  simp only[List.length_cons] at h
  have h1:(w.alloc (.cells c T)).setCell ⟨w.heap.size,i,none⟩ v=w.alloc (.cells (c.setIfInBounds i v) T):=by
   simp only[World.setCell,World.alloc];congr 1;apply Array.ext
   ·simp
   ·intro j h1 h2
    simp only[Array.getElem_modify,Array.getElem_push]
    by_cases hj:w.heap.size=j
    ·subst hj;simp
    ·have:j<w.heap.size:=by simp at h1;omega
     simp[hj,this]
  rw[World.setCells,h1,zdK w T r (i+1) (c.setIfInBounds i v) (by simp;omega)];congr 2;apply Array.ext';simp only[Array.toList_setIfInBounds,List.length_cons];rw[List.take_set,List.drop_set_of_lt (by omega)];rw[show i+1+r.length=i+(r.length+1) by omega];rw[show (List.take (i+1) c.toList).set i v=List.take i c.toList++[v] from ?_]
  ·simp
  ·apply List.ext_getElem
   ·simp;omega
   ·intro j h1 h2
    simp only[List.getElem_set,List.getElem_take,List.getElem_append]
    by_cases hj:i=j
    ·subst hj;simp;intro h3;omega
    ·have:j<i:=by simp at h1;omega
     simp[hj];intro h3;omega
theorem zdF (hg:o.guard=none)(ty:TypeId)(x y:Operand)(ho:o.op = .store ty x y)(T:TypeId)(old new:Array Value)
  (hx:a.eval x = .pointer (some ⟨w.heap.size,0,none⟩)) (hy:a.eval y = .agg new) (hi:(P.info? ty).map (·.size)=some new.size) (hs:new.size=old.size) (h1:∀ v ∈ new.toList,v.oneCell'=true)
  (k:wpList P ops Q rest (a.put o.dst undef) (w.alloc (.cells new T))):wpList P ops Q (o::rest) a (w.alloc (.cells old T)):=by
 refine wpList_store_mid hg ty x y ho w.heap.size 0 new hx hy ?_ hi (Array.all_eq_true_iff_forall_mem.2 (fun v hv=>h1 v (by simpa using hv))) ?_
 ·intro j hj
  have hb:(w.alloc (.cells old T)).heap[w.heap.size]?=some (.cells old T (0,0)):=heap_alloc_new w _;simp only[Nat.zero_add];refine⟨?_,zaj hb j⟩;rw[zab hb j];simp;omega
 ·rw[zdK w T new.toList 0 old (by simp;omega)]
  have:(old.toList.take 0++new.toList++old.toList.drop (0+new.toList.length)).toArray=new:=by
   simp only[List.take_zero,List.nil_append,Nat.zero_add,Array.length_toList,hs];rw[List.drop_of_length_le (by simp)];simp
  rw[this];exact k
end
end Go.Sl
namespace Go.Sl
open Go Go.RowKit
def zaf (T:TypeId)(sz:Nat)(v:Value)(n:Nat)(xs:List Value):zsi:=
 ex fun g:Nat=>ex fun cap:Nat=>ex fun cur:Array Value=>⟨fun h=>(v = .slice none 0 0∧n=0∧xs=[]∧h=fun _=>none) ∨
  ((v = .slice (some ⟨g,0,none⟩) n cap∧n≤cap∧cap≤maxLen∧cur.size=cap*sz∧cur.toList.take (n*sz)=xs∧xs.length=n*sz)∧(pts g (.cells cur T (0,0))).holds h)⟩
section
variable {w:World} {T:TypeId} {sz n:Nat} {v:Value} {xs:List Value} {F:zsi}
theorem za4:Sat w (zaf T sz v n xs*F)↔(v = .slice none 0 0∧n=0∧xs=[]∧Sat w F) ∨
  ∃ g cap cur,(v = .slice (some ⟨g,0,none⟩) n cap∧n≤cap∧cap≤maxLen∧cur.size=cap*sz∧cur.toList.take (n*sz)=xs∧xs.length=n*sz)∧Sat w (pts g (.cells cur T (0,0))*F):=by
 unfold zaf;simp only[Sat.ex]
 constructor
 ·rintro⟨g,cap,cur,x,⟨a,b,ha,hb,hd,rfl⟩,hk⟩
  rcases ha with ⟨h1,h2,h3,rfl⟩|⟨h1,h2⟩
  ·refine .inl ⟨h1,h2,h3,b,hb,fun k o hko=>hk k o ?_⟩
   simp[un,hko]
  ·exact .inr ⟨g,cap,cur,h1,_,⟨a,b,h2,hb,hd,rfl⟩,hk⟩
 ·rintro (⟨h1,h2,h3,x,hx,hk⟩|⟨g,cap,cur,h1,x,⟨a,b,ha,hb,hd,rfl⟩,hk⟩)
  ·refine⟨0,0,#[],x,⟨fun _=>none,x,.inl ⟨h1,h2,h3,rfl⟩,hx,fun k=>.inl rfl,?_⟩,hk⟩
   funext k;simp[un]
  ·exact⟨g,cap,cur,_,⟨a,b,.inr ⟨h1,ha⟩,hb,hd,rfl⟩,hk⟩
theorem zbp:Sat w (zaf T sz (.slice none 0 0) 0 []*F)↔Sat w F:=by
 rw[za4]
 constructor
 ·rintro (⟨_,_,_,h⟩|⟨g,cap,cur,⟨h1,_⟩,_⟩)
  ·exact h
  ·simp at h1
 ·exact fun h=>.inl ⟨rfl,rfl,rfl,h⟩
theorem zal (h:Sat w (zaf T sz v n xs*F)):∃ ao cap,v = .slice ao n cap:=by
 rcases za4.1 h with ⟨rfl,rfl,_⟩|⟨g,cap,cur,⟨rfl,_⟩,_⟩
 ·exact⟨_,_,rfl⟩
 ·exact⟨_,_,rfl⟩
theorem znx (h:Sat w (zaf T sz v n xs*F)):xs.length=n*sz:=by
 rcases za4.1 h with ⟨_,rfl,rfl,_⟩|⟨g,cap,cur,⟨_,_,_,_,_,h⟩,_⟩
 ·simp
 ·exact h
theorem zbd (h:Sat w (zaf T sz v n xs*F))(hn:0<n):∃ g cap,v = .slice (some ⟨g,0,none⟩) n cap∧∀ j u,xs[j]?=some u→w.cell? ⟨g,j,none⟩=some u:=by
 rcases za4.1 h with ⟨_,rfl,rfl,_⟩|⟨g,cap,cur,⟨rfl,_,_,_,rfl,_⟩,hs⟩
 ·omega
 ·refine⟨g,cap,rfl,fun j u hu=>?_⟩
  rw[zab hs.block];rw[List.getElem?_take] at hu;split at hu
  ·rw[Array.getElem?_toList] at hu;exact hu
  ·cases hu
theorem Sat.ownRow {w':World}{B:Nat}(hF:Sat w F)(hk:∀ k,k<w.heap.size→w'.heap[k]?=w.heap[k]?)(hB:w.heap.size≤B)(h:w'.ownsRow B T sz v n xs):Sat w' (zaf T sz v n xs*F):=by
 obtain⟨hl,hc⟩:=h;rcases hc with ⟨rfl,rfl⟩|⟨g,cap,cur,rfl,hg,hb,h1,h2,h3,h4⟩
 ·obtain rfl:xs=[]:=List.eq_nil_of_length_eq_zero (by simpa using hl)
  exact zbp.2 (hF.keep hk)
 ·exact za4.2 (.inr ⟨g,cap,cur,⟨rfl,h1,h2,h3,h4,hl⟩,hF.growAt hk (Nat.le_trans hB hg) hb⟩)
end
section
variable {P:Program} {w:World} {F:zsi}
theorem zaH (t ty e:TypeId)(i:TypeInfo)(z:Value)(ht:P.underlying t=some (.slice e))(hi:P.info? e=some i)(hz:i.zero=some z)(hzs:z.cells.size=i.size)
  (v:Value) (n:Nat) (xs:List Value) (h:Sat w (zaf e i.size v n xs*F))
  (a:Addr) (m c:Nat) (news:List Value) (hl:news.length=m*i.size) (hnews:∀ j u,news[j]?=some u→w.cell? (a.add j)=some u) (h1:∀ u ∈ news,u.oneCell'=true)
  (h63:n+m≤maxLen) (hbytes:(n+m)*i.bytes≤140737488355328):
  ∃ v' w',(Builtin.append_ #[t,t] ty #[v,.slice (some a) m c]).run P w = .ok v' w'∧Same w w'∧Sat w' (zaf e i.size v' (n+m) (xs++news)*F):=by
 have hsmall:n+m≤9223372036854775807:=by simp only[maxLen] at h63;omega
 have hxl:=znx h
 have hlen:(xs++news).length=(n+m)*i.size:=by rw[List.length_append,hxl,hl,Nat.add_mul]
 have grown:∀ (old:Nat) (F:zsi),Sat w F → 
   Sat (w.drew.alloc (.cells (xs.toArray++news.toArray++Builtin.zeroCells z.cells (grownCap w (n+m) old e - (n+m))) e))
    (zaf e i.size (.slice (some ⟨w.heap.size,0,none⟩) (n+m) (grownCap w (n+m) old e)) (n+m) (xs++news)*F):=by
  intro old F hF;have hge:=grownCap_ge w (n+m) old e;have hcm:grownCap w (n+m) old e≤maxLen:=grownCap_le_maxLen w (n+m) old e h63;refine za4.2 (.inr ⟨w.heap.size,_,_,⟨rfl,hge,hcm,?_,?_,hlen⟩,hF.drew.alloc _⟩)
  ·simp only[Array.size_append,List.size_toArray,size_zeroCells,hzs,hxl,hl,← Nat.add_mul]
   congr 1;omega
  ·simp only[Array.toList_append,List.append_assoc]
   rw[← List.append_assoc,← hlen];exact List.take_left
 have hsame:∀ o,Same w (w.drew.alloc o):=fun o=>((Same.refl w).drew).alloc o
 rcases za4.1 h with ⟨rfl,rfl,rfl,hF⟩|⟨g,cap,cur,⟨rfl,hnc,hcm,hcs,htake,_⟩,hs⟩
 ·by_cases hm:m=0
  ·subst hm
   have hn:news=[]:=List.eq_nil_of_length_eq_zero (by simpa using hl);subst hn;refine⟨.slice none 0 0,w,?_,Same.refl w,zbp.2 hF⟩;simp[Builtin.append_,run_underlying ht,sizeOf,typeInfo,hi,Builtin.lenOf,Builtin.firstCells,loadCells,loadCellsFrom]
  ·have hr:=run_append_nil (P:=P) w t ty e i z ht hi hz a m c news hl hnews (by omega) (by omega) (by have hb:=hbytes;simp only[Nat.zero_add] at hb;omega)
   have hgr:=grown 0 F hF;simp only[Nat.zero_add,List.nil_append,Array.empty_append] at hgr ⊢;exact⟨_,_,hr,hsame _,hgr⟩
 ·by_cases hroom:n+m≤cap
  ·have hfit:n*i.size+news.length≤cur.size:=by rw[hl,hcs,← Nat.add_mul];exact Nat.mul_le_mul_right _ hroom
   have hr:=run_append_room (P:=P) w t ty e i ht hi g n cap cur hs.block a m c news hl hnews h1 hroom hfit;refine⟨_,_,hr,Same.setRow (Same.refl w) _ _,za4.2 (.inr ⟨g,cap,_,⟨rfl,hroom,hcm,?_,?_,hlen⟩,hs.setRow⟩)⟩
   ·simp only[List.size_toArray,List.length_append,List.length_take,List.length_drop,Array.length_toList]
    omega
   ·rw[htake,← hlen]
    exact List.take_left
  ·have holds:∀ j u,xs[j]?=some u→w.cell? ((⟨g,0,none⟩:Addr).add j)=some u:=by
    intro j u hu;rw[Addr.add_mid,zab hs.block,Nat.zero_add];rw[← htake,List.getElem?_take] at hu;split at hu
    ·rw[Array.getElem?_toList] at hu;exact hu
    ·cases hu
   have hr:=run_append_grow (P:=P) w t ty e i z ht hi hz ⟨g,0,none⟩ n cap xs hxl holds a m c news hl hnews (by omega) (by omega) (growslice_fits (by omega) hbytes);exact⟨_,_,hr,hsame _,grown cap F hs.right⟩
theorem zaq {ops:Array Oper}{rest:List Oper}{o:Oper}{a:Act}{Q:Exit→Act→World→Prop}(hg:o.guard=none)(s x:Operand)(t e:TypeId)
  (ho:o.op = .call { callee:=.builtin .append,args:=#[s,x],argTypes:=#[t,t] }) (i:TypeInfo) (z:Value) (ht:P.underlying t=some (.slice e)) (hi:P.info? e=some i) (hz:i.zero=some z) {sz by_:Nat} (hsz:i.size=sz) (hby:i.bytes=by_) (hzs:z.cells.size=sz)
  {v:Value} {n:Nat} {xs:List Value} (h:Sat w (zaf e sz v n xs*F)) {ad:Addr} {m c:Nat} (news:List Value) (hs:a.eval s=v) (hx:a.eval x = .slice (some ad) m c)
  (hl:news.length=m*sz) (hnews:∀ j u,news[j]?=some u→w.cell? (ad.add j)=some u) (h1:∀ u ∈ news,u.oneCell'=true) (h63:n+m≤maxLen) (hbytes:(n+m)*by_≤140737488355328)
  (k:∀ v' w',Hid (Same w w'∧Sat w' (zaf e sz v' (n+m) (xs++news)*F))→wpList P ops Q rest (a.put o.dst v') w'):wpList P ops Q (o::rest) a w:=by
 subst hsz hby;obtain⟨v',w',hr,h2,h3⟩:=zaH (P:=P) t o.type e i z ht hi hz hzs v n xs h ad m c news hl hnews h1 h63 hbytes;refine zaT hg (v:=v') (w':=w') ?_ (k v' w' ⟨h2,h3⟩);unfold execOp;simp only[ho,resolve,invoke,builtin,Sem.run_bind,Sem.run_pure,Result.andThen_ok,List.map_toArray,List.map_cons,List.map_nil,hs,hx,hr]
end
end Go.Sl
