import Derived.Laws.MakeOwn
import Derived.Test.YtmcclbiaoeilkaaGreatQ08
set_option maxHeartbeats 8000000
set_option maxRecDepth 20000
/- Part 24 of a proof;the last part says what is proved. -/
section
namespace Go.Proofs.YtmcclbiaoeilkaaGreat
open Go.Proofs.Tryz Go.RowKit Go.Sl Go.ChangeMaps
theorem zeD (n lo hi:Int)(w:World):Calls prog 85 #[n,lo,hi] w fun e w'=>e = .returned (.bool (inB n lo hi))∧w=w':=by
 by_cases h:lo≤n
 ·have hb:inB n lo hi=decide (n≤hi):=by unfold inB;rw[decide_eq_true h];rfl
  rw[hb];have hd:decide (lo≤n)=true:=decide_eq_true h;clear h hb;go_enter func85,ntmps85;go_wp2;go_ret;exact⟨rfl,rfl⟩
 ·have hb:inB n lo hi=false:=by unfold inB;rw[decide_eq_false h];rfl
  rw[hb];have hd:decide (lo≤n)=false:=decide_eq_false h;clear h hb;go_enter func85,ntmps85;go_wp2;go_ret;exact⟨rfl,rfl⟩
theorem zhS (c:zsl)(w:World):Calls prog 31 #[.agg (za8 c)] w fun e w'=>e = .returned (.int .i64 (if c.ok=true then 0 else 1))∧Below w.heap.size w w':=by
 have hok:c.ok=(inB c.disks 1 64&&inB c.racks 1 8&&inB c.rows 1 4096&&inB c.spare 0 (c.disks - 1)&&inB c.log 1 65536&&inB c.image 1 65536&&decide (c.disks%c.racks=0)):=rfl;cases h1:inB c.disks 1 64
 case false =>
  have he:c.ok=false:=by rw[hok];simp[h1]
  rw[he];clear he hok;go_enter func31,ntmps31;go_wp2_with (go_at_call 85;refine (zeD _ _ _ _).mono ?_;rintro e w' ⟨rfl,rfl⟩);go_ret;exact⟨rfl,(Below.refl _ _).alloc (Nat.le_refl _) _⟩
 have hd:=h1;unfold inB at hd;simp only[Bool.and_eq_true,decide_eq_true_eq] at hd;have hd1:=hd.1;have hd2:=hd.2;clear hd;cases h2:inB c.racks 1 8
 case false =>
  have he:c.ok=false:=by rw[hok];simp[h2]
  rw[he];clear he hok;go_enter func31,ntmps31;go_wp2_with (go_at_call 85;refine (zeD _ _ _ _).mono ?_;rintro e w' ⟨rfl,rfl⟩);go_ret;exact⟨rfl,(Below.refl _ _).alloc (Nat.le_refl _) _⟩
 have hr:=h2;unfold inB at hr;simp only[Bool.and_eq_true,decide_eq_true_eq] at hr;have hr1:=hr.1;have hr2:=hr.2;clear hr;cases h3:inB c.rows 1 4096
 case false =>
  have he:c.ok=false:=by rw[hok];simp[h3]
  rw[he];clear he hok;go_enter func31,ntmps31;go_wp2_with (go_at_call 85;refine (zeD _ _ _ _).mono ?_;rintro e w' ⟨rfl,rfl⟩);go_ret;exact⟨rfl,(Below.refl _ _).alloc (Nat.le_refl _) _⟩
 cases h5:inB c.log 1 65536
 case false =>
  have he:c.ok=false:=by rw[hok];simp[h5]
  rw[he];clear he hok;go_enter func31,ntmps31;go_wp2_with (go_at_call 85;refine (zeD _ _ _ _).mono ?_;rintro e w' ⟨rfl,rfl⟩);go_ret;exact⟨rfl,(Below.refl _ _).alloc (Nat.le_refl _) _⟩
 cases h6:inB c.image 1 65536
 case false =>
  have he:c.ok=false:=by rw[hok];simp[h6]
  rw[he];clear he hok;go_enter func31,ntmps31;go_wp2_with (go_at_call 85;refine (zeD _ _ _ _).mono ?_;rintro e w' ⟨rfl,rfl⟩);go_ret;exact⟨rfl,(Below.refl _ _).alloc (Nat.le_refl _) _⟩
 have hws:IntKind.i64.wrap (c.disks - 1)=c.disks - 1:=IntWalk.i64_in _ (by omega)
 by_cases h7:c.disks%c.racks=0
 ·have h7':(c.disks%c.racks != 0)=false:=by simp[h7]
  cases h4:inB c.spare 0 (c.disks - 1)
  ·have he:c.ok=false:=by rw[hok];simp[h4]
   rw[he];clear he hok h7;go_enter func31,ntmps31;go_wp2_with (go_at_call 85;refine (zeD _ _ _ _).mono ?_;rintro e w' ⟨rfl,rfl⟩);go_ret;exact⟨rfl,(Below.refl _ _).alloc (Nat.le_refl _) _⟩
  ·have he:c.ok=true:=by rw[hok];simp[h1,h2,h3,h4,h5,h6,h7]
   rw[he];clear he hok h7;go_enter func31,ntmps31;go_wp2_with (go_at_call 85;refine (zeD _ _ _ _).mono ?_;rintro e w' ⟨rfl,rfl⟩);go_ret;exact⟨rfl,(Below.refl _ _).alloc (Nat.le_refl _) _⟩
 ·have he:c.ok=false:=by rw[hok];simp[h7]
  rw[he]
  have h7':(c.disks%c.racks != 0)=true:=by simp[h7]
  clear he hok h7;go_enter func31,ntmps31;go_wp2_with (go_at_call 85;refine (zeD _ _ _ _).mono ?_;rintro e w' ⟨rfl,rfl⟩);go_ret;exact⟨rfl,(Below.refl _ _).alloc (Nat.le_refl _) _⟩
end Go.Proofs.YtmcclbiaoeilkaaGreat
end
section
namespace Go.Sl
open Go Go.RowKit
structure SecM where
 dur:List UInt8
 cac:List UInt8
 pend:Bool
 fault:Int
abbrev SecV:=SecM×Value×Value
def za2 (l:List UInt8):List Value:=l.map fun b=>Value.int .u8 (b.toNat:Int)
def zd2 (x:SecV):List Value:=[x.2.1,x.2.2,.bool x.1.pend,.int .i64 x.1.fault]
theorem zla (x:SecV):(zd2 x).length=4:=rfl
def zbW (T:TypeId)(v:Value)(l:List UInt8):zsi:=
 ex fun g:Nat=>ex fun cap:Nat=>ex fun cur:Array Value=>ex fun fr:Nat×Nat=>⟨fun h=>(v = .slice none 0 0∧l=[]∧h=fun _=>none) ∨
  ((v = .slice (some ⟨g,0,none⟩) l.length cap∧l.length≤cap∧∀ (j:Nat) (u:Value),(za2 l)[j]?=some u→cur[j]?=some u)∧(pts g (.cells cur T fr)).holds h)⟩
theorem ze2 {T:TypeId}{v:Value}{l:List UInt8}{w:World}{F:zsi}:Sat w (zbW T v l*F)↔(v = .slice none 0 0∧l=[]∧Sat w F) ∨
  ∃ g cap cur fr,(v = .slice (some ⟨g,0,none⟩) l.length cap∧l.length≤cap∧∀ (j:Nat) (u:Value),(za2 l)[j]?=some u→cur[j]?=some u)∧Sat w (pts g (.cells cur T fr)*F):=by
 unfold zbW;simp only[Sat.ex]
 constructor
 ·rintro⟨g,cap,cur,fr,x,⟨a,b,ha,hb,hd,rfl⟩,hk⟩
  rcases ha with ⟨h1,h2,rfl⟩|⟨h1,h2⟩
  ·refine .inl ⟨h1,h2,b,hb,fun k o hko=>hk k o ?_⟩
   simp[un,hko]
  ·exact .inr ⟨g,cap,cur,fr,h1,_,⟨a,b,h2,hb,hd,rfl⟩,hk⟩
 ·rintro (⟨h1,h2,x,hx,hk⟩|⟨g,cap,cur,fr,h1,x,⟨a,b,ha,hb,hd,rfl⟩,hk⟩)
  ·refine⟨0,0,#[],(0,0),x,⟨fun _=>none,x,.inl ⟨h1,h2,rfl⟩,hx,fun k=>.inl rfl,?_⟩,hk⟩
   funext k;simp[un]
  ·exact⟨g,cap,cur,fr,_,⟨a,b,.inr ⟨h1,ha⟩,hb,hd,rfl⟩,hk⟩
theorem zk5 {T:TypeId}{w:World}{F:zsi}(h:Sat w F):Sat w (zbW T (.slice none 0 0) []*F):=ze2.2 (.inl ⟨rfl,rfl,h⟩)
theorem zee {T:TypeId}{v:Value}{l:List UInt8}{w:World}{F:zsi}(h:Sat w (zaf T 1 v l.length (za2 l)*F)):Sat w (zbW T v l*F):=by
 rcases za4.1 h with ⟨h1,h2,_,h3⟩|⟨g,cap,cur,⟨h1,hle,_,_,h4,_⟩,hs⟩
 ·exact ze2.2 (.inl ⟨h1,List.length_eq_zero_iff.1 h2,h3⟩)
 ·refine ze2.2 (.inr ⟨g,cap,cur,(0,0),⟨h1,hle,fun j u hu=>?_⟩,hs⟩)
  rw[← h4,List.getElem?_take] at hu;split at hu
  ·rw[Array.getElem?_toList] at hu;exact hu
  ·cases hu
def zhD (TB:TypeId)(x:SecV):zsi:=zbW TB x.2.1 x.1.dur*zbW TB x.2.2 x.1.cac
def zbM (TB:TypeId):List SecV→zsi
 | []=>emp
 | x::r=>zhD TB x*zbM TB r
theorem zdD (TB:TypeId):∀ A B:List SecV,zbM TB (A++B)=zbM TB A*zbM TB B
 | [],B=>by rw[List.nil_append];exact (zaL _).symm
 | x::A,B=>by
  show zhD TB x*zbM TB (A++B)=zhD TB x*zbM TB A*zbM TB B;rw[zdD TB A B];ac_rfl
theorem znY (TB:TypeId)(A B:List SecV)(x:SecV):zbM TB (A++x::B)=zhD TB x*(zbM TB A*zbM TB B):=by
 rw[zdD];show zbM TB A*(zhD TB x*zbM TB B)=_
 ac_rfl
theorem zpH {α:Type}{L:List α}{k:Nat}{x:α}(h:L[k]?=some x):∃ A B,L=A++x::B∧A.length=k:=by
 induction L generalizing k with
 | nil=>simp at h
 | cons y r ih =>
  cases k with
  | zero=>simp at h;subst h;exact⟨[],r,rfl,rfl⟩
  | succ k =>
   obtain⟨A,B,rfl,hA⟩:=ih (k:=k) (by simpa using h);exact⟨y::A,B,rfl,by simp[hA]⟩
def zmX (D:zsh)(i:Nat):Int:=match D.armed i with
 | none => -2
 | some j=>j
structure RefOf (D:zsh)(L:List SecV):Prop where
 len:L.length=D.n
 dur:∀ i x,L[i]?=some x→x.1.dur=D.dur i
 pend:∀ i x,L[i]?=some x→x.1.pend=(D.cache i).isSome
 cac:∀ i x s,L[i]?=some x→D.cache i=some s→x.1.cac=s
 fault:∀ i x,L[i]?=some x→x.1.fault=zmX D i
 clen:∀ (i:Nat) (x:SecV),L[i]?=some x→x.1.cac.length≤64
structure RfT where
 disk:TypeId
 sec:TypeId
 byte:TypeId
def zrn (T:RfT)(p:Nat)(_:zsh)(v:Value)(L:List SecV):zsi:=pts p (.cells #[v] T.disk (0,0))*(zaf T.sec 4 v L.length (L.flatMap zd2)*zbM T.byte L)
def zbF (T:RfT)(p:Nat)(D:zsh):zsi:=ex fun v=>ex fun L=>lift (D.WF∧RefOf D L)*zrn T p D v L
theorem zbz {T:RfT}{p:Nat}{D:zsh}{w:World}{F:zsi}:Sat w (zbF T p D*F)↔∃ v L,(D.WF∧RefOf D L)∧Sat w (pts p (.cells #[v] T.disk (0,0))*(zaf T.sec 4 v L.length (L.flatMap zd2)*(zbM T.byte L*F))):=by
 unfold zbF zrn;simp only[Sat.ex,zax,Sat.lift]
theorem zid {α:Type}(enc:α→List Value)(k:Nat)(hk:∀ x,(enc x).length=k):∀ (l:List α) (i:Nat) (x:α),l[i]?=some x→∀ (j:Nat) (u:Value),(enc x)[j]?=some u→(l.flatMap enc)[i*k+j]?=some u
 | [],i,x,h,_,_,_=>by simp at h
 | a::l,0,x,h,j,u,hu=>by
  simp only[List.getElem?_cons_zero,Option.some.injEq] at h;subst h;rw[List.flatMap_cons,Nat.zero_mul,Nat.zero_add,List.getElem?_append_left (List.getElem?_eq_some_iff.1 hu).1];exact hu
 | a::l,i+1,x,h,j,u,hu=>by
  simp only[List.getElem?_cons_succ] at h
  have e:(i+1)*k+j=(enc a).length+(i*k+j):=by rw[hk,Nat.succ_mul];omega
  rw[List.flatMap_cons,e,List.getElem?_append_right (Nat.le_add_right _ _),Nat.add_sub_cancel_left];exact zid enc k hk l i x h j u hu
theorem zco {T:TypeId}{w:World}{ao:Option Addr}{n cap:Nat}{L:List SecV}{F:zsi}(h:Sat w (zaf T 4 (.slice ao n cap) L.length (L.flatMap zd2)*F)){i:Nat}{x:SecV}(hx:L[i]?=some x):∃ g:Nat,ao=some ⟨g,0,none⟩∧
  w.cell? ⟨g,i*4,none⟩=some x.2.1∧w.cell? ⟨g,i*4+1,none⟩=some x.2.2∧w.cell? ⟨g,i*4+2,none⟩=some (.bool x.1.pend)∧w.cell? ⟨g,i*4+3,none⟩=some (.int .i64 x.1.fault):=by
 obtain⟨g,cap',e,hc⟩:=zbd h (by have:=(List.getElem?_eq_some_iff.1 hx).1;omega);simp only[Value.slice.injEq] at e;have k:=zid zd2 4 zla L i x hx;refine⟨g,e.1,?_,hc _ _ (k 1 _ rfl),hc _ _ (k 2 _ rfl),hc _ _ (k 3 _ rfl)⟩;have:=hc _ _ (k 0 _ rfl)
 rwa [Nat.add_zero] at this
theorem zbI {T:TypeId}{w:World}{v:Value}{l:List UInt8}{F:zsi}(h:Sat w (zbW T v l*F)):∃ ao cap,v = .slice ao l.length cap∧(l≠[]→∃ g:Nat,ao=some ⟨g,0,none⟩∧(g<w.heap.size∧l.length≤cap)∧∀ j (hj:j<l.length),w.cell? ⟨g,j,none⟩=some (.int .u8 ((l[j]'hj).toNat:Int))):=by
 rcases ze2.1 h with ⟨rfl,rfl,_⟩|⟨g,cap,cur,fr,⟨rfl,hle,hc⟩,hs⟩
 ·exact⟨_,_,rfl,fun h=>absurd rfl h⟩
 ·refine⟨_,_,rfl,fun _=>⟨g,rfl,⟨hs.lt,hle⟩,fun j hj=>?_⟩⟩
  rw[zab hs.block];refine hc j _ ?_;unfold za2;rw[List.getElem?_map,List.getElem?_eq_getElem hj];rfl
end Go.Sl
namespace Go.Proofs.YtmcclbiaoeilkaaGreat
open Go.Proofs.Tryz Go.RowKit Go.Sl Go.ChangeMaps
abbrev TRk:TypeId:=133
abbrev TRs:TypeId:=135
abbrev TU8:TypeId:=5
abbrev RT:RfT:=⟨TRk,TRs,TU8⟩
def zh2 (s:List UInt8):ByteArray:=⟨s.toArray⟩
theorem zg8 (p:Nat)(v:Value)(n:Nat)(i:Int)(w:World)(hc:w.cell? ⟨p,0,none⟩=some v)(hv:∃ ao cap,v = .slice ao n cap):
  Calls prog 119 #[.pointer (some ⟨p,0,none⟩),i] w fun e w'=>e = .returned (.bool (decide (0≤i)&&decide (i<(n:Int))))∧w=w':=by
 obtain⟨ao,cap,rfl⟩:=hv
 by_cases h0:0≤i
 ·have hd:decide (0≤i)=true:=decide_eq_true h0
  rw[hd,Bool.true_and];clear h0;go_enter func119,ntmps119;go_wp2;go_ret;exact⟨rfl,rfl⟩
 ·have hd:decide (0≤i)=false:=decide_eq_false h0
  rw[hd,Bool.false_and];clear h0 hc;go_enter func119,ntmps119;go_wp2;go_ret;exact⟨rfl,rfl⟩
theorem zkE {w:World}{v:Value}{l:List UInt8}{F:zsi}(h:Sat w (zbW TU8 v l*F))(hl:l.length=64):(convert 69 9 v).run prog w = .ok (.string (zh2 l)) w:=by
 obtain⟨ao,cap,rfl,hc⟩:=zbI h;obtain⟨g,rfl,_,hc2⟩:=hc (by rintro rfl;simp at hl)
 have:=run_convert_bytes_back (P:=prog) w 69 9 5 ⟨g,0,none⟩ cap l underlying69 underlying5 underlying9 (by
  intro j hj;rw[Addr.add_mid,Nat.zero_add]
  exact hc2 j hj)
 exact this
theorem zjo (p:Nat)(D:zsh)(F:zsi)(i:Int)(w:World)(hS:Sat w (zbF RT p D*F)):
  Calls prog 75 #[.pointer (some ⟨p,0,none⟩),i] w fun e w'=>e = .returned (.tuple #[.string (zh2 (D.read i).1),.int .i64 (D.read i).2])∧w=w':=by
 obtain⟨v,L,⟨hwf,hr⟩,hs⟩:=zbz.1 hS;have c0:w.cell? ⟨p,0,none⟩=some v:=zab hs.block 0;obtain⟨ao,cap,rfl⟩:=zal hs.right;have HI:=zh (zg8 p (.slice ao L.length cap) L.length i w c0 ⟨ao,cap,rfl⟩);obtain⟨G,hG⟩:∃ G,Hid (D.read i=G):=⟨_,zh rfl⟩;rw[hG.out];have hlen:=hr.len
 by_cases hi:0≤i∧i<(L.length:Int)
 ·obtain⟨k,rfl⟩:=Int.eq_ofNat_of_zero_le hi.1
  have hk:k<L.length:=by omega
  have hb:(decide (0≤(k:Int))&&decide ((k:Int)<(L.length:Int)))=true:=by rw[decide_eq_true hi.1,decide_eq_true hi.2];rfl
  rw[hb] at HI;obtain⟨x,hx⟩:∃ x,L[k]?=some x:=⟨_,List.getElem?_eq_getElem hk⟩;obtain⟨g,rfl,e0,e1,e2,e3⟩:=zco hs.right hx;have hltd:decide ((k:Int)<(L.length:Int))=true:=decide_eq_true hi.2
  have hki:(k:Int)≤65536:=by have:=hwf.small;omega
  have hin:D.has (k:Int)=true:=by unfold zsh.has;rw[decide_eq_true hi.1,decide_eq_true (show (k:Int)<(D.n:Int) by omega)];rfl
  have hGv:G=(D.content k,0):=by rw[← hG.out];unfold zsh.read;rw[if_pos hin];simp
  have hd64:=hwf.dur k (by omega);obtain⟨A,B,hAB,hA⟩:=zpH hx;have hsec:=hs.right.right.left;rw[hAB,znY] at hsec;cases hp:x.1.pend
  ·have hcn:D.cache k=none:=by
    have h1:=hr.pend k x hx;rw[hp] at h1
    cases hc:D.cache k with
    | none=>rfl
    | some s=>rw[hc] at h1;cases h1
   have hdx:=hr.dur k x hx
   have hval:D.content k=x.1.dur:=by unfold zsh.content;rw[hcn,hdx];rfl
   have hcv:=zkE (v:=x.2.1) (l:=x.1.dur) (F:=zbW TU8 x.2.2 x.1.cac*(zbM TU8 A*zbM TU8 B)) (by have h:=hsec;unfold zhD at h;exact h.perm (by ac_rfl)) (by rw[hdx];exact hd64);rw[hGv,hval];rw[hp] at e2;clear hG hGv hval hsec hs hS hr hwf hx hcn hdx hd64 hA hi hlen hb hin hAB A B;go_enter func75,ntmps75
   go_wp2_with (first
    | (go_at_call 119;refine HI.out.mono ?_;rintro e w' ⟨rfl,rfl⟩)
    | ((with_reducible (refine zaT ?_ (zaD ?_ ?_ hcv) ?_));rfl;rfl;rfl))
   go_ret2;exact⟨rfl,rfl⟩
  ·obtain⟨s,hcs⟩:∃ s,D.cache k=some s:=by
    have h1:=hr.pend k x hx;rw[hp] at h1;exact Option.isSome_iff_exists.1 h1.symm
   have hcx:=hr.cac k x s hx hcs
   have hval:D.content k=x.1.cac:=by unfold zsh.content;rw[hcs,hcx];rfl
   have hcv:=zkE (v:=x.2.2) (l:=x.1.cac) (F:=zbW TU8 x.2.1 x.1.dur*(zbM TU8 A*zbM TU8 B)) (by have h:=hsec;unfold zhD at h;exact h.perm (by ac_rfl)) (by rw[hcx];exact (hwf.cache k s hcs).2);rw[hGv,hval];rw[hp] at e2;clear hG hGv hval hsec hs hS hr hwf hx hcs hcx hd64 hA hi hlen hb hin hAB A B;go_enter func75,ntmps75
   go_wp2_with (first
    | (go_at_call 119;refine HI.out.mono ?_;rintro e w' ⟨rfl,rfl⟩)
    | ((with_reducible (refine zaT ?_ (zaD ?_ ?_ hcv) ?_));rfl;rfl;rfl))
   go_ret2;exact⟨rfl,rfl⟩
 ·have hb:(decide (0≤i)&&decide (i<(L.length:Int)))=false:=by
   cases h:(decide (0≤i)&&decide (i<(L.length:Int)))
   ·rfl
   ·rw[Bool.and_eq_true,decide_eq_true_eq,decide_eq_true_eq] at h;exact absurd h hi
  rw[hb] at HI
  have hin:D.has i=false:=by unfold zsh.has;rw[← hlen];exact hb
  obtain rfl:([],1)=G:=by rw[← hG.out];unfold zsh.read;rw[hin];rfl
  clear hG hs hS hr hwf hi hlen hb hin;go_enter func75,ntmps75;go_wp2_with (go_at_call 119;refine HI.out.mono ?_;rintro e w' ⟨rfl,rfl⟩);go_ret2;exact⟨rfl,rfl⟩
def zjJ (v:Value):SecV:=(⟨zck,[],false,-2⟩,v,.slice none 0 0)
theorem znc:(prog.info? TRs).map (fun i=>(i.zero,i.size,i.bytes))=some (some (.agg #[.slice none 0 0,.slice none 0 0,.bool false,.int .i64 0]),4,64):=by kernel_rfl
theorem zfm:(prog.info? TU8).map (fun i=>(i.zero,i.size,i.bytes))=some (some (.int .u8 0),1,1):=by kernel_rfl
theorem zrf (w:World):(Instr.makeSlice 69 (.int .i64 64) (.int .i64 64)).run prog w = .ok (.slice (some ⟨w.heap.size,0,none⟩) 64 64) (w.alloc (.cells (za2 zck).toArray TU8)):=by
 obtain⟨ti,hti,hz0,hts,hz2⟩:=info_parts zfm;have h:=run_makeSlice (w:=w) 69 TU8 ti _ underlying69 hti hz0 .i64 .i64 64 64 (by decide) (by decide) (by rw[hts];decide) (by rw[hz2];decide) (by decide);rw[hts] at h
 have e:madeCells (Value.int IntKind.u8 0).cells (Int.toNat 64*1)=(za2 zck).toArray:=by kernel_rfl
 rw[e] at h;exact h
theorem zpb (n:Int):(zsh.new n).WF where
 dur:=fun _ _=>zbe
 cache:=fun i s h=>nomatch (show (none:Option (List UInt8))=some s from h)
 armed:=fun i j h=>nomatch (show (none:Option Int)=some j from h)
 small:=by unfold zsh.new;show (min (max n 0) 65536).toNat≤65536;omega
structure zr9 (w:World)(n:Int)(p:Nat)(F:zsi)(i:Value)(wr:World):Prop where
 st:∃ (k:Nat) (v:Value) (vs:List Value),k≤65536∧(k:Int)≤max n 0∧i = .int .i64 (k:Int)∧vs.length=k∧Hid (Same w wr∧Sat wr (pts p (.cells #[v] TRk (0,0))*(zaf TRs 4 v k ((vs.map zjJ).flatMap zd2)*(zbM TU8 (vs.map zjJ)*F))))
theorem zql (n:Nat)(vs:List Value)(h:vs.length=n):RefOf { n:=n,dur:=fun _=>zck,cache:=fun _=>none,armed:=fun _=>none } (vs.map zjJ):=by
 refine⟨by rw[List.length_map,h],?_,?_,?_,?_,?_⟩
 ·intro i x hx
  rw[List.getElem?_map] at hx;obtain⟨v,_,rfl⟩:=Option.map_eq_some_iff.1 hx;rfl
 ·intro i x hx
  rw[List.getElem?_map] at hx;obtain⟨v,_,rfl⟩:=Option.map_eq_some_iff.1 hx;rfl
 ·intro i x s _ hs;cases hs
 ·intro i x hx
  rw[List.getElem?_map] at hx;obtain⟨v,_,rfl⟩:=Option.map_eq_some_iff.1 hx;rfl
 ·intro i x hx
  rw[List.getElem?_map] at hx;obtain⟨v,_,rfl⟩:=Option.map_eq_some_iff.1 hx;exact Nat.zero_le _
theorem zf7 (n:Int)(F:zsi)(w:World)(hF:Sat w F):
  Calls prog 33 #[n] w fun e w'=>∃ p:Nat,e = .returned (.pointer (some ⟨p,0,none⟩))∧Hid (Same w w'∧Sat w' (zbF RT p (zsh.new n)*F)):=by
 have H0:=(zd ((Same.refl w).alloc (.cells #[.slice none 0 0] TRk)) (hF.alloc (.cells #[.slice none 0 0] TRk)));clear hF;have HM:=zh zrf;go_enter func33,ntmps33;go_upto_region 3 with (fail)
 have H1:=zh (show Same w (w.alloc (.cells #[.slice none 0 0] TRk))∧Sat (w.alloc (.cells #[.slice none 0 0] TRk)) (pts w.heap.size (.cells #[.slice none 0 0] TRk (0,0))*(zaf TRs 4 (.slice none 0 0) 0 ((([]:List Value).map zjJ).flatMap zd2)*(zbM TU8 (([]:List Value).map zjJ)*F))) from⟨H0.out.1,by
  have h:=zbp (T:=TRs) (sz:=4).2 H0.out.2
  exact h.perm (show _=pts w.heap.size (.cells #[.slice none 0 0] TRk (0,0))*(zaf TRs 4 (.slice none 0 0) 0 []*(emp*F)) from by rw[zaL];ac_rfl)⟩)
 clear H0;generalize w.alloc (.cells #[.slice none 0 0] TRk)=w1 at H1 ⊢;generalize w.heap.size=p at H1 ⊢
 go_loopw [4] (fun i wr=>zr9 w n p F i wr) (fun i _=>65536 - (intOf i).toNat)
 case atStart=>exact⟨⟨0,.slice none 0 0,[],by omega,by omega,rfl,rfl,H1.out⟩⟩
 case round =>
  clear H1;obtain⟨k,v,vs,hk,hkn,rfl,hvs,HX⟩:=hrel.st;clear hrel
  by_cases hlt:(k:Int)<n∧k<65536
  ·have hA:decide ((k:Int)<n)=true:=decide_eq_true hlt.1
   have hB:decide ((k:Int)<65536)=true:=decide_eq_true (by omega)
   have hki:(k:Int)≤65536:=by omega
   have hwk:IntKind.i64.wrap ((k:Int)+1)=(k:Int)+1:=IntWalk.i64_in _ (by omega);have HV:=zh hvs;clear hvs;go_upto_region 5 with (fail)
   have hS0:wr.drew.cell? ⟨p,0,none⟩=some v:=zab HX.out.2.block 0;have H2:=(zd HX.out.1.drew HX.out.2.drew);clear HX;refine zah (fun w'=>w'.cell? ⟨p,0,none⟩=some v) (by kernel_rfl) ?_;generalize wr.drew=W0 at hS0 H2 ⊢;(apply zaa 0 rfl rfl (by kernel_rfl) rfl);(intro w' h1;go_simp;rfl);exact hS0;simp only[zq];(apply zaa 1 rfl rfl (by kernel_rfl) rfl);(intro w' h1;go_simp;rfl);exact hS0;simp only[zq];(apply zaa 2 rfl rfl (by kernel_rfl) rfl);(intro w' h1;go_simp;rfl);exact hS0;simp only[zq];(apply zaa 3 rfl rfl (by kernel_rfl) rfl);(intro w' h1;go_simp;rfl);exact hS0;simp only[zq]
   (apply zaa 4 rfl rfl (by kernel_rfl) rfl);(intro w' h1;go_simp;rfl);exact hS0;simp only[zq];have h3:=H2.out.2.alloc (.cells (za2 zck).toArray TU8);have hS1:(W0.alloc (.cells (za2 zck).toArray TU8)).cell? ⟨p,0,none⟩=some v:=zab h3.right.block 0;have hmk:=HM.out W0;refine zaV 5 (.slice (some ⟨W0.heap.size,0,none⟩) 64 64) (W0.alloc (.cells (za2 zck).toArray TU8)) rfl rfl (by kernel_rfl) rfl (by go_simp) (hS1) ?_;simp only[zq];clear hmk;have H3:=(zd (H2.out.1.alloc (.cells (za2 zck).toArray TU8)) h3)
   clear h3 H2;generalize W0.alloc (.cells (za2 zck).toArray TU8)=W1 at H3 hS1 ⊢;generalize W0.heap.size=gd at H3 ⊢;(apply zaa 6 rfl rfl (by kernel_rfl) rfl);(intro w' h1;go_simp;rfl);exact hS1;simp only[zq];have h4:=H3.out.2.alloc (.cells #[.slice (some ⟨gd,0,none⟩) 64 64,.slice none 0 0,.bool false,.int .i64 (-2)] TRs);have hS2:(W1.alloc (.cells #[.slice (some ⟨gd,0,none⟩) 64 64,.slice none 0 0,.bool false,.int .i64 (-2)] TRs)).cell? ⟨p,0,none⟩=some v:=zab h4.right.right.block 0
   refine zaV 7 (.slice (some ⟨W1.heap.size,0,none⟩) 1 1) (W1.alloc (.cells #[.slice (some ⟨gd,0,none⟩) 64 64,.slice none 0 0,.bool false,.int .i64 (-2)] TRs)) rfl rfl (by kernel_rfl) rfl (by go_simp) (hS2) ?_;simp only[zq];have H4:=(zd (H3.out.1.alloc (.cells #[.slice (some ⟨gd,0,none⟩) 64 64,.slice none 0 0,.bool false,.int .i64 (-2)] TRs)) h4);clear h4 H3 hS1;generalize W1.alloc (.cells #[.slice (some ⟨gd,0,none⟩) 64 64,.slice none 0 0,.bool false,.int .i64 (-2)] TRs)=W2 at H4 hS2 ⊢;generalize W1.heap.size=m at H4 ⊢
   have hA5:=H4.out.2.perm (show _=zaf TRs 4 v k ((vs.map zjJ).flatMap zd2)*(pts m (.cells #[.slice (some ⟨gd,0,none⟩) 64 64,.slice none 0 0,.bool false,.int .i64 (-2)] TRs (0,0))*(pts gd (.cells (za2 zck).toArray TU8 (0,0))*(pts p (.cells #[v] TRk (0,0))*(zbM TU8 (vs.map zjJ)*F)))) from by ac_rfl);obtain⟨ti,hti,hz0,hts,hz2⟩:=info_parts znc;obtain⟨v',w5,hr,hsm5,hs5⟩:=zaH (P:=prog) 131 131 TRs ti _ underlying131 hti hz0 (by rw[hts];rfl) v k ((vs.map zjJ).flatMap zd2) (by rw[hts];exact hA5) ⟨m,0,none⟩ 1 1 [.slice (some ⟨gd,0,none⟩) 64 64,.slice none 0 0,.bool false,.int .i64 (-2)] (by rw[hts];rfl)
    (by intro j u hu;rw[Addr.add_mid,zab hA5.right.block,Nat.zero_add];simpa using hu) (by simp[Value.oneCell']) (by unfold maxLen;omega) (by rw[hz2];omega)
   rw[hts] at hs5;have hS3:w5.cell? ⟨p,0,none⟩=some v:=zab hs5.right.right.right.block 0;refine zaV 8 (v') (w5) rfl rfl (by kernel_rfl) rfl (zbc rfl rfl rfl hr) (hS3) ?_;simp only[zq];(apply zaa 9 rfl rfl (by kernel_rfl) rfl);(intro w' h1;go_simp;rfl);exact hS3;simp only[zq];(apply zaa 10 rfl rfl (by kernel_rfl) rfl);(intro w' h1;go_simp;rfl);exact hS3;simp only[zq];obtain⟨ao',cp',rfl⟩:=zal hs5;obtain⟨ip,hip,hip2⟩:=Option.map_eq_some_iff.1 (show (prog.info? 131).map (·.size)=some 1 by kernel_rfl)
   have hs6:=hs5.perm (show _=pts p (.cells #[v] TRk (0,0))*(zaf TRs 4 (.slice ao' (k+1) cp') (k+1) ((vs.map zjJ).flatMap zd2++[Value.slice (some ⟨gd,0,none⟩) 64 64,.slice none 0 0,.bool false,.int .i64 (-2)])*(pts m (.cells #[.slice (some ⟨gd,0,none⟩) 64 64,.slice none 0 0,.bool false,.int .i64 (-2)] TRs (0,0))*(pts gd (.cells (za2 zck).toArray TU8 (0,0))*(zbM TU8 (vs.map zjJ)*F)))) from by ac_rfl);refine zat 11 (w5.setCell ⟨p,0,none⟩ (.slice ao' (k+1) cp')) rfl rfl (by kernel_rfl) rfl (zay rfl rfl rfl hip hip2 rfl hS3 (zaj hs6.block 0)) ?_
   have H7:=zh (show Same w (w5.setCell ⟨p,0,none⟩ (.slice ao' (k+1) cp'))∧Sat (w5.setCell ⟨p,0,none⟩ (.slice ao' (k+1) cp')) (pts p (.cells #[Value.slice ao' (k+1) cp'] TRk (0,0))*(zaf TRs 4 (.slice ao' (k+1) cp') (k+1) (((vs++[Value.slice (some ⟨gd,0,none⟩) 64 64]).map zjJ).flatMap zd2)*(zbM TU8 ((vs++[Value.slice (some ⟨gd,0,none⟩) 64 64]).map zjJ)*F))) from by
    refine⟨(H4.out.1.trans hsm5).setCell _ _,?_⟩;have h9:=hs6.setCell (i:=0) (.slice ao' (k+1) cp');simp only[List.setIfInBounds_toArray,List.set_cons_zero] at h9;have h10:=h9.perm (show _=pts m (.cells #[.slice (some ⟨gd,0,none⟩) 64 64,.slice none 0 0,.bool false,.int .i64 (-2)] TRs (0,0))*(pts gd (.cells (za2 zck).toArray TU8 (0,0))*(pts p (.cells #[.slice ao' (k+1) cp'] TRk (0,0))*(zaf TRs 4 (.slice ao' (k+1) cp') (k+1) ((vs.map zjJ).flatMap zd2++[Value.slice (some ⟨gd,0,none⟩) 64 64,.slice none 0 0,.bool false,.int .i64 (-2)])*(zbM TU8 (vs.map zjJ)*F)))) from by ac_rfl)
    have h11:Sat (w5.setCell ⟨p,0,none⟩ (.slice ao' (k+1) cp')) (zaf TU8 1 (.slice (some ⟨gd,0,none⟩) 64 64) 64 (za2 zck)*_):=za4.2 (.inr ⟨gd,64,(za2 zck).toArray,⟨rfl,by omega,by unfold maxLen;omega,by kernel_rfl,by kernel_rfl,by kernel_rfl⟩,h10.right⟩);have h12:=zk5 (T:=TU8) (zee (l:=zck) h11);rw[List.map_append,List.flatMap_append,zdD]
    exact h12.perm (show _=pts p (.cells #[.slice ao' (k+1) cp'] TRk (0,0))*(zaf TRs 4 (.slice ao' (k+1) cp') (k+1) ((vs.map zjJ).flatMap zd2++[Value.slice (some ⟨gd,0,none⟩) 64 64,.slice none 0 0,.bool false,.int .i64 (-2)])*(zbM TU8 (vs.map zjJ)*((zbW TU8 (.slice (some ⟨gd,0,none⟩) 64 64) zck*zbW TU8 (.slice none 0 0) [])*emp)*F)) from by rw[zgy];ac_rfl))
   clear hS0 hS2 hS3 hs5 hs6 hA5 H4 hti hz0 hts hz2 hip hip2 hr hsm5;generalize w5.setCell ⟨p,0,none⟩ (.slice ao' (k+1) cp')=W7 at H7 ⊢;go_wp2
   go_roundw
   case rel=>exact⟨⟨k+1,_,_,by omega,by omega,rfl,by rw[List.length_append,HV.out];rfl,H7.out⟩⟩
   case measure=>simp only[intOf];omega
  ·have HF:=zh (show Same w wr∧Sat wr (zbF RT p (zsh.new n)*F) from by
    refine⟨HX.out.1,zbz.2 ⟨v,vs.map zjJ,⟨?_,?_⟩,?_⟩⟩
    ·exact zpb n
    ·have h:=zql k vs hvs
     have e:zsh.new n={ n:=k,dur:=fun _=>zck,cache:=fun _=>none,armed:=fun _=>none }:=by
      unfold zsh.new;congr 1;omega
     rw[e];exact h
    ·rw[List.length_map,hvs];exact HX.out.2)
   clear HX hvs
   by_cases h1:(k:Int)<n
   ·obtain rfl:k=65536:=by omega
    have hA:decide ((65536:Int)<n)=true:=decide_eq_true (by omega);clear hlt h1;go_wp2;go_ret;exact⟨p,rfl,HF.out⟩
   ·have hA:decide ((k:Int)<n)=false:=decide_eq_false h1
    clear hlt h1;go_wp2;go_ret;exact⟨p,rfl,HF.out⟩
end Go.Proofs.YtmcclbiaoeilkaaGreat
end
