import Derived.Test.YtmcclbiaoeilkaaGreatRows
import Derived.WalkSpells
import Derived.WalkLawsBesides
import Derived.Deep.QuietTactic
import Derived.BigQuiet
import Derived.Deep.RegionHeld3
import Derived.Lib.Hide
import Derived.Outline
import Derived.Shelf.SlIterI.Nil
import Derived.Shelf.SortM.Plain
import Derived.Shelf.SortM.SortNone
import Derived.Ground.GgzProg
import Derived.Ground.SlgmProg
import Derived.Test.YtmcclbiaoeilkaaGreatProg
import Derived.Test.YtmcclbiaoeilkaaGreatQ02
set_option maxHeartbeats 400000
/- Part 3 of a proof;the last part says what is proved. -/
section
namespace Go.Sl
open Go Go.RowKit
def zck:List UInt8:=List.replicate 64 0
theorem zbe:zck.length=64:=by simp[zck]
def za7 {α:Type}(f:Nat→α)(k:Nat)(v:α):Nat→α:=fun i=>if i=k then v else f i
theorem zfG {α:Type}{f:Nat→α}{k:Nat}{v:α}(h:f k=v):za7 f k v=f:=by
 funext i;unfold za7;split
 ·subst i;exact h.symm
 ·rfl
structure zsh where
 n:Nat
 dur:Nat→List UInt8
 cache:Nat→Option (List UInt8)
 armed:Nat→Option Int
namespace zsh
structure WF (D:zsh):Prop where
 dur:∀ i,i<D.n→(D.dur i).length=64
 cache:∀ i s,D.cache i=some s→i<D.n∧s.length=64
 armed:∀ i j,D.armed i=some j→i<D.n∧(j = -1∨0≤j∧j<(D.n:Int))
 small:D.n≤65536
def new (n:Int):zsh:={ n:=(min (max n 0) 65536).toNat,dur:=fun _=>zck,cache:=fun _=>none,armed:=fun _=>none }
def has (D:zsh)(i:Int):Bool:=decide (0≤i)&&decide (i<(D.n:Int))
def put (D:zsh)(i:Nat)(s:List UInt8):zsh:=
 match D.armed i with
 | none=>{ D with cache:=za7 D.cache i (some s) }
 | some j=>if j = -1 then { D with armed:=za7 D.armed i none } else { D with armed:=za7 D.armed i none,cache:=za7 D.cache j.toNat (some s) }
def write (D:zsh)(i:Int)(s:List UInt8):zsh×Int:=if D.has i=true∧s.length=64 then (D.put i.toNat s,0) else (D,1)
def content (D:zsh)(i:Nat):List UInt8:=(D.cache i).getD (D.dur i)
def read (D:zsh)(i:Int):List UInt8×Int:=if D.has i=true then (D.content i.toNat,0) else ([],1)
def pending (D:zsh):List Nat:=(List.range D.n).filter fun i=>(D.cache i).isSome
def flush (D:zsh):zsh:={ D with dur:=fun i=>D.content i,cache:=fun _=>none }
def rank (D:zsh)(i:Nat):Nat:=((List.range i).filter fun k=>(D.cache k).isSome).length
def clamp (k:Int):Nat:=(min (max k 0) 64).toNat
def torn (new old:List UInt8)(k:Int):List UInt8:=new.take (clamp k)++old.drop (clamp k)
def cut (D:zsh)(picks:List Int):zsh:=
 { D with dur:=fun i=>match D.cache i with|none=>D.dur i|some s=>torn s (D.dur i) (picks.getD (D.rank i) 0),cache:=fun _=>none,armed:=fun _=>none }
def flip (s:List UInt8)(bit:Nat):List UInt8:=s.set (bit / 8) (s.getD (bit / 8) 0 ^^^ (1 <<< UInt8.ofNat (bit%8)))
def rot (D:zsh)(i bit:Int):zsh×Int:=
 if D.has i=true∧0≤bit∧bit<512 then
  ({ D with dur:=za7 D.dur i.toNat (flip (D.dur i.toNat) bit.toNat),cache:=za7 D.cache i.toNat ((D.cache i.toNat).map fun s=>flip s bit.toNat) },0)
 else (D,1)
def lose (D:zsh)(i:Int):zsh×Int:=if D.has i=true then ({ D with armed:=za7 D.armed i.toNat (some (-1)) },0) else (D,1)
def misdirect (D:zsh)(i to:Int):zsh×Int:=
 if D.has i=true∧D.has to=true then ({ D with armed:=za7 D.armed i.toNat (some to) },0) else (D,1)
def cutStep (D:zsh)(i:Nat)(pick:Int):zsh:=
 match D.cache i with
 | none=>D
 | some s=>{ D with dur:=za7 D.dur i (torn s (D.dur i) pick),cache:=za7 D.cache i none }
def cutN (D:zsh)(picks:List Int):Nat→zsh
 | 0=>D
 | k+1=>cutStep (cutN D picks k) (D.pending.getD k 0) (picks.getD k 0)
theorem rank_pending (D:zsh){j i:Nat}(h:D.pending[j]?=some i):D.rank i=j:=by
 have hi:i ∈ D.pending:=List.mem_of_getElem? h;unfold pending at hi h;rw[List.mem_filter,List.mem_range] at hi;obtain⟨m,hm⟩:∃ m,D.n=i+(m+1):=⟨D.n - i - 1,by omega⟩;have hn:((List.range D.n).filter fun i=>(D.cache i).isSome).Nodup:=(List.nodup_range).filter _
 have hsplit:((List.range D.n).filter fun i=>(D.cache i).isSome)=((List.range i).filter fun i=>(D.cache i).isSome)++i::(((List.range m).map Nat.succ).map (i+·)).filter fun i=>(D.cache i).isSome:=by
  rw[hm,List.range_add,List.filter_append,List.range_succ_eq_map,List.map_cons,List.filter_cons,Nat.add_zero,if_pos hi.2]
 unfold rank
 have h1:((List.range D.n).filter fun i=>(D.cache i).isSome)[((List.range i).filter fun i=>(D.cache i).isSome).length]?=some i:=by
  rw[hsplit,List.getElem?_append_right (Nat.le_refl _),Nat.sub_self];rfl
 rw[← h] at h1;exact (List.getElem?_inj (List.getElem?_eq_some_iff.1 (h1.trans h)).1 hn).1 h1
theorem cutN_spec (D:zsh)(picks:List Int):∀ k,k≤D.pending.length→(cutN D picks k).n=D.n∧(cutN D picks k).armed=D.armed∧
  (∀ i,(cutN D picks k).cache i=if i ∈ D.pending.take k then none else D.cache i)∧
  (∀ i,(cutN D picks k).dur i=if i ∈ D.pending.take k then torn ((D.cache i).getD []) (D.dur i) (picks.getD (D.rank i) 0) else D.dur i)
 | 0,_=>⟨rfl,rfl,fun i=>by simp[cutN],fun i=>by simp[cutN]⟩
 | k+1,hk=>by
  obtain⟨h1,h2,h3,h4⟩:=cutN_spec D picks k (by omega)
  have hlt:k<D.pending.length:=by omega
  obtain⟨i,hi⟩:∃ i,D.pending[k]?=some i:=⟨_,List.getElem?_eq_getElem hlt⟩
  have hgd:D.pending.getD k 0=i:=by simp[hi]
  have hmem:i ∈ D.pending:=List.mem_of_getElem? hi;have hnd:D.pending.Nodup:=(List.nodup_range).filter _
  have hnot:i ∉ D.pending.take k:=by
   intro h;obtain⟨j,hj,he⟩:=List.getElem_of_mem h;rw[List.length_take] at hj;rw[List.getElem_take] at he
   have:D.pending[j]?=D.pending[k]?:=by rw[hi,List.getElem?_eq_getElem (by omega),he]
   have:=(List.getElem?_inj (by omega) hnd).1 this;omega
  have htake:D.pending.take (k+1)=D.pending.take k++[i]:=by rw[List.take_succ_eq_append_getElem hlt];congr 2;rw[List.getElem?_eq_getElem hlt] at hi;exact Option.some.inj hi
  obtain⟨s,hs⟩:∃ s,D.cache i=some s:=by
   unfold pending at hmem;rw[List.mem_filter] at hmem;exact Option.isSome_iff_exists.1 hmem.2
  have hr:=rank_pending D hi
  have hc:(cutN D picks k).cache i=some s:=by rw[h3,if_neg hnot,hs]
  have e:cutN D picks (k+1)={ cutN D picks k with dur:=za7 (cutN D picks k).dur i (torn s (D.dur i) (picks.getD k 0)),cache:=za7 (cutN D picks k).cache i none }:=by
   show cutStep _ _ _=_;rw[hgd];unfold cutStep;rw[hc,h4,if_neg hnot]
  rw[e];refine⟨h1,h2,fun x=>?_,fun x=>?_⟩
  ·show za7 _ i none x=_
   rw[htake];unfold za7
   by_cases hx:x=i
   ·rw[if_pos hx,if_pos (by simp[hx])]
   ·rw[if_neg hx,h3];simp[hx]
  ·show za7 _ i _ x=_
   rw[htake];unfold za7
   by_cases hx:x=i
   ·subst hx;rw[if_pos rfl,if_pos (by simp),hs,hr];rfl
   ·rw[if_neg hx,h4];simp[hx]
theorem has_iff {D:zsh}{i:Int}:D.has i=true↔0≤i∧i<(D.n:Int):=by simp[has]
theorem WF.new (n:Int):(zsh.new n).WF:=⟨fun i h=>zbe,fun i s h=>by simp[zsh.new] at h,fun i j h=>by simp[zsh.new] at h,by simp only[zsh.new];omega⟩
theorem WF.put {D:zsh}(h:D.WF){i:Nat}{s:List UInt8}(hi:i<D.n)(hs:s.length=64):(D.put i s).WF:=by
 unfold zsh.put;split
 ·refine⟨h.dur,fun k t hk=>?_,h.armed,h.small⟩
  simp only[za7] at hk;split at hk
  ·cases hk;subst k;exact⟨hi,hs⟩
  ·exact h.cache k t hk
 ·rename_i j hj
  have ha:=h.armed i j hj;split
  ·refine⟨h.dur,h.cache,fun k t hk=>?_,h.small⟩
   simp only[za7] at hk;split at hk
   ·cases hk
   ·exact h.armed k t hk
  ·refine⟨h.dur,fun k t hk=>?_,fun k t hk=>?_,h.small⟩
   ·simp only[za7] at hk
    split at hk
    ·cases hk;subst k;exact⟨by have:=ha.2;show j.toNat<D.n;omega,hs⟩
    ·exact h.cache k t hk
   ·simp only[za7] at hk
    split at hk
    ·cases hk
    ·exact h.armed k t hk
theorem WF.write {D:zsh}(h:D.WF)(i:Int)(s:List UInt8):(D.write i s).1.WF:=by
 unfold zsh.write;split
 ·rename_i hc;have:=has_iff.1 hc.1;exact h.put (by omega) hc.2
 ·exact h
theorem content_length {D:zsh}(h:D.WF){i:Nat}(hi:i<D.n):(D.content i).length=64:=by
 unfold content
 cases hc:D.cache i with
 | none=>exact h.dur i hi
 | some s=>exact (h.cache i s hc).2
theorem WF.flush {D:zsh}(h:D.WF):D.flush.WF:=⟨fun i hi=>content_length h hi,fun i s hs=>by simp[zsh.flush] at hs,h.armed,h.small⟩
theorem clamp_le (k:Int):clamp k≤64:=by unfold clamp;omega
theorem zel {a b:List UInt8}(ha:a.length=64)(hb:b.length=64)(k:Int):(torn a b k).length=64:=by
 have:=clamp_le k;simp[torn,ha,hb];omega
theorem WF.cut {D:zsh}(h:D.WF)(picks:List Int):(D.cut picks).WF:=by
 refine⟨fun i hi=>?_,fun i s hs=>by simp[zsh.cut] at hs,fun i s hs=>by simp[zsh.cut] at hs,h.small⟩;simp only[zsh.cut]
 cases hc:D.cache i with
 | none=>exact h.dur i hi
 | some s=>exact zel (h.cache i s hc).2 (h.dur i hi) _
theorem cutN_all (D:zsh)(h:D.WF)(picks:List Int):{ cutN D picks D.pending.length with armed:=fun _=>none }=D.cut picks:=by
 obtain⟨h1,_,h3,h4⟩:=cutN_spec D picks D.pending.length (Nat.le_refl _)
 have hm:∀ i,i ∈ D.pending↔(D.cache i).isSome=true:=by
  intro i;unfold pending;rw[List.mem_filter,List.mem_range]
  constructor
  ·exact fun x=>x.2
  ·intro hx
   obtain⟨s,hs⟩:=Option.isSome_iff_exists.1 hx;exact⟨(h.cache i s hs).1,hx⟩
 have hd:(cutN D picks D.pending.length).dur=(D.cut picks).dur:=by
  funext i
  rw[h4,List.take_length];unfold zsh.cut
  cases hc:D.cache i with
  | none=>rw[if_neg (by rw[hm,hc];simp)];simp[hc]
  | some s=>rw[if_pos (by rw[hm,hc];rfl)];simp[hc]
 have hcc:(cutN D picks D.pending.length).cache=(D.cut picks).cache:=by
  funext i
  rw[h3,List.take_length]
  cases hc:D.cache i with
  | none=>simp[zsh.cut]
  | some s=>rw[if_pos (by rw[hm,hc];rfl)];simp[zsh.cut]
 have hn:(cutN D picks D.pending.length).n=(D.cut picks).n:=h1;have ha:(fun _=>none)=(D.cut picks).armed:=rfl;show ({ n:=(zsh.cutN D picks D.pending.length).n,dur:=(zsh.cutN D picks D.pending.length).dur,cache:=(zsh.cutN D picks D.pending.length).cache,armed:=fun _=>none }:zsh)=D.cut picks;rw[hd,hcc,hn,ha]
theorem WF.cutStep {D:zsh}(h:D.WF)(i:Nat)(pick:Int):(D.cutStep i pick).WF:=by
 unfold zsh.cutStep;split
 ·exact h
 ·rename_i s hs
  refine⟨fun k hk=>?_,fun k t hk=>?_,h.armed,h.small⟩
  ·simp only[za7];split
   ·subst k;exact zel (h.cache i s hs).2 (h.dur i (h.cache i s hs).1) pick
   ·exact h.dur k hk
  ·simp only[za7] at hk
   split at hk
   ·cases hk
   ·exact h.cache k t hk
theorem WF.cutN {D:zsh}(h:D.WF)(picks:List Int):∀ k,(zsh.cutN D picks k).WF
 | 0=>h
 | k+1=>(WF.cutN h picks k).cutStep _ _
theorem flip_length (s:List UInt8)(bit:Nat):(flip s bit).length=s.length:=by simp[flip]
theorem WF.rot {D:zsh}(h:D.WF)(i bit:Int):(D.rot i bit).1.WF:=by
 unfold zsh.rot;split
 ·rename_i hc
  have hi:=has_iff.1 hc.1;refine⟨fun k hk=>?_,fun k t hk=>?_,h.armed,h.small⟩
  ·simp only[za7];split
   ·rw[flip_length];exact h.dur _ (by omega)
   ·exact h.dur k hk
  ·simp only[za7] at hk
   split at hk
   ·rename_i hki
    rw[Option.map_eq_some_iff] at hk;obtain⟨u,hu,rfl⟩:=hk;have:=h.cache _ u hu;rw[flip_length];exact⟨by rw[hki];exact this.1,this.2⟩
   ·exact h.cache k t hk
 ·exact h
theorem WF.lose {D:zsh}(h:D.WF)(i:Int):(D.lose i).1.WF:=by
 unfold zsh.lose;split
 ·rename_i hc
  have hi:=has_iff.1 hc;refine⟨h.dur,h.cache,fun k t hk=>?_,h.small⟩;simp only[za7] at hk;split at hk
  ·cases hk;subst k;exact⟨by show i.toNat<D.n;omega,.inl rfl⟩
  ·exact h.armed k t hk
 ·exact h
theorem WF.misdirect {D:zsh}(h:D.WF)(i to:Int):(D.misdirect i to).1.WF:=by
 unfold zsh.misdirect;split
 ·rename_i hc
  have hi:=has_iff.1 hc.1;have ht:=has_iff.1 hc.2;refine⟨h.dur,h.cache,fun k t hk=>?_,h.small⟩;simp only[za7] at hk;split at hk
  ·cases hk;subst k;exact⟨by show i.toNat<D.n;omega,.inr ht⟩
  ·exact h.armed k t hk
 ·exact h
end zsh
def zb4 (b:UInt8):Value:=.int .u8 b.toNat
def zaY (s:List UInt8):List Value:=s.map zb4
def zdu (s:List UInt8):Array Value:=(zaY s).toArray
abbrev ziK (s:List UInt8):Value:=.agg (zdu s)
theorem zcn (s:List UInt8):(zdu s).size=s.length:=by simp[zdu,zaY]
theorem zce (s:List UInt8):(zdu s).toList=zaY s:=by simp[zdu]
theorem zao (s:List UInt8):(zaY s).length=s.length:=by simp[zaY]
theorem ziu {s:List UInt8}:∀ v ∈ zaY s,v.oneCell'=true:=by
 intro v hv;obtain⟨b,_,rfl⟩:=List.mem_map.1 hv;rfl
def KvSec (l:KV)(m:Nat→Option (List UInt8)):Prop:=∀ k:Int,lk l k=if 0≤k then (m k.toNat).map ziK else none
def KvInt (l:KV)(m:Nat→Option Int):Prop:=∀ k:Int,lk l k=if 0≤k then (m k.toNat).map (Value.int .i64) else none
theorem KvSec.upd {l:KV}{m:Nat→Option (List UInt8)}(h:KvSec l m){k:Int}(hk:0≤k)(s:List UInt8):KvSec (upd l k (ziK s)) (za7 m k.toNat (some s)):=by
 intro x;rw[znj,h x]
 by_cases hx:x=k
 ·subst hx;simp[hk,za7]
 ·rw[if_neg hx]
  by_cases h0:0≤x
  ·rw[if_pos h0,if_pos h0];simp only[za7];rw[if_neg (by omega)]
  ·rw[if_neg h0,if_neg h0]
theorem KvInt.upd {l:KV}{m:Nat→Option Int}(h:KvInt l m){k:Int}(hk:0≤k)(s:Int):KvInt (upd l k (.int .i64 s)) (za7 m k.toNat (some s)):=by
 intro x;rw[znj,h x]
 by_cases hx:x=k
 ·subst hx;simp[hk,za7]
 ·rw[if_neg hx]
  by_cases h0:0≤x
  ·rw[if_pos h0,if_pos h0];simp only[za7];rw[if_neg (by omega)]
  ·rw[if_neg h0,if_neg h0]
theorem KvSec.del {l:KV}{m:Nat→Option (List UInt8)}(h:KvSec l m)(hn:(l.map (·.1)).Nodup){k:Int}(hk:0≤k):KvSec (del l k) (za7 m k.toNat none):=by
 intro x;rw[zpW hn,h x]
 by_cases hx:x=k
 ·subst hx;simp[za7]
 ·rw[if_neg hx]
  by_cases h0:0≤x
  ·rw[if_pos h0,if_pos h0];simp only[za7];rw[if_neg (by omega)]
  ·rw[if_neg h0,if_neg h0]
theorem KvInt.del {l:KV}{m:Nat→Option Int}(h:KvInt l m)(hn:(l.map (·.1)).Nodup){k:Int}(hk:0≤k):KvInt (del l k) (za7 m k.toNat none):=by
 intro x;rw[zpW hn,h x]
 by_cases hx:x=k
 ·subst hx;simp[za7]
 ·rw[if_neg hx]
  by_cases h0:0≤x
  ·rw[if_pos h0,if_pos h0];simp only[za7];rw[if_neg (by omega)]
  ·rw[if_neg h0,if_neg h0]
theorem KvSec.nil:KvSec [] fun _=>none:=by intro k;simp[lk]
theorem KvInt.nil:KvInt [] fun _=>none:=by intro k;simp[lk]
def zlp (n:Nat)(dur:Nat→List UInt8)(c:Array Value):Prop:=∀ i,i<n→∀ j u,(zaY (dur i))[j]?=some u→c[i*64+j]?=some u
theorem zhf (s:List UInt8)(m:Nat):zaY (zsh.flip s m)=(zaY s).set (m / 8) (zb4 (s.getD (m / 8) 0 ^^^ (1 <<< UInt8.ofNat (m%8)))):=by
 unfold zaY zsh.flip;rw[List.map_set]
theorem znW (s:List UInt8)(m:Nat):zdu (zsh.flip s m)=(zdu s).setIfInBounds (0+m / 8*1) (zb4 (s.getD (m / 8) 0 ^^^ (1 <<< UInt8.ofNat (m%8)))):=by
 rw[show 0+m / 8*1=m / 8 by omega];apply Array.ext';rw[Array.toList_setIfInBounds,zce,zce,zhf]
theorem zkn {s:List UInt8}(hs:s.length=64){j:Nat}(hj:j<64):(zaY s)[j]?=some (zb4 (s.getD j 0)):=by
 have:j<s.length:=by omega
 simp[zaY,this]
theorem zkI {n:Nat}{dur:Nat→List UInt8}{c:Array Value}(h:zlp n dur c){cap:Nat}(hc:c.size=cap*64)(hcap:n≤cap)(hl:∀ i,i<n→(dur i).length=64){k j:Nat}(hk:k<n)(hj:j<64)(s:List UInt8)(v:Value)
  (hs:zaY s=(zaY (dur k)).set j v):zlp n (za7 dur k s) (c.setIfInBounds (k*64+j) v):=by
 intro i hi t u hu
 have hlen:∀ i,i<n→(zaY (dur i)).length=64:=fun i hi=>by rw[zao,hl i hi]
 unfold za7 at hu
 by_cases hik:i=k
 ·subst hik
  rw[if_pos rfl,hs,List.getElem?_set] at hu;rw[Array.getElem?_setIfInBounds]
  by_cases hjt:j=t
  ·subst hjt
   rw[if_pos rfl,if_pos (by rw[hlen i hi];exact hj)] at hu;rw[if_pos rfl,if_pos (by rw[hc];omega)];exact hu
  ·rw[if_neg hjt] at hu
   rw[if_neg (by omega)];exact h i hi t u hu
 ·rw[if_neg hik] at hu
  have ht:t<64:=by have:=(List.getElem?_eq_some_iff.1 hu).1;rw[hlen i hi] at this;exact this
  rw[Array.getElem?_setIfInBounds,if_neg (by omega)];exact h i hi t u hu
def zl2:Array Value→Nat→List Value→Array Value
 | c,_,[]=>c
 | c,o,v::r=>zl2 (c.setIfInBounds o v) (o+1) r
theorem zg0:∀ (vs:List Value) (c:Array Value) (o:Nat),(zl2 c o vs).size=c.size
 | [],_,_=>rfl
 | v::r,c,o=>by rw[zl2,zg0 r];simp
theorem zim:∀ (vs:List Value) (c:Array Value) (o j:Nat),o+vs.length≤c.size→(zl2 c o vs)[j]?=if o≤j∧j<o+vs.length then vs[j - o]? else c[j]?
 | [],c,o,j,_=>by rw[zl2,if_neg (by simp only[List.length_nil];omega)]
 | v::r,c,o,j,h=>by
  simp only[List.length_cons] at h ⊢;rw[zl2,zim r _ _ _ (by simp;omega)]
  by_cases h1:o+1≤j∧j<o+1+r.length
  ·rw[if_pos h1,if_pos (by omega),show j - o=(j - (o+1))+1 by omega,List.getElem?_cons_succ]
  ·rw[if_neg h1,Array.getElem?_setIfInBounds]
   by_cases h2:o=j
   ·subst h2;rw[if_pos rfl,if_pos (by omega),if_pos (by omega)];simp
   ·rw[if_neg h2,if_neg (by omega)]
theorem Sat.setCells {b:Nat}{T:TypeId}{fr:Nat×Nat}{F:zsi}:∀ (vs:List Value) {w:World} {c:Array Value} {o:Nat},Sat w (pts b (.cells c T fr)*F)→Sat (w.setCells b o vs) (pts b (.cells (zl2 c o vs) T fr)*F)
 | [],_,_,_,h=>h
 | _::r,_,_,_,h=>Sat.setCells r (h.setCell _)
theorem Same.setCells {b:Nat}{w0:World}:∀ (vs:List Value) {w:World} {o:Nat},Same w0 w→Same w0 (w.setCells b o vs)
 | [],_,_,h=>h
 | _::r,_,_,h=>Same.setCells r (h.setCell _ _)
theorem zoN {n:Nat}{dur:Nat→List UInt8}{c:Array Value}(h:zlp n dur c){cap:Nat}(hc:c.size=cap*64)(hcap:n≤cap)(hl:∀ i,i<n→(dur i).length=64){k:Nat}(hk:k<n){s:List UInt8}(hs:s.length=64):
  zlp n (za7 dur k s) (zl2 c (k*64) (zaY s)):=by
 intro i hi t u hu;rw[zim _ _ _ _ (by rw[zao,hs,hc];omega),zao,hs];unfold za7 at hu
 by_cases hik:i=k
 ·subst hik
  rw[if_pos rfl] at hu
  have ht:t<64:=by have:=(List.getElem?_eq_some_iff.1 hu).1;rw[zao,hs] at this;exact this
  rw[if_pos (by omega),show i*64+t - i*64=t by omega];exact hu
 ·rw[if_neg hik] at hu
  have ht:t<64:=by have:=(List.getElem?_eq_some_iff.1 hu).1;rw[zao,hl i hi] at this;exact this
  rw[if_neg (by omega)];exact h i hi t u hu
theorem zmU {n:Nat}{dur:Nat→List UInt8}{c:Array Value}(h:zlp n dur c){cap:Nat}(hc:c.size=cap*64)(hcap:n≤cap)(hl:∀ i,i<n→(dur i).length=64){k:Nat}(hk:k<n){s:List UInt8}(hs:s.length=64){m:Nat}(hm:m≤64):
  zlp n (za7 dur k (s.take m++(dur k).drop m)) (zl2 c (k*64) (zaY (s.take m))):=by
 intro i hi t u hu
 have hlen:(zaY (s.take m)).length=m:=by rw[zao,List.length_take,hs];omega
 rw[zim _ _ _ _ (by rw[hlen,hc];omega),hlen];unfold za7 at hu
 by_cases hik:i=k
 ·subst hik
  rw[if_pos rfl] at hu
  have ht:t<64:=by
   have:=(List.getElem?_eq_some_iff.1 hu).1;rw[zao,List.length_append,List.length_take,List.length_drop,hs,hl i hi] at this;omega
  unfold zaY at hu ⊢;rw[List.map_append] at hu
  by_cases htm:t<m
  ·rw[if_pos (by omega),show i*64+t - i*64=t by omega]
   rw[List.getElem?_append_left (by simp[hs];omega)] at hu;exact hu
  ·rw[if_neg (by omega)]
   rw[List.getElem?_append_right (by simp[hs];omega)] at hu;refine h i hi t u ?_;rw[List.length_map,List.length_take,hs,show min m 64=m by omega] at hu;rw[List.map_drop,List.getElem?_drop,show m+(t - m)=t by omega] at hu;exact hu
 ·rw[if_neg hik] at hu
  have ht:t<64:=by have:=(List.getElem?_eq_some_iff.1 hu).1;rw[zao,hl i hi] at this;exact this
  rw[if_neg (by omega)];exact h i hi t u hu
theorem zhH {n:Nat}{c:Array Value}{w:World}{b:Nat}{T:TypeId}{cap:Nat}(hb:w.heap[b]?=some (.cells c T (0,0)))(hc:c.size=cap*64)(hcap:n≤cap){k:Nat}(hk:k<n):w.there b (0+k*64) 64:=by
 intro j hj;refine⟨?_,zaj hb _⟩;rw[zab hb];rw[Array.getElem?_eq_getElem (show 0+k*64+j<c.size by omega)];rfl
def zcN (TS:TypeId)(n:Nat)(dur:Nat→List UInt8)(v:Value):zsi:=
 if n=0 then lift (∃ b c,v = .slice b 0 c)
 else ex fun b:Nat=>ex fun cap:Nat=>ex fun c:Array Value=>lift (v = .slice (some ⟨b,0,none⟩) n cap∧n≤cap∧c.size=cap*64∧zlp n dur c)*pts b (.cells c TS (0,0))
def zak (TD TS:TypeId)(p:Nat)(D:zsh):zsi:=
 ex fun v:Value=>ex fun cb:Nat=>ex fun ab:Nat=>ex fun es:Array MapEntry=>ex fun c:Nat=>ex fun l:KV=>ex fun es2:Array MapEntry=>ex fun c2:Nat=>ex fun l2:KV =>
  lift (D.WF∧MapL es c l∧KvSec l D.cache∧MapL es2 c2 l2∧KvInt l2 D.armed) *
   (pts p (.cells #[v,.map (some cb),.map (some ab)] TD (0,0))*(zcN TS D.n D.dur v*(pts cb (.map es c)*pts ab (.map es2 c2))))
section
variable {w:World} {F:zsi} {TD TS:TypeId}
theorem zaI {p:Nat}{D:zsh}:Sat w (zak TD TS p D*F)↔∃ v cb ab es c l es2 c2 l2,(D.WF∧MapL es c l∧KvSec l D.cache∧MapL es2 c2 l2∧KvInt l2 D.armed)∧
  Sat w (pts p (.cells #[v,.map (some cb),.map (some ab)] TD (0,0))*(zcN TS D.n D.dur v*(pts cb (.map es c)*(pts ab (.map es2 c2)*F)))):=by
 simp only[zak,Sat.ex,zax,Sat.lift]
theorem zeN {dur:Nat→List UInt8}{v:Value}:Sat w (zcN TS 0 dur v*F)↔(∃ b c,v = .slice b 0 c)∧Sat w F:=by
 simp only[zcN,if_true,Sat.lift]
theorem zbZ {n:Nat}(hn:0<n){dur:Nat→List UInt8}{v:Value}:Sat w (zcN TS n dur v*F) ↔
  ∃ b cap c,(v = .slice (some ⟨b,0,none⟩) n cap∧n≤cap∧c.size=cap*64∧zlp n dur c)∧Sat w (pts b (.cells c TS (0,0))*F):=by
 rw[zcN,if_neg (by omega)];simp only[Sat.ex,zax,Sat.lift]
theorem zcu {n:Nat}{dur:Nat→List UInt8}{v:Value}(h:Sat w (zcN TS n dur v*F)):∃ b c,v = .slice b n c:=by
 by_cases hn:n=0
 ·subst hn;exact (zeN.1 h).1
 ·obtain⟨b,cap,c,⟨hv,_⟩,_⟩:=(zbZ (by omega)).1 h;exact⟨_,_,hv⟩
theorem zgJ {p:Nat}{D:zsh}(h:Sat w (zak TD TS p D*F)):D.WF:=by
 obtain⟨v,cb,ab,es,c,l,es2,c2,l2,hh,_⟩:=zaI.1 h;exact hh.1
end
end Go.Sl
end
section
namespace Go.Proofs.YtmcclbiaoeilkaaGreat
open Go.Proofs.Tryz Go.RowKit Go.Sl Go.ChangeMaps
abbrev TD:TypeId:=130
abbrev TS:TypeId:=153
theorem zaZ {w:World}{p:Nat}{x y z:Value}{F:zsi}(h:Sat w (pts p (.cells #[x,y,z] TD (0,0))*F)):
  w.cell? ⟨p,0,none⟩=some x∧w.cell? ⟨p,1,none⟩=some y∧w.cell? ⟨p,2,none⟩=some z:=
 ⟨zab h.block 0,zab h.block 1,zab h.block 2⟩
theorem zcc (p:Nat)(b:Option Addr)(n c:Nat)(i:Int)(w:World)(c0:w.cell? ⟨p,0,none⟩=some (.slice b n c)):
  Calls prog 118 #[.pointer (some ⟨p,0,none⟩),i] w fun e w'=>e = .returned (.bool (decide (0≤i)&&decide (i<(n:Int))))∧w=w':=by
 by_cases h:0≤i
 ·go_enter func118,ntmps118
  go_wp2;go_ret;exact⟨by simp[h],rfl⟩
 ·go_enter func118,ntmps118
  go_wp2;go_ret;exact⟨by rw[show decide (0≤i)=false from decide_eq_false (by omega)];rfl,rfl⟩
theorem zfW (w:World):(zeroValue TS).run prog w = .ok (ziK zck) w:=by kernel_rfl
theorem zgP {s:List UInt8}(h:s.length=64):(prog.info? TS).map (·.size)=some (zdu s).size:=by
 rw[zcn,h];kernel_rfl
section
variable {ops:Array Oper} {rest:List Oper} {o:Oper} {a:Act} {w:World} {Q:Exit→Act→World→Prop}
theorem zch {z s:List UInt8}(hz:z.length=64)(hs:s.length=64)(hg:o.guard=none)(x y:Operand)(ho:o.op = .store TS x y)
  (hx:a.eval x = .pointer (some ⟨w.heap.size,0,none⟩)) (hy:a.eval y=ziK s) (k:wpList prog ops Q rest (a.put o.dst undef) (w.alloc (.cells (zdu s) TS))):
  wpList prog ops Q (o::rest) a (w.alloc (.cells (zdu z) TS)):=
 zdF hg TS x y ho TS _ (zdu s) hx hy (zgP hs) (by rw[zcn,zcn,hs,hz]) (by rw[zce];exact ziu) k
theorem zh6 {s:List UInt8}(hs:s.length=64){T:TypeId}{c:Nat}{fr:Nat×Nat}(hg:o.guard=none)(x:Operand)(ho:o.op = .convert 69 9 x)
  (hx:a.eval x = .slice (some ⟨w.heap.size,0,none⟩) 64 c) (k:wpList prog ops Q rest (a.put o.dst (.string ⟨s.toArray⟩)) (w.alloc (.cells (zdu s) T fr))):
  wpList prog ops Q (o::rest) a (w.alloc (.cells (zdu s) T fr)):=by
 refine zaT hg (v:=.string ⟨s.toArray⟩) (w':=w.alloc (.cells (zdu s) T fr)) ?_ k
 have:=run_convert_bytes_back (P:=prog) (w.alloc (.cells (zdu s) T fr)) 69 9 5 ⟨w.heap.size,0,none⟩ c s underlying69 underlying5 underlying9 (by
  intro j hj;have hb:(w.alloc (.cells (zdu s) T fr)).heap[w.heap.size]?=some (.cells (zdu s) T fr):=heap_alloc_new w _;rw[Addr.add_mid,zab hb]
  simp[zdu,zaY,zb4,hj])
 rw[hs] at this;unfold execOp;simp[ho,hx,this]
theorem zkw {s:List UInt8}{b off:Nat}(hs:s.length=64)(hr:w.rangeAt b off (zaY s))(hg:o.guard=none)(x:Operand)(ho:o.op = .load TS x)
  (hx:a.eval x = .pointer (some ⟨b,off,none⟩)) (k:wpList prog ops Q rest (a.put o.dst (ziK s)) w):wpList prog ops Q (o::rest) a w:=
 wpList_load_mid hg TS x ho b off hx (zaY s) _ hr underlying153 rfl (by rw[zgP hs,zcn,zao]) k
end
theorem zkF {s:List UInt8}(hs:s.length=64)(W:World):∃ W' cap,(convert 9 69 (.string ⟨s.toArray⟩)).run prog W = .ok (.slice (some ⟨W.heap.size,0,none⟩) 64 cap) W'∧
  W'.rangeAt W.heap.size 0 (zaY s)∧Below W.heap.size W W':=by
 have h:=run_bytes_of_string (P:=prog) W 9 69 5 ⟨s.toArray⟩ underlying9 underlying69 underlying5
 have hsz:(⟨s.toArray⟩:ByteArray).size=64:=by show s.toArray.size=64;simpa using hs
 rw[hsz] at h;refine⟨_,_,h,?_,((Below.refl W.heap.size W).drew).alloc (Nat.le_refl _) _⟩;intro j u hu
 have hb:∀ ob:Obj,(W.drew.alloc ob).heap[W.heap.size]?=some ob:=fun ob=>heap_alloc_new W.drew ob
 rw[zab (hb _)]
 have hj:j<s.length:=by have:=(List.getElem?_eq_some_iff.1 hu).1;simpa [zaY] using this
 simp only[zaY,List.getElem?_map] at hu
 have hu':(s.map fun b=>Value.int .u8 b.toNat)[j]?=some u:=by simpa [zb4] using hu
 rw[Nat.zero_add];unfold bytesRow;rw[Array.getElem?_append_left (by simpa using hj)];simpa using hu'
theorem zk2 (p:Nat)(D:zsh)(F:zsi)(i:Int)(w:World)(hS:Sat w (zak TD TS p D*F)):
  Calls prog 73 #[.pointer (some ⟨p,0,none⟩),i] w fun e w' =>
   e = .returned (.tuple #[.string ⟨(D.read i).1.toArray⟩,.int .i64 (D.read i).2])∧Below w.heap.size w w':=by
 obtain⟨v,cb,ab,es,c,l,es2,c2,l2,⟨hwf,hM,hK,hM2,hK2⟩,hs⟩:=zaI.1 hS;have hsd:=hs.right;have hcb:w.heap[cb]?=some (.map es c):=(hs.right.right).block
 by_cases h:D.has i=true
 ·have h2:=zsh.has_iff.1 h
  obtain⟨k,rfl⟩:=Int.eq_ofNat_of_zero_le h2.1
  have hkn:k<D.n:=by omega
  have hd:(decide (0≤(k:Int))&&decide ((k:Int)<(D.n:Int)))=true:=h;obtain⟨b,cap,dc,⟨rfl,hcap,hdc,hD⟩,hsb⟩:=(zbZ (by omega)).1 hsd;obtain⟨q0,q1,q2⟩:=zaZ hs;have hb:=zab hsb.block;have hlen:=zsh.content_length hwf hkn
  have hr:D.read (k:Int)=(D.content k,0):=by unfold zsh.read;rw[if_pos h];rfl
  have hl0:=zeh (P:=prog) (w:=w) underlying128 underlying3 (zfW w) hcb hM (k:Int);have hlk0:=hK (k:Int);rw[if_pos h2.1] at hlk0;simp only[Int.toNat_natCast] at hlk0;rw[hr];clear hr;unfold zsh.content at hlen ⊢
  cases hca:D.cache k with
  | some s =>
   rw[hca] at hlk0 hlen;rw[hlk0] at hl0;simp only[Option.map_some,Option.getD_some,Option.isSome_some] at hl0 hlen ⊢;clear hlk0 hca hD hK hM hM2 hK2 hwf hs hsd hsb hS h;go_enter func73,ntmps73
   go_wp2_with (first
    | (go_at_call 118;refine (zcc _ _ _ _ _ _ q0).mono ?_;rintro e w' ⟨rfl,rfl⟩)
    | ((with_reducible (refine zai ?_ TS ?_ _ (zfW _) ?_));rfl;rfl)
    | ((with_reducible (apply zch zbe hlen));rfl;rfl;rfl;rfl)
    | ((with_reducible (apply zh6 hlen));rfl;rfl;rfl))
   go_ret2;exact⟨rfl,(Below.refl _ _).alloc (Nat.le_refl _) _⟩
  | none =>
   rw[hca] at hlk0 hlen;rw[hlk0] at hl0;simp only[Option.map_none,Option.getD_none,Option.isSome_none] at hl0 hlen ⊢;have hblt:=hsb.lt;have hplt:=hs.lt
   have hra:∀ ob,(w.alloc ob).rangeAt b (k*64) (zaY (D.dur k)):=by
    intro ob j u hu;rw[World.cell?_alloc_lt _ _ _ hblt,hb];exact hD k hkn j u hu
   clear hlk0 hca hD hK hM hM2 hK2 hwf hs hsd hsb hS h;go_enter func73,ntmps73
   go_wp2_with (first
    | (go_at_call 118;refine (zcc _ _ _ _ _ _ q0).mono ?_;rintro e w' ⟨rfl,rfl⟩)
    | ((with_reducible (refine zai ?_ TS ?_ _ (zfW _) ?_));rfl;rfl)
    | ((with_reducible (apply zkw hlen (hra _)));rfl;rfl;rfl)
    | ((with_reducible (apply zch zbe zbe));rfl;rfl;rfl;rfl)
    | ((with_reducible (apply zch zbe hlen));rfl;rfl;rfl;rfl)
    | ((with_reducible (apply zh6 hlen));rfl;rfl;rfl))
   go_ret2;exact⟨rfl,(Below.refl _ _).alloc (Nat.le_refl _) _⟩
 ·have hd:(decide (0≤i)&&decide (i<(D.n:Int)))=false:=by simpa [zsh.has] using h
  obtain⟨b,cap,rfl⟩:=zcu hs.right;obtain⟨q0,q1,q2⟩:=zaZ hs
  have hr:D.read i=([],1):=by unfold zsh.read;rw[if_neg h]
  rw[hr];clear hS hs hM hK hM2 hK2 hwf hr hcb hsd;go_enter func73,ntmps73;go_wp2_with (go_at_call 118;refine (zcc _ _ _ _ _ _ q0).mono ?_;rintro e w' ⟨rfl,rfl⟩);go_ret2;exact⟨rfl,Below.refl _ _⟩
end Go.Proofs.YtmcclbiaoeilkaaGreat
end
section
namespace Go.Proofs
open Go.Shelf
def Tryz.keysA_ren:Go.Shelf.Ren:=⟨fun|7=>140|10=>156|n=>n,fun|23=>128|26=>3|3=>153|28=>169|0=>0|27=>168|33=>89|4=>4|n=>n,fun|n=>n⟩
theorem Tryz.keysA:Go.Proofs.SlLaysZI.n7 prog Tryz.keysA_ren:={
 mixed:=by kernel_rfl
 f7:=⟨Tryz.f140.name,by decide,func140.trans (congrArg some (by kernel_rfl))⟩
 f10:=⟨Tryz.f156.name,by decide,func156.trans (congrArg some (by kernel_rfl))⟩
 t0:=underlying0
 a0:=Tryz.isAgg0
 z0:=Tryz.sizeOf0
 v0:=Tryz.zeroValue0
 t4:=underlying4
 a4:=Tryz.isAgg4
 z4:=Tryz.sizeOf4
 v4:=Tryz.zeroValue4
 t23:=underlying128
 a23:=Tryz.isAgg128
 z23:=Tryz.sizeOf128
 v23:=Tryz.zeroValue128
 t26:=underlying3
 a26:=Tryz.isAgg3
 z26:=Tryz.sizeOf3
 v26:=Tryz.zeroValue3
 t27:=underlying168
 a27:=Tryz.isAgg168
 z27:=Tryz.sizeOf168
 v27:=Tryz.zeroValue168
 t28:=underlying169
 a28:=Tryz.isAgg169
 z28:=Tryz.sizeOf169
 v28:=Tryz.zeroValue169
 t33:=underlying89
 a33:=Tryz.isAgg89
 z33:=Tryz.sizeOf89
 v33:=Tryz.zeroValue89 }
def Tryz.sortedA_ren:Go.Shelf.Ren:=⟨fun|6=>139|8=>154|9=>155|11=>160|13=>162|12=>161|23=>172|24=>173|14=>163|15=>164|16=>165|17=>166|18=>167|19=>168|20=>169|21=>170|22=>171|25=>174|26=>175|27=>176|28=>177|29=>178|30=>146|31=>179|n=>n,fun|26=>3|28=>169|24=>38|0=>0|3=>3|37=>176|48=>161|50=>175|4=>4|40=>188|39=>187|45=>111|5=>5|9=>9|51=>196|55=>200|57=>202|58=>203|33=>89|n=>n,fun|n=>n⟩
theorem Tryz.sortedA:Go.Proofs.SlLaysZI.n6 prog Tryz.sortedA_ren:={
 mixed:=by kernel_rfl
 f6:=⟨Tryz.f139.name,by decide,func139.trans (congrArg some (by kernel_rfl))⟩
 f8:=⟨Tryz.f154.name,by decide,func154.trans (congrArg some (by kernel_rfl))⟩
 f11:=⟨Tryz.f160.name,by decide,func160.trans (congrArg some (by kernel_rfl))⟩
 t0:=underlying0
 a0:=Tryz.isAgg0
 z0:=Tryz.sizeOf0
 v0:=Tryz.zeroValue0
 t24:=underlying38
 a24:=Tryz.isAgg38
 z24:=Tryz.sizeOf38
 v24:=Tryz.zeroValue38
 t26:=underlying3
 a26:=Tryz.isAgg3
 z26:=Tryz.sizeOf3
 v26:=Tryz.zeroValue3
 t28:=underlying169
 a28:=Tryz.isAgg169
 z28:=Tryz.sizeOf169
 v28:=Tryz.zeroValue169
 i26:=by kernel_rfl }
def Tryz.sortA_ren:Go.Shelf.Ren:=⟨fun|5=>155|8=>162|7=>161|19=>172|20=>173|10=>163|11=>164|12=>165|13=>166|14=>167|15=>168|16=>169|17=>170|18=>171|30=>174|31=>175|32=>176|33=>177|34=>178|35=>146|40=>179|n=>n,fun|23=>38|25=>3|3=>3|32=>176|22=>38|0=>0|44=>161|46=>175|4=>4|36=>188|35=>187|41=>111|5=>5|9=>9|53=>196|57=>200|63=>202|64=>203|n=>n,fun|n=>n⟩
theorem Tryz.sortA:Go.Proofs.SlLaysM.n5 prog Tryz.sortA_ren:={
 mixed:=by kernel_rfl
 f5:=⟨Tryz.f155.name,by decide,func155.trans (congrArg some (by kernel_rfl))⟩
 f7:=⟨Tryz.f161.name,by decide,func161.trans (congrArg some (by kernel_rfl))⟩
 f8:=func162.trans (congrArg some (by kernel_rfl))
 f10:=⟨Tryz.f163.name,by decide,func163.trans (congrArg some (by kernel_rfl))⟩
 f11:=⟨Tryz.f164.name,by decide,func164.trans (congrArg some (by kernel_rfl))⟩
 f12:=⟨Tryz.f165.name,by decide,func165.trans (congrArg some (by kernel_rfl))⟩
 f13:=⟨Tryz.f166.name,by decide,func166.trans (congrArg some (by kernel_rfl))⟩
 f14:=⟨Tryz.f167.name,by decide,func167.trans (congrArg some (by kernel_rfl))⟩
 f15:=⟨Tryz.f168.name,by decide,func168.trans (congrArg some (by kernel_rfl))⟩
 f16:=⟨Tryz.f169.name,by decide,func169.trans (congrArg some (by kernel_rfl))⟩
 f17:=⟨Tryz.f170.name,by decide,func170.trans (congrArg some (by kernel_rfl))⟩
 f18:=⟨Tryz.f171.name,by decide,func171.trans (congrArg some (by kernel_rfl))⟩
 f19:=func172.trans (congrArg some (by kernel_rfl))
 f20:=func173.trans (congrArg some (by kernel_rfl))
 f30:=⟨Tryz.f174.name,by decide,func174.trans (congrArg some (by kernel_rfl))⟩
 f31:=func175.trans (congrArg some (by kernel_rfl))
 f32:=func176.trans (congrArg some (by kernel_rfl))
 f33:=⟨Tryz.f177.name,by decide,func177.trans (congrArg some (by kernel_rfl))⟩
 f34:=⟨Tryz.f178.name,by decide,func178.trans (congrArg some (by kernel_rfl))⟩
 f35:=⟨Tryz.f146.name,by decide,func146.trans (congrArg some (by kernel_rfl))⟩
 f40:=⟨Tryz.f179.name,by decide,func179.trans (congrArg some (by kernel_rfl))⟩
 t0:=underlying0
 a0:=Tryz.isAgg0
 z0:=Tryz.sizeOf0
 v0:=Tryz.zeroValue0
 t3:=underlying3
 a3:=Tryz.isAgg3
 z3:=Tryz.sizeOf3
 v3:=Tryz.zeroValue3
 t4:=underlying4
 a4:=Tryz.isAgg4
 z4:=Tryz.sizeOf4
 v4:=Tryz.zeroValue4
 t5:=underlying5
 a5:=Tryz.isAgg5
 z5:=Tryz.sizeOf5
 v5:=Tryz.zeroValue5
 t9:=underlying9
 a9:=Tryz.isAgg9
 z9:=Tryz.sizeOf9
 v9:=Tryz.zeroValue9
 t22:=underlying38
 a22:=Tryz.isAgg38
 z22:=Tryz.sizeOf38
 v22:=Tryz.zeroValue38
 t23:=underlying38
 a23:=Tryz.isAgg38
 z23:=Tryz.sizeOf38
 v23:=Tryz.zeroValue38
 t25:=underlying3
 a25:=Tryz.isAgg3
 z25:=Tryz.sizeOf3
 v25:=Tryz.zeroValue3
 t32:=underlying176
 a32:=Tryz.isAgg176
 z32:=Tryz.sizeOf176
 v32:=Tryz.zeroValue176
 t35:=underlying187
 a35:=Tryz.isAgg187
 z35:=Tryz.sizeOf187
 v35:=Tryz.zeroValue187
 t36:=underlying188
 a36:=Tryz.isAgg188
 z36:=Tryz.sizeOf188
 v36:=Tryz.zeroValue188
 t41:=underlying111
 a41:=Tryz.isAgg111
 z41:=Tryz.sizeOf111
 v41:=Tryz.zeroValue111
 t44:=underlying161
 a44:=Tryz.isAgg161
 z44:=Tryz.sizeOf161
 v44:=Tryz.zeroValue161
 t46:=underlying175
 a46:=Tryz.isAgg175
 z46:=Tryz.sizeOf175
 v46:=Tryz.zeroValue175
 t53:=underlying196
 a53:=Tryz.isAgg196
 z53:=Tryz.sizeOf196
 v53:=Tryz.zeroValue196
 t57:=underlying200
 a57:=Tryz.isAgg200
 z57:=Tryz.sizeOf200
 v57:=Tryz.zeroValue200
 t63:=underlying202
 a63:=Tryz.isAgg202
 z63:=Tryz.sizeOf202
 v63:=Tryz.zeroValue202
 t64:=underlying203
 a64:=Tryz.isAgg203
 z64:=Tryz.sizeOf203
 v64:=Tryz.zeroValue203 }
end Go.Proofs
end
