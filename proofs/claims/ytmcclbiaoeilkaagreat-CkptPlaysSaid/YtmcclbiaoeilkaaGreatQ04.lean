import Derived.OwnWalkIn
import Derived.BigFrameIn
import Derived.Test.YtmcclbiaoeilkaaGreatQ03
set_option maxHeartbeats 1000000
/- Part 4 of a proof;the last part says what is proved. -/
section
namespace Go.Sl
open Go Go.RowKit Go.Maps
theorem zgQ {H:Type}(x:Lit×DataW H):∀ l:List (Lit×DataW H),(DataW.insert x l).Perm (x::l)
 | []=>List.Perm.refl _
 | y::r=>by
  unfold DataW.insert;split
  ·exact List.Perm.refl _
  ·exact (List.Perm.cons y (zgQ x r)).trans (List.Perm.swap x y r)
theorem zcP {H:Type}:∀ l:List (Lit×DataW H),(l.foldr DataW.insert []).Perm l
 | []=>List.Perm.refl _
 | x::r=>(zgQ x _).trans (List.Perm.cons x (zcP r))
theorem ziz {a b:List Int}(hp:a.Perm b)(ha:a.Pairwise (·≤·))(hb:b.Pairwise (·≤·)):a=b:=
 hp.eq_of_pairwise (fun _ _ _ _ h1 h2=>Int.le_antisymm h1 h2) ha hb
theorem zil (D:zsh):D.pending.Nodup:=(List.nodup_range).filter _
theorem zhz (D:zsh):(D.pending.map Int.ofNat).Pairwise (·≤·):=by
 rw[List.pairwise_map];unfold zsh.pending;refine List.Pairwise.filter _ ?_;exact List.pairwise_lt_range.imp (fun h=>by simp;omega)
theorem zng {D:zsh}(hwf:D.WF){l:KV}(hn:(l.map (·.1)).Nodup)(hK:KvSec l D.cache):(l.map (·.1)).Perm (D.pending.map Int.ofNat):=by
 refine (List.perm_ext_iff_of_nodup hn ?_).2 ?_
 ·refine List.Pairwise.map _ ?_ (zil D)
  intro a b h h';exact h (Int.ofNat.inj h')
 ·intro k
  constructor
  ·intro h
   obtain⟨v,hv⟩:=zni h;have hk:=hK k;rw[hv] at hk
   by_cases h0:0≤k
   ·rw[if_pos h0] at hk
    cases hc:D.cache k.toNat with
    | none=>rw[hc] at hk;cases hk
    | some s =>
     refine List.mem_map.2 ⟨k.toNat,?_,by simp;omega⟩;unfold zsh.pending;rw[List.mem_filter,List.mem_range];exact⟨(hwf.cache _ s hc).1,by rw[hc];rfl⟩
   ·rw[if_neg h0] at hk;cases hk
  ·intro h
   obtain⟨i,hi,rfl⟩:=List.mem_map.1 h;unfold zsh.pending at hi;rw[List.mem_filter] at hi
   cases hc:D.cache i with
   | none=>rw[hc] at hi;simp at hi
   | some s =>
    have hk:=hK (i:Int);show (i:Int) ∈ _;rw[if_pos (by omega),Int.toNat_natCast,hc,Option.map_some] at hk;exact zi9 hk
end Go.Sl
namespace Go.Proofs.YtmcclbiaoeilkaaGreat
open Go.Proofs.Tryz Go.RowKit Go.Sl Go.ChangeMaps Go.Maps Go.Sort Go.Shelf
def zfh (_:Value):Option (DataW Unit×List MemPlace):=some (.nil,[])
theorem zra (es:Array MapEntry)(ck:Nat)(l:KV)(hM:MapL es ck l)(hwf:∀ p ∈ l,(Lit.int .i64 p.1).wf=true)(hsz:es.size≤maxLen):
  WideElems.Fit prog 3 zfh es ck∧((es.toList.map (WideElems.rg prog 3 zfh)).map (fun p=>Go.intOf p.1))=l.map (·.1):=by
 have hkey:∀ x ∈ es.toList,∃ k:Int,x.key = .int .i64 k∧(Lit.int .i64 k).wf=true:=by
  intro x hx;have h1:(x.key,x.val) ∈ es.toList.map (fun e=>(e.key,e.val)):=List.mem_map_of_mem hx;rw[hM.ent] at h1;obtain⟨p,hp,he⟩:=List.mem_map.1 h1;simp only[Prod.mk.injEq] at he;exact⟨p.1,he.1.symm,hwf p hp⟩
 have hrg:∀ x ∈ es.toList,∀ k,x.key = .int .i64 k→(Lit.int .i64 k).wf=true→WideElems.rd prog 3 zfh x=some (.int .i64 k,.nil):=by
  intro x _ k hk hw;have:=keyOf_int_mk underlying3 hw;unfold WideElems.rd;rw[hk,this];rfl
 refine⟨⟨hsz,⟨hM.clock,hM.born,?_⟩,?_⟩,?_⟩
 ·have h1:es.toList.map (·.key)=l.map fun p=>Value.int .i64 p.1:=by
   have:=congrArg (List.map Prod.fst) hM.ent;simpa [List.map_map,Function.comp_def] using this
  rw[h1]
  have h2:(l.map fun p=>Value.int .i64 p.1)=(l.map (·.1)).map (Value.int .i64):=by simp[List.map_map,Function.comp_def]
  rw[h2];refine List.Pairwise.map _ ?_ hM.nodup;intro a b h h';exact h (by simpa using h')
 ·intro x hx
  obtain⟨k,hk,hw⟩:=hkey x hx;exact⟨_,hrg x hx k hk hw⟩
 ·have h1:(es.toList.map (WideElems.rg prog 3 zfh)).map (fun p=>Go.intOf p.1)=es.toList.map fun x=>Go.RowKit.intOf x.key:=by
   rw[List.map_map]
   refine List.map_congr_left fun x hx=>?_
   obtain⟨k,hk,hw⟩:=hkey x hx;simp only[Function.comp_def,WideElems.rg,hrg x hx k hk hw,Option.getD_some,hk]
   rfl
  rw[h1];have h2:=congrArg (List.map fun q:Value×Value=>Go.RowKit.intOf q.1) hM.ent;simp only[List.map_map,Function.comp_def] at h2;rw[h2];rfl
theorem Tryz.sortsA (m : Nat) : AnyZI.SortsIn prog Tryz.sortedA_ren Fence.wide m :=
  ⟨fun blk off cap ss W hH hblk hsz => callsIn_wide.2 (AnyM.slices_Sort_int Tryz.sortA blk off cap ss W hH hblk hsz),
   fun p cap W => callsIn_wide.2 (AnyM.slices_Sort_int_none Tryz.sortA p cap W)⟩
theorem zgZ (p:Nat)(D:zsh)(F:zsi)(w:World)(hS:Sat w (zak TD TS p D*F)):
  Calls prog 96 #[.pointer (some ⟨p,0,none⟩)] w fun e w'=>∃ v,e = .returned v∧Below w.heap.size w w'∧
   w'.ownsRow w.heap.size 3 1 v D.pending.length ((D.pending.map Int.ofNat).map (Value.int .i64))∧(v = .slice none 0 0↔D.pending=[]):=by
 obtain⟨v,cb,ab,es,ck,l,es2,ck2,l2,⟨hwf,hM,hK,hM2,hK2⟩,hs⟩:=zaI.1 hS;obtain⟨q0,q1,q2⟩:=zaZ hs;have hcb:w.heap[cb]?=some (.map es ck):=hs.right.right.block;have hplt:=hs.lt;have hcblt:=(Array.getElem?_eq_some_iff.1 hcb).1;have hperm:=zng hwf hM.nodup hK
 have hlen:es.size=D.pending.length:=by rw[hM.size];have:=hperm.length_eq;simpa using this
 have hpl:D.pending.length≤65536:=by
  have h1:D.pending.length≤D.n:=by unfold zsh.pending;have:=List.length_filter_le (fun i=>(D.cache i).isSome) (List.range D.n);simpa using this
  exact Nat.le_trans h1 hwf.small
 have hkwf:∀ q ∈ l,(Lit.int .i64 q.1).wf=true:=by
  intro q hq;have h1:=hperm.subset (List.mem_map_of_mem (f:=(·.1)) hq);obtain⟨i,hi,he⟩:=List.mem_map.1 h1;unfold zsh.pending at hi;rw[List.mem_filter,List.mem_range] at hi;have:=hwf.small;rw[← he];exact WalkArith.wf_i64 (by simp;omega)
 obtain⟨hfit,hkeys⟩:=zra es ck l hM hkwf (by unfold maxLen;omega);obtain⟨D0,hD0⟩:∃ D0:DataW Unit,D0 = .map ((es.toList.map (WideElems.rg prog 3 zfh)).foldr DataW.insert []):=⟨_,rfl⟩;have hown:w.ownsMap prog 3 zfh cb es.size D0:=⟨es,ck,hcb,hfit,Nat.le_refl _,hD0⟩
 have hint:(intKeys D0).Perm (D.pending.map Int.ofNat):=by
  rw[hD0];refine List.Perm.trans ?_ hperm;rw[← hkeys];exact (zcP _).map _
 have hsize:Maps.size D0=es.size:=by
  rw[hD0];have:=(zcP (es.toList.map (WideElems.rg prog 3 zfh))).length_eq;simpa [Maps.size] using this
 have hmax:Maps.size D0≤maxLen:=by rw[hsize];unfold maxLen;omega
 have hbytes:Maps.size D0*8≤140737488355328:=by rw[hsize];omega
 have HI:=zh hint;clear hS hs hM hK hM2 hK2 hfit hkeys hperm hkwf hD0 hint;refine (callsIn_wide (n:=6)).1 ?_
 have hseq:SeqGives Fence.wide 2 prog 156 #[.pointer (some ⟨w.heap.size,0,none⟩)] encZ (fun ss=>ss.Perm (intKeys D0)) (Maps.size D0) (w.alloc (.cells #[.map (some cb)] 128)):=
  AnyZI.keys_gives (ρ:=Tryz.keysA_ren) { Tryz.keysA with } Fence.wide _ trivial rfl (by omega) w.heap.size cb es.size D0 _ (by simp) (by simp) (by
   obtain⟨es',clock,hb,Ft,hs,hD⟩:=hown
   exact⟨es',clock,(Below.heap_alloc _ _ cb hcblt).trans hb,Ft,hs,hD⟩)
 have cK:∀ mb W,CallsIn Fence.wide 5 prog 140 #[.map mb] W fun e w'=>e = .returned (.func (.func 156) #[] #[.pointer (some ⟨W.heap.size,0,none⟩)])∧w'=W.alloc (.cells #[.map mb] 128):=fun mb W=>AnyZI.keys_in Tryz.keysA Fence.wide 5 trivial rfl mb W
 have cS:=AnyZI.sorted_in Tryz.sortedA Fence.wide 5 trivial trivial trivial trivial rfl (by omega) (Tryz.sortsA _) (enters_of func155 (by kernel_rfl) rfl) 156 #[.pointer (some ⟨w.heap.size,0,none⟩)] trivial (enters_of func156 (by kernel_rfl) rfl) _ _ hmax hbytes _ hseq;change CallsIn _ _ prog 139 _ _ _ at cS;have hfK:Fence.wide.fn 140:=trivial;have hfS:Fence.wide.fn 139:=trivial;refine callsIn_of_wp func96 rfl trivial ?_ rfl;simp only[ntmps96,List.size_toArray,List.length_cons,List.length_nil,Nat.reduceAdd,Nat.reduceSub,Array.replicate_succ,Array.replicate_zero,List.push_toArray,List.append_toArray,List.nil_append,List.cons_append]
 gi_wp2_with (first
  | (gi_at_call 140;refine (cK _ _).mono ?_;rintro e w' ⟨rfl,rfl⟩)
  | (gi_at_call 139;refine cS.mono ?_;rintro e w' ⟨v,ss,rfl,hS,hrow,hnil,hb⟩))
 go_ret;have hp2:=hS.trans HI.out
 have hsort:ss.mergeSort (fun x y=>decide (x≤y))=D.pending.map Int.ofNat:=
  ziz ((List.mergeSort_perm _ _).trans hp2) ((List.pairwise_mergeSort (by intro a b c h1 h2;simp at *;omega) (by intro a b;simp;omega) ss).imp (by intro a b h;simpa using h)) (zhz D)
 have hlen2:ss.length=D.pending.length:=by simpa using hp2.length_eq
 rw[hsort,hlen2] at hrow;refine⟨v,rfl,((Below.refl _ w).alloc (Nat.le_refl _) _).trans (hb.mono (by simp)),ownsRow_base_a hrow (by simp),hnil.trans ?_⟩
 constructor
 ·rintro rfl;simpa using hlen2.symm
 ·intro h;rw[h] at hlen2;simpa using hlen2
end Go.Proofs.YtmcclbiaoeilkaaGreat
end
section
namespace Go.Sl
open Go Go.RowKit
def zg1 (ops:Array Oper):Nat→Nat→Nat→Bool
 | 0,_,_=>false
 | f+1,j,i=>match ops[j]? with
  | none=>false
  | some o=>o.after.any fun e=>Region.binds .any e&&(e.on==i || zg1 ops f e.on i)
def zks (ops:Array Oper)(j:Nat):Bool:=(List.range ops.size).all fun i=>i==j || zg1 ops 12 j i
def Closed (ops:Array Oper)(listed:Array Bool):Prop:=∀ (j:Nat) (o:Oper),ops[j]?=some o→listed.getD j false=true→∀ e ∈ o.after,Region.binds .any e=true→listed.getD e.on false=true
theorem Closed.reach {ops:Array Oper}{listed:Array Bool}(hc:Closed ops listed):∀ (f j i:Nat) (o:Oper),ops[j]?=some o→(∀ e ∈ o.after,Region.binds .any e=true→listed.getD e.on false=true)→zg1 ops f j i=true→listed.getD i false=true:=by
 intro f
 induction f with
 | zero=>intro j i o _ _ h;cases h
 | succ f ih =>
  intro j i o ho hall h;unfold zg1 at h;rw[ho] at h;simp only[← Array.any_toList,List.any_eq_true] at h;obtain⟨e,he,hb⟩:=h;replace he:=Array.mem_toList_iff.1 he;simp only[Bool.and_eq_true,Bool.or_eq_true,beq_iff_eq] at hb;have h1:=hall e he hb.1;rcases hb.2 with h2|h2
  ·rw[← h2];exact h1
  ·cases hoe:ops[e.on]? with
   | none=>cases f with
    | zero=>cases h2
    | succ f=>unfold zg1 at h2;rw[hoe] at h2;cases h2
   | some o'=>exact ih e.on i o' hoe (hc e.on o' hoe h1) h2
theorem Closed.init (ops:Array Oper):Closed ops (Array.replicate ops.size false):=by
 intro j o ho h;rw[Array.getD_eq_getD_getElem?,Array.getElem?_replicate] at h
 split at h <;> cases h
theorem Closed.set {ops:Array Oper}{listed:Array Bool}(hc:Closed ops listed){i:Nat}(hi:i ∈ Region.ready .any ops listed):Closed ops (listed.setIfInBounds i true):=by
 intro j o ho h e he hb;obtain⟨_,oi,hoi,hall⟩:=mem_ready.1 hi
 by_cases hij:i=j
 ·subst hij
  rw[ho] at hoi;cases hoi;exact getD_set_true (hall e he hb)
 ·rw[getD_set_ne false hij] at h
  exact getD_set_true (hc j o ho h e he hb)
section
variable {P:Program} {ops:Array Oper} {Q:Exit→Act→World→Prop} {S:World→Prop}
def zfT (P:Program)(ops:Array Oper)(Q:Exit→Act→World→Prop)(S:World→Prop):Nat→Array Bool→Act→World→Prop
 | 0,listed,a,w=>Region.ready .any ops listed=[]∧Q .normal a w
 | fuel+1,listed,a,w =>
  (Region.ready .any ops listed=[]→Q .normal a w)∧
  ∀ i ∈ Region.ready .any ops listed,wpOp P ops Q i (fun a' w'=>(zks ops i=true∨S w')∧zfT P ops Q S fuel (listed.setIfInBounds i true) a' w') a w
theorem zh5:∀ (fuel:Nat) (listed:Array Bool) (a:Act) (w:World),zfT P ops Q S fuel listed a w→wpAny P .any ops Q fuel listed a w
 | 0,_,_,_,h=>h
 | fuel+1,_,_,_,h=>⟨h.1,fun i hi=>wpOp_mono (fun a' w' h'=>zh5 fuel _ a' w' h'.2) (h.2 i hi)⟩
theorem zkS {i j:Nat}{listed:Array Bool}(hc:Closed ops listed)(hi:i ∈ Region.ready .any ops listed)(hj:j ∈ Region.ready .any ops listed)(hne:j≠i):zks ops j=false:=by
 obtain⟨hiun,oi,hoi,_⟩:=mem_ready.1 hi;obtain⟨_,oj,hoj,hall⟩:=mem_ready.1 hj
 cases ht:zks ops j with
 | false=>rfl
 | true =>
  exfalso
  unfold zks at ht;have hisz:i<ops.size:=(Array.getElem?_eq_some_iff.1 hoi).1;have h1:=List.all_eq_true.1 ht i (by simp[hisz])
  have h2:(i==j)=false:=by simp;exact Ne.symm hne
  rw[h2,Bool.false_or] at h1;have h3:=hc.reach _ j i oj hoj hall h1;rcases Nat.lt_or_ge i listed.size with h'|h'
  ·simp[h'] at hiun h3;rw[hiun] at h3;cases h3
  ·simp[Array.getElem?_eq_none h'] at h3
theorem zjG {i:Nat}{oi:Oper}{v:Value}(hi:ops[i]?=some oi)(hsel:∀ (j:Nat) (o:Oper) cs b,ops[j]?=some o→o.op ≠ .select cs b)
  (hQ:∀ c a w,Q (.panic c) (a.put oi.dst v) w→Q (.panic c) a w):
  ∀ (fuel:Nat) (listed:Array Bool) (a:Act) (w:World),Closed ops listed →
   (∀ j oj,ops[j]?=some oj→j≠i→listed.getD j true=false→(∀ e ∈ oj.after,Region.binds .any e=true→e.on≠i)→oi.apart ops oj=true) →
   i ∈ Region.ready .any ops listed→YieldsIf P ops S oi v a→S w →
   zfT P ops Q S fuel (listed.setIfInBounds i true) (a.put oi.dst v) w→zfT P ops Q S (fuel+1) listed a w:=by
 intro fuel
 induction fuel with
 | zero =>
  intro listed a w _ _ hr hy hS H;refine⟨fun h=>(by rw[h] at hr;cases hr),fun j hj=>?_⟩
  by_cases hji:j=i
  ·subst hji;exact hy.wpOp hi hS ⟨.inr hS,H⟩
  ·have:=ready_mono hj hji
   rw[H.1] at this;cases this
 | succ fuel ih =>
  intro listed a w hc hfree hr hy hS H;refine⟨fun h=>(by rw[h] at hr;cases hr),fun j hj=>?_⟩
  by_cases hji:j=i
  ·subst hji;exact hy.wpOp hi hS ⟨.inr hS,H⟩
  ·have h1:=H.2 j (ready_mono hj hji)
   obtain⟨hjun,oj,hoj,hall⟩:=mem_ready.1 hj
   have hnot:∀ e ∈ oj.after,Region.binds .any e=true→e.on≠i:=fun e he hb heq=>by
    have h1:=hall e he hb;have h0:=(mem_ready.1 hr).1;rw[heq] at h1;rcases Nat.lt_or_ge i listed.size with h'|h'
    ·simp[h'] at h0 h1;rw[h0] at h1;cases h1
    ·simp[Array.getElem?_eq_none h'] at h1
   have h2:=wpOp_putIf hoj (hfree j oj hoj hji hjun hnot) (fun cs b=>hsel i oi cs b hi) (fun cs b=>hsel j oj cs b hoj) hQ hy h1
   have hfree':∀ k ok,ops[k]?=some ok→k≠i→(listed.setIfInBounds j true).getD k true=false →
     (∀ e ∈ ok.after,Region.binds .any e=true→e.on≠i)→oi.apart ops ok=true:=fun k ok hk hki hun hno=>by
    refine hfree k ok hk hki ?_ hno
    by_cases hjk:j=k
    ·subst hjk;exact hjun
    ·rw[getD_set_ne true hjk] at hun;exact hun
   have hnt:=zkS hc hr hj hji;refine wpOp_mono (fun a' w' h3=>?_) h2
   have hS':S w':=by
    rcases h3.2.1 with h|h
    ·rw[hnt] at h;cases h
    ·exact h
   refine⟨.inr hS',ih (listed.setIfInBounds j true) a' w' (hc.set hj) hfree' (ready_mono hr (Ne.symm hji)) h3.1 hS' ?_⟩;rw[Array.setIfInBounds_comm _ _ hji];exact h3.2.2
theorem zhq {i:Nat}{oi:Oper}{v:Value}{fuel:Nat}{listed:Array Bool}{a:Act}{w:World}(hi:ops[i]?=some oi)
  (hs:Region.noSelect ops=true) (hf:Region.free .any ops listed i=true) (hr:(Region.ready .any ops listed).contains i=true)
  (hQ:∀ c a w,Q (.panic c) (a.put oi.dst v) w→Q (.panic c) a w) (hy:YieldsIf P ops S oi v a) (hS:S w) (hc:Closed ops listed)
  (h:zfT P ops Q S fuel (listed.setIfInBounds i true) (a.put oi.dst v) w):zfT P ops Q S (fuel+1) listed a w:=
 zjG hi (Region.noSelect_spec hs) hQ fuel listed a w hc (Region.free_spec hi hf) (by simpa using hr) hy hS h
end
def zgp (ops:Array Oper)(listed:Array Bool)(i:Nat):Bool:=Region.noSelect ops&&Region.free .any ops listed i&&(Region.ready .any ops listed).contains i
def zcD (ops:Array Oper)(listed:Array Bool)(i:Nat):Bool:=Region.ready .any ops listed==[i]
structure Reg (P:Program)(ops:Array Oper)(Q:Exit→Act→World→Prop)(S:World→Prop)(fuel:Nat)(listed:Array Bool)(t:Array Value)(df:List Deferred)(w:World):Prop where
 out:Closed ops listed→zfT P ops (NoPanic Q) S fuel listed ⟨t,df⟩ w
section
variable {P:Program} {ops:Array Oper} {Q:Exit→Act→World→Prop} {S:World→Prop} {fuel:Nat} {listed:Array Bool} {t:Array Value} {df:List Deferred} {w:World}
theorem zah (S:World→Prop){id:Nat}(hm:P.follows .mixedOrders=true)(h:Reg P ops Q S ops.size (Array.replicate ops.size false) t df w.drew):(Code.region id ops true).wp P Q ⟨t,df⟩ w:=
 wp_region_noPanic (wp_region_any hm (zh5 _ _ _ _ (h.out (Closed.init ops))))
theorem zeZ (a:Act)(d:Tmp)(v:Value):a.put (some d) v=⟨a.tmps.setIfInBounds d v,a.defers⟩:=rfl
theorem zaa (i:Nat){o:Oper}{d:Tmp}{v:Value}(ho:ops[i]?=some o)(hd:o.dst=some d)(hck:zgp ops listed i=true)(hw:Region.wanted o (yielded ops t)=true)
  (hr:∀ w',S w'→(execOp (Act.eval ⟨t,df⟩) o).run P w' = .ok (.value v) w') (hS:S w)
  (k:Reg P ops Q S fuel (listed.setIfInBounds i true) (t.setIfInBounds d v) df w):Reg P ops Q S (fuel+1) listed t df w:=by
 simp only[zgp,Bool.and_eq_true] at hck
 exact⟨fun hc=>zhq ho hck.1.1 hck.1.2 hck.2 (fun _ _ _ h=>h) (.inl ⟨hw,hr⟩) hS hc (by rw[hd];exact k.out (hc.set (by simpa using hck.2)))⟩
theorem zaQ (i:Nat){o:Oper}{d:Tmp}(ho:ops[i]?=some o)(hd:o.dst=some d)(hck:zgp ops listed i=true)(hw:Region.wanted o (yielded ops t)=false)(hS:S w)
  (k:Reg P ops Q S fuel (listed.setIfInBounds i true) (t.setIfInBounds d undef) df w):Reg P ops Q S (fuel+1) listed t df w:=by
 simp only[zgp,Bool.and_eq_true] at hck
 exact⟨fun hc=>zhq ho hck.1.1 hck.1.2 hck.2 (fun _ _ _ h=>h) (.inr ⟨hw,rfl⟩) hS hc (by rw[hd];exact k.out (hc.set (by simpa using hck.2)))⟩
theorem zke (i:Nat){o:Oper}(ho:ops[i]?=some o)(hck:zcD ops listed i=true)(hw:Region.wanted o (yielded ops t)=true)
  (k:o.wp P ⟨t,df⟩ w (fun a' w'=>(zks ops i=true∨S w')∧Reg P ops Q S fuel (listed.setIfInBounds i true) a'.tmps a'.defers w') (NoPanic Q)):Reg P ops Q S (fuel+1) listed t df w:=by
 have hck':Region.ready .any ops listed=[i]:=by simpa [zcD] using hck
 constructor
 intro hc;have hci:Closed ops (listed.setIfInBounds i true):=hc.set (by rw[hck'];simp);refine⟨fun h=>(by rw[hck'] at h;cases h),fun j hj=>?_⟩;rw[hck'] at hj
 obtain rfl:j=i:=by simpa using hj
 unfold wpOp;simp only[ho,hw,if_true]
 left
 refine Oper.wp_mono ?_ k
 exact fun a' w' h=>⟨h.1,h.2.out hci⟩
theorem znJ (i:Nat){o:Oper}(ho:ops[i]?=some o)(hck:zcD ops listed i=true)(hw:Region.wanted o (yielded ops t)=true)
  (k:o.wp P ⟨t,df⟩ w (fun a' w'=>S w'∧Reg P ops Q S fuel (listed.setIfInBounds i true) a'.tmps a'.defers w') (NoPanic Q)):Reg P ops Q S (fuel+1) listed t df w:=
 zke i ho hck hw (Oper.wp_mono (fun _ _ h=>⟨.inr h.1,h.2⟩) k)
theorem zat (i : Nat) {o : Oper} (w' : World) (ho : ops[i]? = some o) (hd : o.dst = none) (hck : (zcD ops listed i && zks ops i && (Region.ready .any ops (listed.setIfInBounds i true)).isEmpty) = true) (hw : Region.wanted o (yielded ops t) = true)
    (hr : (execOp (Act.eval ⟨t, df⟩) o).run P w = .ok .skip w') (k : Q .normal ⟨t, df⟩ w') : Reg P ops Q S (fuel + 1) listed t df w := by
  simp only [Bool.and_eq_true] at hck
  refine zke i ho hck.1.1 hw ?_
  unfold Oper.wp; rw [hr]; simp only [Oper.upon, hd, Act.put]
  refine ⟨.inl hck.1.2, ?_⟩
  constructor
  intro _
  cases fuel with
  | zero => exact ⟨by simpa using hck.2, NoPanic.normal k⟩
  | succ n => exact ⟨fun _ => NoPanic.normal k, fun j hj => by have : Region.ready .any ops (listed.setIfInBounds i true) = [] := by simpa using hck.2
                                                               rw [this] at hj; cases hj⟩
theorem zdB (i : Nat) {o : Oper} {d : Tmp} (v : Value) (w' : World) (ho : ops[i]? = some o) (hd : o.dst = some d) (hck : (zcD ops listed i && zks ops i && (Region.ready .any ops (listed.setIfInBounds i true)).isEmpty) = true) (hw : Region.wanted o (yielded ops t) = true)
    (hr : (execOp (Act.eval ⟨t, df⟩) o).run P w = .ok (.value v) w') (k : Q .normal ⟨t.setIfInBounds d v, df⟩ w') : Reg P ops Q S (fuel + 1) listed t df w := by
  simp only [Bool.and_eq_true] at hck
  refine zke i ho hck.1.1 hw ?_
  unfold Oper.wp; rw [hr]; simp only [Oper.upon, hd, zeZ]
  refine ⟨.inl hck.1.2, ?_⟩
  constructor
  intro _
  cases fuel with
  | zero => exact ⟨by simpa using hck.2, NoPanic.normal k⟩
  | succ n => exact ⟨fun _ => NoPanic.normal k, fun j hj => by have : Region.ready .any ops (listed.setIfInBounds i true) = [] := by simpa using hck.2
                                                               rw [this] at hj; cases hj⟩
theorem zaV (i:Nat){o:Oper}{d:Tmp}(v:Value)(w':World)(ho:ops[i]?=some o)(hd:o.dst=some d)(hck:zcD ops listed i=true)(hw:Region.wanted o (yielded ops t)=true)
  (hr:(execOp (Act.eval ⟨t,df⟩) o).run P w = .ok (.value v) w') (hS:S w')
  (k:Reg P ops Q S fuel (listed.setIfInBounds i true) (t.setIfInBounds d v) df w'):Reg P ops Q S (fuel+1) listed t df w:=
 znJ i ho hck hw (by unfold Oper.wp;rw[hr];simp only[Oper.upon,hd,zeZ];exact⟨hS,k⟩)
theorem zfP (i:Nat){o:Oper}(w':World)(ho:ops[i]?=some o)(hd:o.dst=none)(hck:zcD ops listed i=true)(hw:Region.wanted o (yielded ops t)=true)
  (hr:(execOp (Act.eval ⟨t,df⟩) o).run P w = .ok .skip w') (hS:S w')
  (k:Reg P ops Q S fuel (listed.setIfInBounds i true) t df w'):Reg P ops Q S (fuel+1) listed t df w:=
 znJ i ho hck hw (by unfold Oper.wp;rw[hr];simp only[Oper.upon,hd,Act.put];exact⟨hS,k⟩)
theorem zan (i:Nat){o:Oper}{d:Tmp}{f:FuncId}{args:Array Value}{R:Value→World→Prop}(ho:ops[i]?=some o)(hd:o.dst=some d)(hck:zcD ops listed i=true)(hw:Region.wanted o (yielded ops t)=true)
  (hr:(execOp (Act.eval ⟨t,df⟩) o).run P w = .ok (.enter f args) w) (hc:Calls P f args w fun e w'=>∃ v,e = .returned v∧R v w')
  (k:∀ v w',R v w'→S w'∧Reg P ops Q S fuel (listed.setIfInBounds i true) (t.setIfInBounds d v) df w'):Reg P ops Q S (fuel+1) listed t df w:=
 znJ i ho hck hw (by
  unfold Oper.wp;rw[hr];refine hc.mono ?_;rintro e w' ⟨v,rfl,h⟩;simp only[hd,zeZ]
  exact k v w' h)
theorem zar (hr:(Region.ready .any ops listed).isEmpty=true)(h:Q .normal ⟨t,df⟩ w):Reg P ops Q S fuel listed t df w:=by
 have hr':Region.ready .any ops listed=[]:=by simpa using hr
 constructor
 intro _
 cases fuel with
 | zero=>exact⟨hr',NoPanic.normal h⟩
 | succ n=>exact⟨fun _=>NoPanic.normal h,fun j hj=>by rw[hr'] at hj;cases hj⟩
end
end Go.Sl
namespace Go.Sl
open Go Go.RowKit
section
variable {P:Program} {ops:Array Oper} {Q:Exit→Act→World→Prop} {S:World→Prop} {fuel:Nat} {listed:Array Bool} {t:Array Value} {df:List Deferred} {w:World}
end
end Go.Sl
end
section
namespace Go.Proofs.YtmcclbiaoeilkaaGreat
open Go.Proofs.Tryz Go.RowKit Go.Sl Go.ChangeMaps
theorem zf3:(prog.info? TS).map (fun i=>(i.zero,i.size,i.bytes))=some (some (ziK zck),64,64):=by kernel_rfl
theorem zrP (n:Nat):zlp n (fun _=>zck) (madeCells (zdu zck) (n*64)):=by
 intro i hi j u hu
 have hj:j<64:=by have:=(List.getElem?_eq_some_iff.1 hu).1;simpa [zaY,zck] using this
 have hsz:zaY zck=List.replicate 64 (zb4 0):=by rw[zaY,zck,List.map_replicate]
 have hz:∀ x,x<64→(zdu zck)[x]! = zb4 0:=by
  intro x hx
  have:(zdu zck)[x]?=some (zb4 0):=by rw[zdu,hsz];rw[List.getElem?_toArray,List.getElem?_replicate,if_pos hx]
  rw[getElem!_def,this]
 have hu':u=zb4 0:=by
  change (zaY zck)[j]?=some u at hu;rw[hsz,List.getElem?_replicate,if_pos hj] at hu;exact (Option.some.inj hu).symm
 subst hu'
 have hs:(zdu zck).size=64:=by rw[zcn];exact zbe
 simp only[madeCells,hs];rw[Array.getElem?_map,Array.getElem?_range,if_pos (by omega)];rw[Option.map_some,hz _ (Nat.mod_lt _ (by omega))]
theorem zgU (m:Nat)(hm:m≤65536)(F:zsi)(w w':World)(hF:Sat w F)(hown:w'.ownsRow w.heap.size TS 64 (.slice (some ⟨w.heap.size,0,none⟩) m m) m (madeCells (zdu zck) (m*64)).toList)(hg:w.grownBy w' none)
  (D:zsh) (hD:D={ n:=m,dur:=fun _=>zck,cache:=fun _=>none,armed:=fun _=>none }):
  Same w (((w'.alloc (.map #[] 0)).alloc (.map #[] 0)).alloc (.cells #[.slice (some ⟨w.heap.size,0,none⟩) m m,.map (some w'.heap.size),.map (some (w'.heap.size+1))] TD))∧
  Sat (((w'.alloc (.map #[] 0)).alloc (.map #[] 0)).alloc (.cells #[.slice (some ⟨w.heap.size,0,none⟩) m m,.map (some w'.heap.size),.map (some (w'.heap.size+1))] TD)) (zak TD TS (w'.heap.size+2) D*F):=by
 subst hD
 have hwf:({ n:=m,dur:=fun _=>zck,cache:=fun _=>none,armed:=fun _=>none }:zsh).WF:=
  ⟨fun i h=>zbe,fun i s h=>by simp at h,fun i j h=>by simp at h,hm⟩
 have hs0:Same w w':=⟨hg.os,hg.tape,hg.output,hg.size⟩;refine⟨((hs0.alloc _).alloc _).alloc _,?_⟩;obtain⟨hl,hcase⟩:=hown;rcases hcase with ⟨h,_⟩|⟨g,cap,cur,hv,hbase,hgb,h1,h2,h3,h4⟩
 ·cases h
 ·simp only[Value.slice.injEq,Option.some.injEq,Addr.mk.injEq,and_true,true_and] at hv
  obtain⟨rfl,rfl⟩:=hv
  have hcur:cur=madeCells (zdu zck) (m*64):=by
   apply Array.ext';rw[← h4,List.take_of_length_le (by simp[h3])]
  subst hcur;have hS:Sat w' (pts w.heap.size (.cells (madeCells (zdu zck) (m*64)) TS (0,0))*F):=hF.grow (fun k hk=>hg.block k hk (by simp)) hgb
  have hdur:Sat w' (zcN TS m (fun _=>zck) (.slice (some ⟨w.heap.size,0,none⟩) m m)*F):=by
   by_cases hm0:m=0
   ·subst hm0;exact zeN.2 ⟨⟨_,_,rfl⟩,hS.right⟩
   ·exact (zbZ (by omega)).2 ⟨_,_,_,⟨rfl,Nat.le_refl _,h3,zrP m⟩,hS⟩
  have h5:=((hdur.alloc (.map #[] 0)).alloc (.map #[] 0)).alloc (.cells #[.slice (some ⟨w.heap.size,0,none⟩) m m,.map (some w'.heap.size),.map (some (w'.heap.size+1))] TD);simp only[World.size_alloc] at h5;exact zaI.2 ⟨.slice (some ⟨w.heap.size,0,none⟩) m m,w'.heap.size,w'.heap.size+1,#[],0,[],#[],0,[],⟨hwf,MapL.empty 0,KvSec.nil,MapL.empty 0,KvInt.nil⟩,h5.perm (by ac_rfl)⟩
theorem zj4 (n:Int)(F:zsi)(w:World)(hF:Sat w F):
  Calls prog 30 #[n] w fun e w'=>∃ p,e = .returned (.pointer (some ⟨p,0,none⟩))∧Same w w'∧Sat w' (zak TD TS p (zsh.new n)*F):=by
 obtain⟨i0,hi,hz0,hz1,hz2⟩:=info_parts zf3;have hm1:True:=trivial;have hmm:=@run_makeMap prog
 by_cases h0:n<0
 ·have hD:zsh.new n={ n:=0,dur:=fun _=>zck,cache:=fun _=>none,armed:=fun _=>none }:=by
   unfold zsh.new;rw[show (min (max n 0) 65536).toNat=0 by omega]
  have HD:=zh hD;clear hD;go_enter func30,ntmps30;go_wp2_with (at_make;refine wpList_make_full _ rfl _ _ 127 rfl w.heap.size TS i0 (ziK zck) 64 underlying127 hi hz0 hz1 .i64 .i64 _ _ 0 rfl rfl ?_ ?_ ?_ ?_ ?_ ?_)
  all_goals first|rfl|exact hm1|omega|(rw[hz2];omega)|(unfold maxLen;omega)|exact Nat.zero_le _|exact Nat.le_refl _|skip
  ·intro w' hown hg
   have H:=zgU 0 (by omega) F w w' hF hown hg _ HD.out;have H:=zh H;clear hown hg hF hmm;have hmm:=@run_makeMap prog;go_wp2;go_ret;exact⟨_,rfl,H.out⟩
 ·by_cases h1:n≤65536
  ·obtain⟨k,rfl⟩:=Int.eq_ofNat_of_zero_le (show 0≤n by omega)
   have hD:zsh.new (k:Int)={ n:=k,dur:=fun _=>zck,cache:=fun _=>none,armed:=fun _=>none }:=by
    unfold zsh.new;rw[show (min (max (k:Int) 0) 65536).toNat=k by omega]
   have HD:=zh hD;clear hD;go_enter func30,ntmps30;go_wp2_with (at_make;refine wpList_make_full _ rfl _ _ 127 rfl w.heap.size TS i0 (ziK zck) 64 underlying127 hi hz0 hz1 .i64 .i64 _ _ k rfl rfl ?_ ?_ ?_ ?_ ?_ ?_)
   all_goals first|rfl|exact hm1|omega|(rw[hz2];omega)|(unfold maxLen;omega)|exact Nat.zero_le _|exact Nat.le_refl _|skip
   ·intro w' hown hg
    have H:=zgU k (by omega) F w w' hF hown hg _ HD.out;have H:=zh H;clear hown hg hF hmm;have hmm:=@run_makeMap prog;go_wp2;go_ret;exact⟨_,rfl,H.out⟩
  ·obtain⟨m,hm1,hm2⟩:∃ m:Nat,(65536:Int)=(m:Int)∧m≤65536:=⟨65536,by omega,by omega⟩
   have hD:zsh.new n={ n:=m,dur:=fun _=>zck,cache:=fun _=>none,armed:=fun _=>none }:=by
    unfold zsh.new;rw[show (min (max n 0) 65536).toNat=m by omega]
   have HD:=zh hD;clear hD;go_enter func30,ntmps30;go_wp2_with (at_make;refine wpList_make_full _ rfl _ _ 127 rfl w.heap.size TS i0 (ziK zck) 64 underlying127 hi hz0 hz1 .i64 .i64 _ _ m rfl rfl ?_ ?_ ?_ ?_ ?_ ?_)
   all_goals first|rfl|exact hm1|omega|(rw[hz2];omega)|(unfold maxLen;omega)|exact Nat.zero_le _|exact Nat.le_refl _|skip
   ·intro w' hown hg
    have H:=zgU m (by omega) F w w' hF hown hg _ HD.out;have H:=zh H;clear hown hg hF hmm;have hmm:=@run_makeMap prog;go_wp2;go_ret;exact⟨_,rfl,H.out⟩
end Go.Proofs.YtmcclbiaoeilkaaGreat
end
