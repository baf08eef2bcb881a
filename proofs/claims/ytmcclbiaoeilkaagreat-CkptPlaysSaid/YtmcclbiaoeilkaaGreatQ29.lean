import Derived.ProofKit
import Derived.OpenShut
import Derived.Carry
import Derived.Test.YtmcclbiaoeilkaaGreatQ28
set_option maxHeartbeats 2000000
set_option maxRecDepth 40000
/- Part 29 of a proof;the last part says what is proved. -/
section
namespace Go.Sl
open Go Go.RowKit
def Rd (P:Program)(w:World)(t:TypeId)(cs:List Value):Prop:=
 ∃ (H:Type) (enc:TypeId×Value→H) (fuel:Nat) (d:DataW H) (ps:List MemPlace),DataW.trod enc P w 0 (fun _=>true) true fuel t cs=some (d,ps)
section
variable {P:Program} {w:World} {t:TypeId} {cs:List Value}
theorem zih {α β:Type}{f:α→Option β}:∀ {l:List α} {r:List β},l.mapM f=some r→∀ x ∈ l,∃ y,f x=some y
 | [],_,_,x,hx=>by simp at hx
 | a::l,r,h,x,hx=>by
  rw[List.mapM_cons] at h
  cases ha:f a with
  | none=>simp[ha] at h
  | some y =>
   cases hl:l.mapM f with
   | none=>simp[ha,hl] at h
   | some ys =>
    rcases List.mem_cons.1 hx with rfl|hx
    ·exact⟨y,ha⟩
    ·exact zih hl x hx
theorem zj2 {α:Type}{p:Nat→α→Prop}:∀ n,(∀ i,i<n→∃ x,p i x)→∃ l:List α,l.length=n∧∀ j x,l[j]?=some x→p j x
 | 0,_=>⟨[],rfl,by simp⟩
 | n+1,h=>by
  obtain⟨l,hl,hp⟩:=zj2 n (fun i hi=>h i (by omega));obtain⟨x,hx⟩:=h n (by omega);refine⟨l++[x],by simp[hl],fun j y hj=>?_⟩;rcases Nat.lt_or_ge j n with h1|h1
  ·rw[List.getElem?_append_left (by omega)] at hj;exact hp j y hj
  ·rw[List.getElem?_append_right (by omega)] at hj
   have:j - l.length=0:=by
    rcases Nat.eq_zero_or_pos (j - l.length) with h2|h2
    ·exact h2
    ·rw[List.getElem?_eq_none (by simp;omega)] at hj;cases hj
   rw[this] at hj;simp at hj
   obtain rfl:j=n:=by omega
   rw[← hj];exact hx
theorem Rd.int {k:IntKind}(hu:P.underlying t=some (.int k))(h:Rd P w t cs):∃ n,cs=[.int k n]∧(Lit.int k n).wf=true:=by
 obtain⟨H,enc,fuel,d,ps,h⟩:=h
 cases fuel with
 | zero=>simp[DataW.trod] at h
 | succ m =>
  unfold DataW.trod at h;rw[hu] at h
  split at h <;> simp_all
theorem Rd.string (hu:P.underlying t=some .string)(h:Rd P w t cs):∃ s,cs=[.string s]∧s.size≤maxLen:=by
 obtain⟨H,enc,fuel,d,ps,h⟩:=h
 cases fuel with
 | zero=>simp[DataW.trod] at h
 | succ m =>
  unfold DataW.trod at h;rw[hu] at h
  split at h <;> simp_all
theorem Rd.bool (hu:P.underlying t=some .bool)(h:Rd P w t cs):∃ b,cs=[.bool b]:=by
 obtain⟨H,enc,fuel,d,ps,h⟩:=h
 cases fuel with
 | zero=>simp[DataW.trod] at h
 | succ m =>
  unfold DataW.trod at h;rw[hu] at h
  split at h <;> simp_all
theorem Rd.struct {fs:Array Field}(hu:P.underlying t=some (.struct fs))(h:Rd P w t cs):cs.length=P.cellsOf t∧∀ f ∈ fs.toList,Rd P w f.type ((cs.drop f.offset).take (P.cellsOf f.type)):=by
 obtain⟨H,enc,fuel,d,ps,h⟩:=h
 cases fuel with
 | zero=>simp[DataW.trod] at h
 | succ m =>
  unfold DataW.trod at h;rw[hu] at h
  have h':cs.length=P.cellsOf t∧∃ xs,fs.toList.mapM (fun f=>DataW.trod enc P w 0 (fun _=>true) true m f.type ((cs.drop f.offset).take (P.cellsOf f.type)))=some xs:=by
   split at h <;> simp_all
   obtain⟨_,xs,hx,_⟩:=h;exact⟨xs,hx⟩
  obtain⟨h1,xs,hx⟩:=h';refine⟨h1,fun f hf=>?_⟩;obtain⟨y,hy⟩:=zih hx f hf;exact⟨H,enc,m,y.1,y.2,hy⟩
theorem Rd.slice {e : TypeId} {sz : Nat} (hu : P.underlying t = some (.slice e)) (hsz : P.cellsOf e = sz) (h0 : 0 < sz) (h : Rd P w t cs) :
    ∃ ao len cap, cs = [.slice ao len cap] ∧ len ≤ maxLen ∧ (0 < len → ∃ b off, ao = some ⟨b, off, none⟩ ∧ ∀ i, i < len → ∃ es : List Value, es.length = sz ∧ Rd P w e es ∧ ∀ j u, es[j]? = some u → w.cell? ⟨b, off + i * sz + j, none⟩ = some u) := by
  obtain ⟨H, enc, fuel, d, ps, h⟩ := h
  cases fuel with
  | zero => simp [DataW.trod] at h
  | succ m =>
    rw [DataW.trod_step] at h
    have key : cs = [.slice none 0 0] ∨ ∃ a len cap, cs = [.slice (some a) len cap] ∧ len ≤ cap ∧ cap ≤ maxLen ∧ ∃ elems, (List.range len).mapM (fun i => (w.cells? 0 (a.add (i * P.cellsOf e)) (P.cellsOf e)).bind (DataW.trod enc P w 0 (fun _ => true) true m e)) = some elems := by
      unfold DataW.trodStep at h
      rw [hu] at h
      split at h
      all_goals first
        | (exfalso; simp at *; done)
        | skip
      all_goals first
        | (rename_i heq; cases heq; exact .inl rfl)
        | (rename_i e' a len cap heq
           cases heq
           simp only at h
           split at h
           · rename_i hc
             obtain ⟨elems, he, _⟩ := Option.bind_eq_some_iff.1 h
             exact .inr ⟨a, len, cap, rfl, hc.2.1, hc.2.2, elems, he⟩
           · cases h)
        | (rename_i heq; cases heq)
        | (cases h)
    rcases key with rfl | ⟨a, len, cap, rfl, hlc, hcm, elems, he⟩
    · exact ⟨none, 0, 0, rfl, Nat.zero_le _, fun h => absurd h (Nat.lt_irrefl 0)⟩
    rw [hsz] at he
    refine ⟨some a, len, cap, rfl, Nat.le_trans hlc hcm, fun hl => ?_⟩
    have hat : ∀ i, i < len → ∃ es, w.cells? 0 (a.add (i * sz)) sz = some es ∧ ∃ y, DataW.trod enc P w 0 (fun _ => true) true m e es = some y := by
      intro i hi
      obtain ⟨y, hy⟩ := zih he i (by simp [hi])
      rw [Option.bind_eq_some_iff] at hy
      obtain ⟨es, h3, h4⟩ := hy
      exact ⟨es, h3, y, h4⟩
    have hcell : ∀ (x : Addr) (es : List Value), w.cells? 0 x sz = some es → es.length = sz ∧ ∀ j u, es[j]? = some u → w.cell? (x.add j) = some u := by
      intro x es hx
      unfold World.cells? at hx
      rw [if_pos (Nat.zero_le _)] at hx
      have hlen : es.length = sz := by simpa using mapM_some_length hx
      refine ⟨hlen, fun j u hu => ?_⟩
      have hj : j < sz := by rw [← hlen]; exact (List.getElem?_eq_some_iff.1 hu).1
      have := mapM_some_get hx j j (by simp [hj])
      rw [this]; exact hu
    obtain ⟨b, off, spot⟩ := a
    obtain ⟨es0, hc0, _⟩ := hat 0 hl
    obtain ⟨hl0, hcc⟩ := hcell _ _ hc0
    have hspot : spot = none := by
      have := hcc 0 _ (List.getElem?_eq_getElem (by omega))
      simpa [Addr.add] using World.cell?_spot this
    subst hspot
    refine ⟨b, off, rfl, fun i hi => ?_⟩
    obtain ⟨es, hc, y, hy⟩ := hat i hi
    obtain ⟨hl', hcc'⟩ := hcell _ _ hc
    refine ⟨es, hl', ⟨H, enc, m, y.1, y.2, hy⟩, fun j u hj => ?_⟩
    have := hcc' j u hj
    rw [Addr.add_mid, Addr.add_mid] at this
    exact this
end
end Go.Sl
namespace Go.Proofs.YtmcclbiaoeilkaaGreat
open Go.Proofs.Tryz Go.ChangeShapes Go.WideShapes Go.ChangeAt Go.RowKit
theorem zqk:ownKnob prog.godebug=none:=by kernel_rfl
theorem zo3:laidOutB prog=true:=by kernel_rfl
theorem zkP {H:Type}{enc:TypeId×Value→H}{W W':World}(hb:Below W.heap.size W W'):
  ∀ (ts:List TypeId) (vs:List Value) (ds:List (DataW H)) (ps:List MemPlace),(∀ t ∈ ts,prog.readableRec t=true∧t<prog.types.size)→(∀ x ∈ ps,x.block<W.heap.size) →
   DataW.TrodAll enc prog W 0 (fun _=>true) true ts vs ds ps→DataW.TrodAll enc prog W' 0 (fun b=>decide (b<W.heap.size)) true ts vs ds ps
 | [],[],[],ps,_,_,h=>h
 | t::ts,v::vs,d::ds,ps,ht,hlt,h=>by
  obtain⟨p,q,h1,h2,rfl⟩:=h;exact⟨p,q,Below.trod zo3 (ht t (by simp)).1 (ht t (by simp)).2 h1 hb (fun x hx=>hlt x (by simp[hx])),zkP hb ts vs ds q (fun t' h'=>ht t' (by simp[h'])) (fun x hx=>hlt x (by simp[hx])) h2,rfl⟩
 | [],[],_::_,_,_,_,h=>by cases h
 | [],_::_,_,_,_,_,h=>by cases h
 | _::_,[],_,_,_,_,h=>by cases h
 | _::_,_::_,[],_,_,_,h=>by cases h
theorem zo4 {H:Type}{enc:TypeId×Value→H}{f:Func}{s:ChangeSpec}{W W':World}{args:Array Value}{ds gs:List (DataW H)}{before:List MemPlace}
  (hres:f.resultTypes=#[4]) (hvars:s.vars=[]) (hp:∀ t ∈ f.params.toList,prog.readableRec t=true∧t<prog.types.size)
  (hfn:(s.fn H (ds++gs))={ results:=[.lit (.bool true)],args:=ds }) (hW:DataW.Whole enc prog f.params.toList s.vars false W args.toList ds gs before)
  (hb:Below W.heap.size W W'):s.post enc prog f false true false false W args (.bool true) W':=by
 obtain⟨p,q,hA,hV,rfl,hfz,hnd⟩:=id hW;rw[hvars] at hV
 have hlt:∀ x ∈ p,x.block<W.heap.size:=fun x hx=>by simpa using hW.lt x (by simp[hx])
 refine⟨ds,gs,p++q,[],p,[],hW,?_,?_,?_,hb.frame _,fun h=>by cases h⟩
 ·rw[hfn,hres];exact trodAll_cons_mk (shut_bool underlying4 _) trodAll_mk0
 ·rw[hfn];exact zkP hb _ _ _ _ hp hlt hA
 ·rw[hfn,hvars];rfl
end Go.Proofs.YtmcclbiaoeilkaaGreat
end
section
namespace Go.Sl
open Go Go.RowKit
section
variable {P:Program} {w:World} {t:TypeId} {cs:List Value}
theorem Rd.sliceC {e : TypeId} {sz : Nat} (hu : P.underlying t = some (.slice e)) (hsz : P.cellsOf e = sz) (h0 : 0 < sz) (h : Rd P w t cs) :
    ∃ ao len cap, cs = [.slice ao len cap] ∧ (len ≤ maxLen ∧ len ≤ cap) ∧ (0 < len → ∃ b off, ao = some ⟨b, off, none⟩ ∧ ∀ i, i < len → ∃ es : List Value, es.length = sz ∧ Rd P w e es ∧ ∀ j u, es[j]? = some u → w.cell? ⟨b, off + i * sz + j, none⟩ = some u) := by
  obtain ⟨H, enc, fuel, d, ps, h⟩ := h
  cases fuel with
  | zero => simp [DataW.trod] at h
  | succ m =>
    rw [DataW.trod_step] at h
    have key : cs = [.slice none 0 0] ∨ ∃ a len cap, cs = [.slice (some a) len cap] ∧ len ≤ cap ∧ cap ≤ maxLen ∧ ∃ elems, (List.range len).mapM (fun i => (w.cells? 0 (a.add (i * P.cellsOf e)) (P.cellsOf e)).bind (DataW.trod enc P w 0 (fun _ => true) true m e)) = some elems := by
      unfold DataW.trodStep at h
      rw [hu] at h
      split at h
      all_goals first
        | (exfalso; simp at *; done)
        | skip
      all_goals first
        | (rename_i heq; cases heq; exact .inl rfl)
        | (rename_i e' a len cap heq
           cases heq
           simp only at h
           split at h
           · rename_i hc
             obtain ⟨elems, he, _⟩ := Option.bind_eq_some_iff.1 h
             exact .inr ⟨a, len, cap, rfl, hc.2.1, hc.2.2, elems, he⟩
           · cases h)
        | (rename_i heq; cases heq)
        | (cases h)
    rcases key with rfl | ⟨a, len, cap, rfl, hlc, hcm, elems, he⟩
    · exact ⟨none, 0, 0, rfl, ⟨Nat.zero_le _, Nat.le_refl _⟩, fun h => absurd h (Nat.lt_irrefl 0)⟩
    rw [hsz] at he
    refine ⟨some a, len, cap, rfl, ⟨Nat.le_trans hlc hcm, hlc⟩, fun hl => ?_⟩
    have hat : ∀ i, i < len → ∃ es, w.cells? 0 (a.add (i * sz)) sz = some es ∧ ∃ y, DataW.trod enc P w 0 (fun _ => true) true m e es = some y := by
      intro i hi
      obtain ⟨y, hy⟩ := zih he i (by simp [hi])
      rw [Option.bind_eq_some_iff] at hy
      obtain ⟨es, h3, h4⟩ := hy
      exact ⟨es, h3, y, h4⟩
    have hcell : ∀ (x : Addr) (es : List Value), w.cells? 0 x sz = some es → es.length = sz ∧ ∀ j u, es[j]? = some u → w.cell? (x.add j) = some u := by
      intro x es hx
      unfold World.cells? at hx
      rw [if_pos (Nat.zero_le _)] at hx
      have hlen : es.length = sz := by simpa using mapM_some_length hx
      refine ⟨hlen, fun j u hu => ?_⟩
      have hj : j < sz := by rw [← hlen]; exact (List.getElem?_eq_some_iff.1 hu).1
      have := mapM_some_get hx j j (by simp [hj])
      rw [this]; exact hu
    obtain ⟨b, off, spot⟩ := a
    obtain ⟨es0, hc0, _⟩ := hat 0 hl
    obtain ⟨hl0, hcc⟩ := hcell _ _ hc0
    have hspot : spot = none := by
      have := hcc 0 _ (List.getElem?_eq_getElem (by omega))
      simpa [Addr.add] using World.cell?_spot this
    subst hspot
    refine ⟨b, off, rfl, fun i hi => ?_⟩
    obtain ⟨es, hc, y, hy⟩ := hat i hi
    obtain ⟨hl', hcc'⟩ := hcell _ _ hc
    refine ⟨es, hl', ⟨H, enc, m, y.1, y.2, hy⟩, fun j u hj => ?_⟩
    have := hcc' j u hj
    rw [Addr.add_mid, Addr.add_mid] at this
    exact this
end
end Go.Sl
end
section
namespace Go.Proofs.YtmcclbiaoeilkaaGreat
open Go.Proofs.Tryz Go.RowKit Go.Sl Go.ChangeMaps
theorem zoc {H:Type}{enc:TypeId×Value→H}{w:World}{t:TypeId}{v:Value}{d:DataW H}{ps:List MemPlace}(h:DataW.Trod enc prog w 0 (fun _=>true) true t v d ps):Rd prog w t v.cells.toList:=by
 obtain⟨fuel,h⟩:=h;exact⟨H,enc,fuel,d,ps,h⟩
theorem zrS {w:World}{cs:List Value}(h:Rd prog w TB cs):∃ f:UInt8,cs=[.int .u8 (f.toNat:Int)]:=by
 obtain⟨n,rfl,hw⟩:=Rd.int underlying5 h;have hb:=bounds_u8 hw;obtain⟨m,rfl⟩:=Int.eq_ofNat_of_zero_le hb.1;refine⟨UInt8.ofNat m,?_⟩
 have:(UInt8.ofNat m).toNat=m:=by simp;omega
 rw[this]
theorem zpU {n:Int}(h:(Lit.int .i64 n).wf=true):n<9223372036854775808:=by
 simp[Lit.wf,IntKind.min,IntKind.max,IntKind.bits,IntKind.signed] at h;omega
theorem zrk {w:World}{cs:List Value}(h:Rd prog w zcC cs):∃ c:zsl,cs=zfa c:=by
 obtain⟨hl,hf⟩:=Rd.struct underlying23 h;rw[show prog.cellsOf zcC=6 by kernel_rfl] at hl
 have k1:prog.cellsOf 3=1:=by kernel_rfl
 match cs,hl with
 | [a0,a1,a2,a3,a4,a5],_ =>
  simp only[List.mem_cons,List.not_mem_nil,or_false,forall_eq_or_imp,forall_eq,k1,List.drop_zero,List.drop_succ_cons,List.take_succ_cons,List.take_zero] at hf;obtain⟨h0,h1,h2,h3,h4,h5⟩:=hf;obtain⟨n0,e0,_⟩:=Rd.int underlying3 h0;obtain⟨n1,e1,_⟩:=Rd.int underlying3 h1;obtain⟨n2,e2,_⟩:=Rd.int underlying3 h2;obtain⟨n3,e3,_⟩:=Rd.int underlying3 h3;obtain⟨n4,e4,_⟩:=Rd.int underlying3 h4;obtain⟨n5,e5,_⟩:=Rd.int underlying3 h5;simp at e0 e1 e2 e3 e4 e5;subst e0 e1 e2 e3 e4 e5;exact⟨⟨n0,n1,n2,n3,n4,n5⟩,rfl⟩
theorem zrm {w:World}{cs:List Value}(h:Rd prog w TPl cs):∃ a:zsj,cs=(plA a).toList:=by
 obtain⟨hl,hf⟩:=Rd.struct underlying37 h;rw[show prog.cellsOf TPl=3 by kernel_rfl] at hl
 have k1:prog.cellsOf 3=1:=by kernel_rfl
 match cs,hl with
 | [a0,a1,a2],_ =>
  simp only[List.mem_cons,List.not_mem_nil,or_false,forall_eq_or_imp,forall_eq,k1,List.drop_zero,List.drop_succ_cons,List.take_succ_cons,List.take_zero] at hf;obtain⟨h0,h1,h2⟩:=hf;obtain⟨n0,e0,_⟩:=Rd.int underlying3 h0;obtain⟨n1,e1,_⟩:=Rd.int underlying3 h1;obtain⟨n2,e2,_⟩:=Rd.int underlying3 h2;simp at e0 e1 e2;subst e0 e1 e2;exact⟨⟨n0,n1,n2⟩,rfl⟩
theorem zqv {w:World}{cs:List Value}(h:Rd prog w 38 cs):∃ v l,cs=[v]∧IntsC w v l∧l.length≤maxLen:=by
 obtain⟨ao,len,cap,rfl,⟨hm,hlc⟩,hc⟩:=Rd.sliceC (sz:=1) underlying38 (by kernel_rfl) (by decide) h
 by_cases h0:len=0
 ·subst h0
  exact⟨_,[],rfl,⟨ao,cap,rfl,Nat.zero_le _,fun h=>absurd rfl h⟩,Nat.zero_le _⟩
 ·obtain⟨b,off,rfl,hi⟩:=hc (by omega)
  obtain⟨l,hl,hp⟩:=zj2 (p:=fun i (n:Int)=>w.cell? ⟨b,off+i*1,none⟩=some (.int .i64 n)) len (by
   intro i hlt;obtain⟨es,_,hr,hcell⟩:=hi i hlt;obtain⟨n,rfl,_⟩:=Rd.int underlying3 hr
   exact⟨n,hcell 0 _ rfl⟩)
  subst hl
  exact⟨_,l,rfl,⟨some ⟨b,off,none⟩,cap,rfl,hlc,fun _=>⟨b,off,rfl,hp⟩⟩,hm⟩
structure zrD (o:OpN):Prop where
 n:o.n<9223372036854775808
 picks:o.picks.length≤9223372036854775807
theorem zrR {w:World}{cs:List Value}(h:Rd prog w TOp cs):∃ o v,cs=(opN o v).toList∧IntsC w v o.picks∧zrD o:=by
 obtain⟨hl,hf⟩:=Rd.struct underlying40 h;rw[show prog.cellsOf TOp=11 by kernel_rfl] at hl
 have k1:prog.cellsOf 3=1:=by kernel_rfl
 have k2:prog.cellsOf 5=1:=by kernel_rfl
 have k3:prog.cellsOf 38=1:=by kernel_rfl
 have k4:prog.cellsOf TPl=3:=by kernel_rfl
 match cs,hl with
 | [a0,a1,a2,a3,a4,a5,a6,a7,a8,a9,a10],_ =>
  simp only[List.mem_cons,List.not_mem_nil,or_false,forall_eq_or_imp,forall_eq,k1,k2,k3,k4,List.drop_zero,List.drop_succ_cons,List.take_succ_cons,List.take_zero] at hf;obtain⟨h0,h1,h2,h3,h4,h5,h6⟩:=hf;obtain⟨n0,e0,_⟩:=Rd.int underlying3 h0;obtain⟨a,e1⟩:=zrm h1;obtain⟨b,e2⟩:=zrm h2;obtain⟨n3,e3,w3⟩:=Rd.int underlying3 h3;obtain⟨f,e4⟩:=zrS h4;obtain⟨n5,e5,_⟩:=Rd.int underlying3 h5;obtain⟨v,l,e6,hi,hlm⟩:=zqv h6;refine⟨⟨n0,a,b,n3,f,n5,l⟩,v,?_,hi,⟨zpU w3,by show l.length≤_;unfold maxLen at hlm;omega⟩⟩;simp at e0 e1 e2 e3 e4 e5 e6
  obtain⟨rfl,rfl,rfl⟩:=e1;obtain⟨rfl,rfl,rfl⟩:=e2;subst e0 e3 e4 e5 e6
  rfl
def ScrN (w:World)(v:Value)(l:List (OpN×Value)):Prop:=∃ ao cap,v = .slice ao l.length cap∧(l≠[]→∃ b off,ao=some ⟨b,off,none⟩∧∀ j o,l[j]?=some o→zrD o.1∧w.rangeAt b (off+j*11) (opN o.1 o.2).toList∧IntsC w o.2 o.1.picks)
theorem IntsC.old {w w':World}{v:Value}{l:List Int}{P:zsi}(h:IntsC w v l)(hs:Sat w' (P*Sl.old w)):IntsC w' v l:=by
 have hk:=hs.of_old
 have hcell:∀ (a:Addr) u,w.cell? a=some u→w'.cell? a=some u:=fun a u hu=>(World.cell?_of_block (hk a.block (World.block_lt_of_cell? _ _ hu))).trans hu
 obtain⟨ai,ci,rfl,hlc,h2⟩:=h;refine⟨ai,ci,rfl,hlc,fun hn=>?_⟩;obtain⟨b',off',rfl,h3⟩:=h2 hn;exact⟨b',off',rfl,fun i x hx=>hcell _ _ (h3 i x hx)⟩
theorem ScrN.old {w w':World}{v:Value}{l:List (OpN×Value)}{P:zsi}(h:ScrN w v l)(hs:Sat w' (P*Sl.old w)):ScrN w' v l:=by
 have hk:=hs.of_old
 have hcell:∀ (a:Addr) u,w.cell? a=some u→w'.cell? a=some u:=fun a u hu=>(World.cell?_of_block (hk a.block (World.block_lt_of_cell? _ _ hu))).trans hu
 obtain⟨ao,cap,rfl,hc⟩:=h;refine⟨ao,cap,rfl,fun hne=>?_⟩;obtain⟨b,off,rfl,hp⟩:=hc hne;refine⟨b,off,rfl,fun j o hj=>?_⟩;obtain⟨hwo,h1,h2⟩:=hp j o hj;exact⟨hwo,fun i u hu=>hcell _ _ (h1 i u hu),IntsC.old h2 hs⟩
theorem zft (S:zsg)(d:Int)(f:zsh→zsh):(S.step d f).1.images=S.images:=by
 unfold zsg.step;split;rfl;split;rfl;split
 ·split <;> rfl
 ·rfl
theorem zdx (S:zsg)(d:Int):(S.flush d).1.images=S.images:=by
 unfold zsg.flush;split
 ·rfl
 ·exact zft S d _
theorem zc6:∀ (m:Nat) (S:zsg) (k:Nat),(S.flushFrom k m).1.images=S.images
 | 0,_,_=>rfl
 | m+1,S,k=>by
  show (if S.state k≠1 then S.flushFrom (k+1) m else if (S.flush k).2≠0 then S.flush k else (S.flush k).1.flushFrom (k+1) m).1.images=_;split
  ·exact zc6 m S (k+1)
  ·split
   ·exact zdx S k
   ·rw[zc6 m,zdx]
theorem zfZ (S:zsg)(a:zsj)(v:Bool)(f:zsh→Int→zsh×Int):(S.arm a v f).1.images=S.images:=by
 unfold zsg.arm;split;rfl
 split <;> rfl
theorem zlA (S:zsg)(o:OpN):(doN S o).1.images.length≤S.images.length+1:=by
 have key:∀ S':zsg,S'.images=S.images→S'.images.length≤S.images.length+1:=fun S' h=>by rw[h];omega
 unfold doN
 by_cases q1:o.kind=1
 ·rw[if_pos q1];refine key _ ?_;show (S.write _ _).1.images=_;unfold zsg.write;split;rfl;exact zft _ _ _
 rw[if_neg q1]
 by_cases q2:o.kind=2
 ·rw[if_pos q2];exact key _ rfl
 rw[if_neg q2]
 by_cases q3:o.kind=3
 ·rw[if_pos q3];exact key _ (zdx _ _)
 rw[if_neg q3]
 by_cases q4:o.kind=4
 ·rw[if_pos q4];refine key _ ?_;show S.flushAll.1.images=_;unfold zsg.flushAll;split;rfl;exact zc6 _ _ _
 rw[if_neg q4]
 by_cases q5:o.kind=5
 ·rw[if_pos q5];exact key _ rfl
 rw[if_neg q5]
 by_cases q6:o.kind=6
 ·rw[if_pos q6];exact key _ rfl
 rw[if_neg q6]
 by_cases q7:o.kind=7
 ·rw[if_pos q7];refine key _ ?_;show (S.kill _).1.images=_;unfold zsg.kill;split <;> rfl
 rw[if_neg q7]
 by_cases q8:o.kind=8
 ·rw[if_pos q8]
  show (S.remove _).1.images.length≤_;unfold zsg.remove;split
  ·show (S.images++[_]).length≤_
   rw[List.length_append];exact Nat.le_refl _
  ·exact Nat.le_succ _
 rw[if_neg q8]
 by_cases q9:o.kind=9
 ·rw[if_pos q9];refine key _ ?_;show (S.insert _ _).1.images=_;unfold zsg.insert;split;rfl;split;rfl;split <;> rfl
 rw[if_neg q9]
 by_cases q10:o.kind=10
 ·rw[if_pos q10];refine key _ ?_;show (S.replace _).1.images=_;unfold zsg.replace;split <;> rfl
 rw[if_neg q10]
 by_cases q11:o.kind=11
 ·rw[if_pos q11];exact key _ (zfZ _ _ _ _)
 rw[if_neg q11]
 by_cases q12:o.kind=12
 ·rw[if_pos q12];exact key _ (zfZ _ _ _ _)
 rw[if_neg q12]
 by_cases q13:o.kind=13
 ·rw[if_pos q13];exact key _ (zfZ _ _ _ _)
 rw[if_neg q13];exact key _ rfl
section
variable {ops:Array Oper} {rest:List Oper} {op:Oper} {a:Act} {w:World} {Q:Exit→Act→World→Prop}
theorem zhr {o:OpN}{pv:Value}{b off:Nat}(hr:w.rangeAt b off (opN o pv).toList)(hg:op.guard=none)(x:Operand)(ho:op.op = .load TOp x)
  (hx:a.eval x = .pointer (some ⟨b,off,none⟩)) (k:wpList prog ops Q rest (a.put op.dst (.agg (opN o pv))) w):wpList prog ops Q (op::rest) a w:=
 wpList_load_mid hg TOp x ho b off hx (opN o pv).toList _ hr underlying40 rfl (by rw[zj0 o pv];rfl) k
end
end Go.Proofs.YtmcclbiaoeilkaaGreat
end
section
namespace Go.Proofs.YtmcclbiaoeilkaaGreat
open Go.Proofs.Tryz Go.RowKit Go.Sl Go.ChangeMaps
def szN (c:zsl)(a:Nat):Int:=if a=0 then c.log else if a=1 then c.image else if a=2 then c.image else c.rows
def zpY (d a n:Nat):List zsj:=(List.range n).map fun i:Nat=>⟨(d:Int),(a:Int)+1,(i:Int)⟩
def zpm (c:zsl)(d n:Nat):List zsj:=(List.range n).flatMap fun a=>zpY d a (szN c a).toNat
def zl1 (c:zsl)(n:Nat):List zsj:=(List.range n).flatMap fun d=>zpm c d 4
def zjL (L:List zsj):List Value:=L.flatMap fun a=>(plA a).toList
theorem znC (d a n:Nat):zpY d a (n+1)=zpY d a n++[⟨(d:Int),(a:Int)+1,(n:Int)⟩]:=by simp[zpY,List.range_succ]
theorem znB (c:zsl)(d n:Nat):zpm c d (n+1)=zpm c d n++zpY d n (szN c n).toNat:=by simp[zpm,List.range_succ]
theorem znD (c:zsl)(n:Nat):zl1 c (n+1)=zl1 c n++zpm c n 4:=by simp[zl1,List.range_succ]
theorem zka (L M:List zsj):zjL (L++M)=zjL L++zjL M:=by simp[zjL]
theorem zpl (a:zsj):zjL [a]=(plA a).toList:=by simp[zjL]
abbrev szA (c:zsl):Array Value:=#[.int .i64 c.log,.int .i64 c.image,.int .i64 c.image,.int .i64 c.rows]
structure PlSt (w:World)(c:zsl)(B g:Nat)(F:zsi)(L:List zsj)(bound:Nat)(o:Value)(wr:World):Prop where
 same:Same w wr
 sat:Sat wr (zaf TPl 3 o L.length (zjL L)*(pts B (.cells (za8 c) zcC (0,0))*(pts g (.cells (szA c) zbP (0,0))*F)))
 len:L.length≤bound
structure PlA (w:World)(c:zsl)(B g:Nat)(F:zsi)(o d:Value)(wr:World):Prop where
 st:∃ k:Nat,(k:Int)≤c.disks∧d = .int .i64 k∧PlSt w c B g F (zl1 c k) (96*k) o wr
structure PlB (w:World)(c:zsl)(B g:Nat)(F:zsi)(k:Nat)(o a:Value)(wr:World):Prop where
 st:∃ j:Nat,j≤4∧a = .int .i64 j∧PlSt w c B g F (zl1 c k++zpm c k j) (96*k+24*j) o wr
structure PlC (w:World)(c:zsl)(B g:Nat)(F:zsi)(k j:Nat)(o i:Value)(wr:World):Prop where
 st:∃ m:Nat,(m:Int)≤max 0 (szN c j)∧i = .int .i64 m∧PlSt w c B g F (zl1 c k++zpm c k j++zpY k j m) (96*k+24*j+m) o wr
theorem znd:(prog.info? TPl).map (fun i=>(i.zero,i.size,i.bytes))=some (some (.agg #[.int .i64 0,.int .i64 0,.int .i64 0]),3,24):=by kernel_rfl
theorem zpZ (c:zsl){j:Nat}(h:j<4):(szA c)[j]?=some (.int .i64 (szN c j)):=by
 match j,h with
 | 0,_=>rfl
 | 1,_=>rfl
 | 2,_=>rfl
 | 3,_=>rfl
theorem PlSt.cells {w:World}{c:zsl}{B g:Nat}{F:zsi}{L:List zsj}{bound:Nat}{o:Value}{wr:World}(h:PlSt w c B g F L bound o wr):
  wr.cell? ⟨B,0,none⟩=some (.int .i64 c.disks)∧(∀ j,j<4→wr.cell? ⟨g,j,none⟩=some (.int .i64 (szN c j)))∧∃ ao cap,o = .slice ao L.length cap:=by
 refine⟨zab h.sat.right.block 0,fun j hj=>?_,zal h.sat⟩;rw[zab h.sat.right.right.block];exact zpZ c hj
theorem zl0 (c:zsl)(F:zsi)(w:World)(hF:Sat w F)(hd:0≤c.disks∧c.disks≤6)(hs:∀ j,j<4→0≤szN c j∧szN c j≤24):
  Calls prog 9 #[.agg (za8 c)] w fun e w'=>∃ v,e = .returned v∧Hid (Same w w'∧Sat w' (zaf TPl 3 v (zl1 c c.disks.toNat).length (zjL (zl1 c c.disks.toNat))*F)∧(zl1 c c.disks.toNat).length≤96*c.disks.toNat):=by
 have HD:=(zd hd hs);have H0:=(zd ((Same.refl w).alloc (.cells (za8 c) zcC)) (hF.alloc (.cells (za8 c) zcC)));clear hd hs hF;go_enter func9,ntmps9;go_upto_region 2 with (fail)
 have hst:PlSt w c w.heap.size (w.heap.size+1) F (zl1 c 0) (96*0) (.slice none 0 0) ((w.alloc (.cells (za8 c) zcC)).alloc (.cells (szA c) zbP)):=⟨H0.out.1.alloc _,by
  have:=H0.out.2.alloc (.cells (szA c) zbP);rw[World.size_alloc] at this
  exact zbp.2 (this.perm (by ac_rfl)),Nat.zero_le _⟩
 have HST:=zh hst;clear hst H0;generalize w.heap.size+1=g at HST ⊢;generalize w.heap.size=B at HST ⊢;generalize (w.alloc (.cells (za8 c) zcC)).alloc (.cells (szA c) zbP)=w1 at HST ⊢;obtain⟨c0,c1,_⟩:=HST.out.cells;clear c1;go_wp2
 go_loopw [4,5] (fun o d wr=>PlA w c B g F o d wr) (fun _ d _=>c.disks.toNat - (intOf d).toNat)
 case atStart=>exact⟨0,HD.out.1.1,rfl,HST.out⟩
 case round =>
  clear HST c0;obtain⟨k,hk,rfl,hs⟩:=hrel.st;clear hrel;obtain⟨c0,c1,ao,cap,rfl⟩:=hs.cells;clear c1;have H1:=zh hs;clear hs
  by_cases hlt:(k:Int)<c.disks
  case neg =>
   have hltd:decide ((k:Int)<c.disks)=false:=decide_eq_false hlt
   have hke:k=c.disks.toNat:=by omega
   go_wp2;go_ret;subst hke;exact⟨_,rfl,H1.out.same,(H1.out.sat.perm (show _=pts B (.cells (za8 c) zcC (0,0))*(pts g (.cells (szA c) zbP (0,0))*(zaf TPl 3 _ _ _*F)) from by ac_rfl)).right.right,H1.out.len⟩
  have hltd:decide ((k:Int)<c.disks)=true:=decide_eq_true hlt
  have hk6:(k:Int)≤6:=by have:=HD.out.1.2;omega
  have HK:=(zd hlt hk6);clear hlt hk;obtain⟨wo,rfl⟩:∃ wo:World,wo=wr:=⟨_,rfl⟩;go_wp2
  go_loopw [4,6] (fun o a wr=>PlB w c B g F k o a wr) (fun _ a _=>4 - (intOf a).toNat)
  case atStart=>exact⟨0,by omega,rfl,by have:=H1.out;simpa [zpm] using this⟩
  case round =>
   clear H1 c0;obtain⟨j,hj,rfl,hs⟩:=hrel.st;clear hrel;obtain⟨c0,c1,ao,cap,rfl⟩:=hs.cells;clear c0;have H1:=zh hs;clear hs
   by_cases hj4:j<4
   case neg =>
    have hjd:decide ((j:Int)<4)=false:=decide_eq_false (by omega)
    obtain rfl:j=4:=by omega
    clear c1;go_wp2
    go_roundw
    case rel =>
     refine⟨⟨k+1,by have:=HK.out;omega,rfl,?_⟩⟩;rw[znD];exact⟨H1.out.same,H1.out.sat,by have:=H1.out.len;omega⟩
    case measure=>have:=HK.out;simp only[intOf];omega
   have hjd:decide ((j:Int)<4)=true:=decide_eq_true (by omega)
   have hj0:(j:Int)≤4:=by omega
   clear c1;obtain⟨wp,rfl⟩:∃ wp:World,wp=wr:=⟨_,rfl⟩;go_wp2
   go_loopw [4,7] (fun o i wr=>PlC w c B g F k j o i wr) (fun _ i _=>(szN c j).toNat - (intOf i).toNat)
   case atStart=>exact⟨0,by omega,rfl,by have:=H1.out;simpa [zpY] using this⟩
   case round =>
    clear H1;obtain⟨m,hm,rfl,hs⟩:=hrel.st;clear hrel;obtain⟨c0,c1',ao,cap,rfl⟩:=hs.cells;have c1:=c1' j hj4;clear c0 c1';have hsz:=HD.out.2 j hj4;have H1:=zh hs;clear hs
    have hj0':(0:Int)≤(j:Int):=by omega
    have hj4':(j:Int)<4:=by omega
    by_cases hml:(m:Int)<szN c j
    case neg =>
     have hmd:decide ((m:Int)<szN c j)=false:=decide_eq_false hml
     have hmm:m=(szN c j).toNat:=by omega
     go_wp2
     go_roundw
     case rel =>
      refine⟨⟨j+1,hj4,rfl,?_⟩⟩;rw[znB,← List.append_assoc,← hmm];exact⟨H1.out.same,H1.out.sat,by have:=H1.out.len;omega⟩
     case measure=>simp only[intOf];omega
    have hmd:decide ((m:Int)<szN c j)=true:=decide_eq_true hml
    have hm24:(m:Int)≤24:=by omega
    have hlen:=H1.out.len;generalize hLL:zl1 c k++zpm c k j++zpY k j m=L at H1 hlen ⊢;have HLL:=zh hLL;have HLN:=zh (show L.length≤100000 by omega);clear hLL hlen;obtain⟨ti,hti,hz0,hts,hz2⟩:=info_parts znd;go_wp2_with (at_builtin;refine zaq (F:=pts B (.cells (za8 c) zcC (0,0))*(pts g (.cells (szA c) zbP (0,0))*F)) rfl _ _ 34 TPl rfl ti _ underlying34 hti hz0 hts hz2 rfl (H1.out.sat.allocKeep _) (plA ⟨(k:Int),(j:Int)+1,(m:Int)⟩).toList rfl rfl rfl ?_ (by simp[Value.oneCell']) (by have:=HLN.out;unfold maxLen;omega) (by have:=HLN.out;omega) ?_)
    intro v' w2 h2;go_wp2
    go_roundw
    case rel =>
     refine⟨⟨m+1,by omega,rfl,?_⟩⟩;rw[znC,← List.append_assoc,HLL.out];refine⟨(H1.out.same.alloc _).trans h2.out.1,?_,?_⟩
     ·rw[List.length_append,zka,zpl];exact h2.out.2
     ·rw[List.length_append];have:=H1.out.len;simp;omega
    case measure=>simp only[intOf];omega
end Go.Proofs.YtmcclbiaoeilkaaGreat
end
