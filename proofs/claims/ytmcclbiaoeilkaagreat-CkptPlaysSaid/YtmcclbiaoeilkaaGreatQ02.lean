import Derived.Maps.Own
import Derived.Maps.OwnSet
import Derived.Test.YtmcclbiaoeilkaaGreatQ01
/- Part 2 of a proof;the last part says what is proved. -/
namespace Go.Sl
open Go Go.RowKit Go.ChangeMaps
abbrev KV:=List (Int×Value)
def lk:KV→Int→Option Value
 | [],_=>none
 | (a,v)::r,k=>if k=a then some v else lk r k
def upd:KV→Int→Value→KV
 | [],k,v=>[(k,v)]
 | (a,x)::r,k,v=>if k=a then (a,v)::r else (a,x)::upd r k v
def del:KV→Int→KV
 | [],_=>[]
 | (a,x)::r,k=>if k=a then r else (a,x)::del r k
def zgg:KV→Int→Nat→Option (Nat×Value)
 | [],_,_=>none
 | (a,v)::r,k,i=>if k=a then some (i,v) else zgg r k (i+1)
theorem zmY (l:KV)(k:Int):∀ i,(zgg l k i).map (·.2)=lk l k:=by
 induction l with
 | nil=>intro i;rfl
 | cons p r ih=>obtain⟨a,v⟩:=p;intro i;unfold zgg lk;split <;> simp[ih]
theorem zgL (l:KV)(k:Int):∀ i j v,zgg l k i=some (j,v)→i≤j∧j<i+l.length:=by
 induction l with
 | nil=>intro i j v h;simp[zgg] at h
 | cons p r ih =>
  obtain⟨a,x⟩:=p;intro i j v h;unfold zgg at h;split at h
  ·simp at h;simp;omega
  ·have:=ih _ _ _ h;simp;omega
theorem znj (l:KV)(k:Int)(v:Value)(k':Int):lk (upd l k v) k'=if k'=k then some v else lk l k':=by
 induction l with
 | nil=>simp[upd,lk]
 | cons p r ih =>
  obtain⟨a,x⟩:=p;unfold upd
  by_cases h:k=a
  ·subst h;simp only[if_true,lk]
   by_cases h':k'=k <;> simp[h']
  ·simp only[h,if_false,lk,ih]
   by_cases h':k'=a
   ·subst h';simp[Ne.symm h]
   ·simp[h']
theorem zo0 (l:KV)(k:Int)(v:Value):(upd l k v).map (·.1)=if k ∈ l.map (·.1) then l.map (·.1) else l.map (·.1)++[k]:=by
 induction l with
 | nil=>simp[upd]
 | cons p r ih =>
  obtain⟨a,x⟩:=p;unfold upd
  by_cases h:k=a
  ·subst h;simp
  ·simp only[h,if_false,List.map_cons,ih,List.mem_cons,false_or]
   by_cases h':k ∈ r.map (·.1) <;> simp only[h',if_true,if_false,List.cons_append]
theorem zjb {l:KV}(h:(l.map (·.1)).Nodup)(k:Int)(v:Value):((upd l k v).map (·.1)).Nodup:=by
 rw[zo0];split
 ·exact h
 ·rename_i hk
  rw[List.nodup_append];refine⟨h,by simp,?_⟩;intro a ha b hb;simp at hb;subst hb;rintro rfl;exact hk ha
theorem zi8 {l:KV}{k a:Int}(h:a ∈ (del l k).map (·.1)):a ∈ l.map (·.1):=by
 induction l with
 | nil=>simp[del] at h
 | cons p r ih =>
  obtain⟨b,x⟩:=p;unfold del at h;split at h
  ·simp only[List.map_cons,List.mem_cons];exact .inr h
  ·simp only[List.map_cons,List.mem_cons] at h ⊢
   rcases h with h|h
   ·exact .inl h
   ·exact .inr (ih h)
theorem znq {l:KV}(h:(l.map (·.1)).Nodup)(k:Int):((del l k).map (·.1)).Nodup:=by
 induction l with
 | nil=>simp[del]
 | cons p r ih =>
  obtain⟨b,x⟩:=p;simp only[List.map_cons,List.nodup_cons] at h;unfold del;split
  ·exact h.2
  ·simp only[List.map_cons,List.nodup_cons]
   exact⟨fun hm=>h.1 (zi8 hm),ih h.2⟩
theorem zdA {l:KV}{k:Int}(h:k ∉ l.map (·.1)):lk l k=none:=by
 induction l with
 | nil=>rfl
 | cons p r ih =>
  obtain⟨b,x⟩:=p;simp only[List.map_cons,List.mem_cons,not_or] at h;unfold lk;rw[if_neg h.1];exact ih h.2
theorem zi9 {l:KV}{k:Int}{v:Value}(h:lk l k=some v):k ∈ l.map (·.1):=by
 by_cases hk:k ∈ l.map (·.1)
 ·exact hk
 ·rw[zdA hk] at h;cases h
theorem zni {l:KV}{k:Int}(h:k ∈ l.map (·.1)):∃ v,lk l k=some v:=by
 induction l with
 | nil=>simp at h
 | cons p r ih =>
  obtain⟨b,x⟩:=p;unfold lk
  by_cases hb:k=b
  ·exact⟨x,by rw[if_pos hb]⟩
  ·rw[if_neg hb]
   simp only[List.map_cons,List.mem_cons,hb,false_or] at h;exact ih h
theorem zpW {l:KV}(h:(l.map (·.1)).Nodup)(k k':Int):lk (del l k) k'=if k'=k then none else lk l k':=by
 induction l with
 | nil=>simp[del,lk]
 | cons p r ih =>
  obtain⟨a,x⟩:=p;simp only[List.map_cons,List.nodup_cons] at h;unfold del
  by_cases hk:k=a
  ·subst hk
   simp only[if_true,lk]
   by_cases h':k'=k
   ·subst h';simp[zdA h.1]
   ·simp[h']
  ·simp only[hk,if_false,lk,ih h.2]
   by_cases h':k'=a
   ·subst h';simp[Ne.symm hk]
   ·simp[h']
structure MapL (es:Array MapEntry)(clock:Nat)(l:KV):Prop where
 ent:es.toList.map (fun e=>(e.key,e.val))=l.map fun p=>(Value.int .i64 p.1,p.2)
 nodup:(l.map (·.1)).Nodup
 born:(es.toList.map (·.born)).Nodup
 clock:∀ e ∈ es.toList,e.born<clock
theorem MapL.empty (clock:Nat):MapL #[] clock []:=⟨rfl,by simp,by simp,by simp⟩
theorem MapL.size {es:Array MapEntry}{clock:Nat}{l:KV}(h:MapL es clock l):es.size=l.length:=by
 have:=congrArg List.length h.ent;simpa using this
theorem zjZ (q:IntKind)(k:Int):∀ (es:List MapEntry) (l:KV) (i:Nat),es.map (fun e=>(e.key,e.val))=l.map (fun p=>(Value.int .i64 p.1,p.2)) →
  Instr.findNow (.int q) (.int .i64 k) es i=some (zgg l k i):=by
 intro es
 induction es with
 | nil=>intro l i h;cases l with
  | nil=>rfl
  | cons p r=>simp at h
 | cons e r ih =>
  intro l i h
  cases l with
  | nil=>simp at h
  | cons p t =>
   obtain⟨a,v⟩:=p;simp only[List.map_cons,List.cons.injEq,Prod.mk.injEq] at h;obtain⟨⟨hk,hv⟩,ht⟩:=h;unfold Instr.findNow zgg;rw[hk,hv];simp only[Instr.sameNow,if_true]
   by_cases hka:k=a
   ·subst hka;simp
   ·have:(k==a)=false:=by simp[hka]
    rw[this];simp only[hka,if_false];exact ih t (i+1) ht
section
variable {P:Program} {w:World} {r clock:Nat} {es:Array MapEntry} {l:KV}
theorem zb1 {K:TypeId}{q:IntKind}(hK:P.underlying K=some (.int q))(b:Bool)(x:Value)(w:World):
  (Instr.checkKey b 10000 K x).run P w = .ok () w:=by
 rw[show (10000:Nat)=9999+1 from rfl];unfold Instr.checkKey;simp only[Sem.run_bind,run_underlying hK,Result.andThen_ok]
 rfl
theorem zcd {K:TypeId}{q:IntKind}(hK:P.underlying K=some (.int q))(hl:MapL es clock l)(k:Int)(w:World):
  (Instr.findKey K (.int .i64 k) es.toList).run P w = .ok (zgg l k 0) w:=by
 simp[Instr.findKey,run_underlying hK,zjZ q k es.toList l 0 hl.ent]
theorem zeh {T K E:TypeId}{q:IntKind}(hT:P.underlying T=some (.map K E))(hK:P.underlying K=some (.int q)){z:Value}(hz:(zeroValue E).run P w = .ok z w)
  (hb:w.heap[r]?=some (.map es clock)) (hl:MapL es clock l) (k:Int):
  (Instr.lookup T (.map (some r)) (.int .i64 k) true).run P w = .ok (.tuple #[(lk l k).getD z,.bool (lk l k).isSome]) w:=by
 have hlk:=zmY l k 0;simp only[Instr.lookup,Sem.run_bind,run_underlying hT,Result.andThen_ok,MapKept.run_getObj_map hb,Sem.run_pure,zb1 hK,zcd hK hl]
 cases hf:zgg l k 0 with
 | none =>
  rw[hf] at hlk;simp only[Option.map_none] at hlk;simp[← hlk,hz]
 | some p =>
  rw[hf] at hlk;simp only[Option.map_some] at hlk;simp[← hlk]
theorem zdb {T K E:TypeId}{q:IntKind}(hT:P.underlying T=some (.map K E))(hK:P.underlying K=some (.int q)){z:Value}(hz:(zeroValue E).run P w = .ok z w)
  (hb:w.heap[r]?=some (.map es clock)) (hl:MapL es clock l) (k:Int):
  (Instr.lookup T (.map (some r)) (.int .i64 k) false).run P w = .ok ((lk l k).getD z) w:=by
 have hlk:=zmY l k 0;simp only[Instr.lookup,Sem.run_bind,run_underlying hT,Result.andThen_ok,MapKept.run_getObj_map hb,Sem.run_pure,zb1 hK,zcd hK hl]
 cases hf:zgg l k 0 with
 | none =>
  rw[hf] at hlk;simp only[Option.map_none] at hlk;simp[← hlk,hz]
 | some p =>
  rw[hf] at hlk;simp only[Option.map_some] at hlk;simp[← hlk]
theorem zoS {es:List MapEntry}{f:MapEntry→MapEntry}{k:Int}{v:Value}:∀ {l:KV} {i j:Nat} {x:Value},es.map (fun e=>(e.key,e.val))=l.map (fun p=>(Value.int .i64 p.1,p.2)) →
  zgg l k i=some (i+j,x)→(∀ e,(f e).key = .int .i64 k∧(f e).val=v)→(es.modify j f).map (fun e=>(e.key,e.val))=(upd l k v).map (fun p=>(Value.int .i64 p.1,p.2)):=by
 induction es with
 | nil=>intro l i j x h hf hp;cases l with
  | nil=>simp[zgg] at hf
  | cons p t=>simp at h
 | cons e r ih =>
  intro l i j x h hf hp
  cases l with
  | nil=>simp at h
  | cons p t =>
   obtain⟨a,y⟩:=p;simp only[List.map_cons,List.cons.injEq,Prod.mk.injEq] at h;unfold zgg at hf;unfold upd
   by_cases hka:k=a
   ·subst hka
    simp only[if_true,Option.some.injEq,Prod.mk.injEq] at hf
    obtain rfl:j=0:=by omega
    simp only[if_true,List.modify_zero_cons,List.map_cons,h.2,(hp e).1,(hp e).2]
   ·simp only[hka,if_false] at hf ⊢
    have hge:=zgL _ _ _ _ _ hf;obtain⟨j',rfl⟩:∃ j',j=j'+1:=⟨j - 1,by omega⟩;simp only[List.modify_succ_cons,List.map_cons,h.1];rw[ih (i:=i+1) (j:=j') (x:=x) h.2 (by rw[hf];congr 2;omega) hp]
theorem zic {l:KV}{k:Int}{v:Value}:∀ {i:Nat},zgg l k i=none→upd l k v=l++[(k,v)]:=by
 induction l with
 | nil=>intro i _;rfl
 | cons p t ih =>
  obtain⟨a,y⟩:=p;intro i h;unfold zgg at h;unfold upd
  by_cases hka:k=a
  ·simp[hka] at h
  ·simp only[hka,if_false] at h ⊢
   rw[ih h];rfl
theorem zoR {es:List MapEntry}{k:Int}:∀ {l:KV} {i j:Nat} {x:Value},es.map (fun e=>(e.key,e.val))=l.map (fun p=>(Value.int .i64 p.1,p.2)) →
  zgg l k i=some (i+j,x)→(es.eraseIdx j).map (fun e=>(e.key,e.val))=(del l k).map (fun p=>(Value.int .i64 p.1,p.2)):=by
 induction es with
 | nil=>intro l i j x h hf;cases l with
  | nil=>simp[zgg] at hf
  | cons p t=>simp at h
 | cons e r ih =>
  intro l i j x h hf
  cases l with
  | nil=>simp at h
  | cons p t =>
   obtain⟨a,y⟩:=p;simp only[List.map_cons,List.cons.injEq,Prod.mk.injEq] at h;unfold zgg at hf;unfold del
   by_cases hka:k=a
   ·subst hka
    simp only[if_true,Option.some.injEq,Prod.mk.injEq] at hf
    obtain rfl:j=0:=by omega
    simp only[if_true,List.eraseIdx_zero,List.tail_cons,h.2]
   ·simp only[hka,if_false] at hf ⊢
    have hge:=zgL _ _ _ _ _ hf;obtain⟨j',rfl⟩:∃ j',j=j'+1:=⟨j - 1,by omega⟩;simp only[List.eraseIdx_cons_succ,List.map_cons,h.1];rw[ih (i:=i+1) (j:=j') (x:=x) h.2 (by rw[hf];congr 2;omega)]
theorem zib {l:KV}{k:Int}:∀ {i:Nat},zgg l k i=none→del l k=l:=by
 induction l with
 | nil=>intro i _;rfl
 | cons p t ih =>
  obtain⟨a,y⟩:=p;intro i h;unfold zgg at h;unfold del
  by_cases hka:k=a
  ·simp[hka] at h
  ·simp only[hka,if_false] at h ⊢
   rw[ih h]
theorem zbt {T K E : TypeId} {q : IntKind} (hT : P.underlying T = some (.map K E)) (hK : P.underlying K = some (.int q))
    (hb : w.heap[r]? = some (.map es clock)) (hl : MapL es clock l) (k : Int) (v : Value) :
    ∃ es' clock', (Instr.mapUpdate T (.map (some r)) (.int .i64 k) v).run P w = .ok () (setBlock w r (.map es' clock')) ∧ MapL es' clock' (upd l k v) := by
  simp only [Instr.mapUpdate, Sem.run_bind, run_underlying hT, Result.andThen_ok, MapKept.run_getObj_map hb, zb1 hK, zcd hK hl]
  cases hf : zgg l k 0 with
  | none =>
    refine ⟨es.push { key := .int .i64 k, val := v, born := clock }, clock + 1, by simp [MapKept.run_setObj_map _ hb, setBlock], ?_⟩
    refine ⟨?_, zjb hl.nodup k v, ?_, ?_⟩
    · rw [zic hf]; simp [hl.ent]
    · simp only [Array.toList_push, List.map_append, List.map_cons, List.map_nil]
      rw [List.nodup_append]
      refine ⟨hl.born, by simp, ?_⟩
      intro a ha b hb
      simp at hb; subst hb
      obtain ⟨e, he, rfl⟩ := List.mem_map.1 ha
      have := hl.clock e he; omega
    · intro e he
      simp only [Array.toList_push, List.mem_append, List.mem_singleton] at he
      rcases he with he | rfl
      · have := hl.clock e he; omega
      · simp
  | some p =>
    obtain ⟨i, x⟩ := p
    have hi := zgL _ _ _ _ _ hf
    have hlen := hl.size
    have hilt : i < es.size := by omega
    have hkey : (es[i]?).map (·.key) = some (.int .i64 k) := by
      have h1 : (es.toList.map (fun e => (e.key, e.val)))[i]? = (l.map fun p => (Value.int .i64 p.1, p.2))[i]? := by rw [hl.ent]
      have h2 : l[i]? = some (k, x) := by
        have key : ∀ (l : KV) (i j : Nat), zgg l k i = some (i + j, x) → l[j]? = some (k, x) := by
          intro l
          induction l with
          | nil => intro i j h; simp [zgg] at h
          | cons p t ih =>
            obtain ⟨a, y⟩ := p
            intro i j h
            unfold zgg at h
            by_cases hka : k = a
            · subst hka
              simp only [if_true, Option.some.injEq, Prod.mk.injEq] at h
              obtain rfl : j = 0 := by omega
              obtain rfl := h.2; rfl
            · simp only [hka, if_false] at h
              have hge := zgL _ _ _ _ _ h
              obtain ⟨j', rfl⟩ : ∃ j', j = j' + 1 := ⟨j - 1, by omega⟩
              simpa using ih (i + 1) j' (by rw [h]; congr 2; omega)
        exact key l 0 i (by simpa using hf)
      simp only [List.getElem?_map, h2, Option.map_some, Array.getElem?_toList] at h1
      cases he : es[i]? with
      | none => simp [he] at h1
      | some e => simp [he] at h1; simp [h1.1]
    have hstay : ∀ w : World, (Instr.keyThatStays (.int .i64 k) (.int .i64 k)).run P w = .ok (.int .i64 k) w := by
      intro w; simp [Instr.keyThatStays, Instr.sameBits]
    refine ⟨es.modify i fun e => { e with key := .int .i64 k, val := v }, clock, ?_, ?_⟩
    · simp only [hkey, Option.getD_some, Sem.run_bind, hstay, Result.andThen_ok, MapKept.run_setObj_map _ hb]; rfl
    · refine ⟨?_, zjb hl.nodup k v, ?_, ?_⟩
      · rw [Array.toList_modify]
        exact zoS (i := 0) (j := i) (x := x) hl.ent (by simpa using hf) (fun e => ⟨rfl, rfl⟩)
      · rw [Array.toList_modify]
        have : ∀ (es : List MapEntry) i, (es.modify i fun e => { e with key := .int .i64 k, val := v }).map (·.born) = es.map (·.born) := by
          intro es
          induction es with
          | nil => intro i; simp
          | cons e r ih => intro i; cases i <;> simp [ih]
        rw [this]; exact hl.born
      · intro e he
        rw [Array.toList_modify] at he
        have : ∀ (es : List MapEntry) i, e ∈ (es.modify i fun e => { e with key := .int .i64 k, val := v }) → ∃ e' ∈ es, e'.born = e.born := by
          intro es
          induction es with
          | nil => intro i h; simp at h
          | cons e0 r ih =>
            intro i h
            cases i with
            | zero => simp at h; rcases h with rfl | h
                      · exact ⟨e0, by simp, rfl⟩
                      · exact ⟨e, by simp [h], rfl⟩
            | succ i =>
              simp at h
              rcases h with rfl | h
              · exact ⟨e, by simp, rfl⟩
              · obtain ⟨e', h1, h2⟩ := ih i h; exact ⟨e', by simp [h1], h2⟩
        obtain ⟨e', h1, h2⟩ := this _ _ he
        have := hl.clock e' h1; omega
theorem zeg {T K E:TypeId}{q:IntKind}(hT:P.underlying T=some (.map K E))(hK:P.underlying K=some (.int q))
  (hb:w.heap[r]?=some (.map es clock)) (hl:MapL es clock l) (k:Int):
  ∃ es' clock',(∀ ty,(Builtin.delete_ #[T,K] ty #[.map (some r),k]).run P w = .ok (.tuple #[]) (setBlock w r (.map es' clock')))∧MapL es' clock' (del l k):=by
 cases hf:zgg l k 0 with
 | none =>
  refine⟨es,clock,?_,?_⟩
  ·intro ty;simp[Builtin.delete_,run_underlying hT,MapKept.run_getObj_map hb,zb1 hK,zcd hK hl,hf,MapKept.run_setObj_map _ hb,setBlock]
  ·rw[zib hf];exact hl
 | some p =>
  obtain⟨i,x⟩:=p;have hi:=zgL _ _ _ _ _ hf;have hlen:=hl.size;refine⟨es.eraseIdxIfInBounds i,clock,?_,?_⟩
  ·intro ty;simp[Builtin.delete_,run_underlying hT,MapKept.run_getObj_map hb,zb1 hK,zcd hK hl,hf,MapKept.run_setObj_map _ hb,setBlock]
  ·have he:(es.eraseIdxIfInBounds i).toList=es.toList.eraseIdx i:=by
    rw[Array.eraseIdxIfInBounds];rw[dif_pos (by omega)];simp
   refine⟨?_,znq hl.nodup k,?_,?_⟩
   ·rw[he];exact zoR (i:=0) (j:=i) (x:=x) hl.ent (by simpa using hf)
   ·rw[he]
    exact ((List.eraseIdx_sublist es.toList i).map _).nodup hl.born
   ·intro e h;rw[he] at h;exact hl.clock e ((List.eraseIdx_sublist es.toList i).mem h)
theorem zeE {T K E:TypeId}(hT:P.underlying T=some (.map K E))(hb:w.heap[r]?=some (.map es clock)):
  ∀ ty,(Builtin.clear_ #[T] ty #[.map (some r)]).run P w = .ok (.tuple #[]) (setBlock w r (.map #[] clock)):=by
 intro ty;simp[Builtin.clear_,run_underlying hT,MapKept.run_getObj_map hb,MapKept.run_setObj_map _ hb,setBlock]
end
section
variable {w:World} {r clock:Nat} {es:Array MapEntry}
theorem cell?_setMap (hb:w.heap[r]?=some (.map es clock))(es':Array MapEntry)(clock':Nat)(a:Addr):(setBlock w r (.map es' clock')).cell? a=w.cell? a:=by
 by_cases h:a.block=r
 ·have h1:=heap_setBlock_same hb (.map es' clock')
  simp[World.cell?,h,h1,hb]
 ·simp[World.cell?,heap_setBlock_other hb (.map es' clock') h]
theorem frozen?_setMap (hb:w.heap[r]?=some (.map es clock))(es':Array MapEntry)(clock':Nat)(a:Addr):(setBlock w r (.map es' clock')).frozen? a=w.frozen? a:=frozen?_setBlock hb a
theorem ziy (o:Obj):(setBlock w r o).heap.size=w.heap.size:=by simp[setBlock]
theorem Sat.setBlock {F:zsi}{o o':Obj}(h:Sat w (pts r o*F)):Sat (setBlock w r o') (pts r o'*F):=h.putObj
theorem Same.setBlock {w0:World}(h:Same w0 w)(o:Obj):Same w0 (setBlock w r o):=h.putObj r o
end
end Go.Sl
namespace Go.Sl
open Go Go.RowKit Go.ChangeMaps
section
variable {P:Program} {w:World} {r m clock:Nat} {es:Array MapEntry} {l:KV} {seen:Array Nat}
theorem zeG {T K E:TypeId}(hT:P.underlying T=some (.map K E))(hm:w.heap[m]?=some (.map es clock)):
  (Instr.range T (.map (some m))).run P w = .ok (.pointer (some ⟨w.heap.size,0,none⟩)) (w.alloc (.mapIter (some m) clock #[] clock)):=by
 simp[Instr.range,run_underlying hT,MapKept.run_getObj_map hm]
theorem zeF {c:Nat}(hr:w.heap[r]?=some (.mapIter (some m) clock seen c)):(getObj r).run P w = .ok (.mapIter (some m) clock seen c) w:=by simp[getObj,Sem.run,hr]
theorem zhd {c:Nat}(o:Obj)(hr:w.heap[r]?=some (.mapIter (some m) clock seen c)):(setObj r o).run P w = .ok () (setBlock w r o):=by simp[setObj,Sem.run,hr,setBlock]
theorem zfs (hr:w.heap[r]?=some (.mapIter (some m) clock seen clock))(hm:w.heap[m]?=some (.map es clock))(hM:MapL es clock l):
  ((∀ e ∈ es.toList,e.born ∈ seen.toList)∧∃ w',(∀ T,(Instr.next (.pointer (some ⟨r,0,none⟩)) false T).run P w = .ok (.tuple #[.bool false]) w')∧(w'=w∨w'=w.drew)) ∨
  (∃ e ∈ es.toList,e.born ∉ seen.toList∧∃ w0,(w0=w∨w0=w.drew)∧
   ∀ T,(Instr.next (.pointer (some ⟨r,0,none⟩)) false T).run P w = .ok (.tuple #[.bool true,e.key,e.val]) (setBlock w0 r (.mapIter (some m) clock (seen.push e.born) clock))):=by
 have hbad:(!seen.isEmpty && !es.isEmpty&&es.all (·.born ≥ clock))=false:=by
  by_cases he:es.isEmpty=true
  ·simp[he]
  ·have hne:es.toList≠[]:=by intro h;apply he;simp at h;simp[h]
   obtain⟨e,t,het⟩:=List.exists_cons_of_ne_nil hne
   have hall:es.all (·.born ≥ clock)=false:=by
    rw[← Array.all_toList,het];have:=hM.clock e (by rw[het];simp);simp;omega
   simp[hall]
 have hnew:(es.filter fun e => !seen.contains e.born).filter (·.born ≥ clock)=#[]:=by
  apply Array.eq_empty_of_size_eq_zero;rw[← Array.length_toList,List.length_eq_zero_iff];rw[Array.toList_filter,List.filter_eq_nil_iff];intro e he;rw[Array.toList_filter,List.mem_filter] at he;have:=hM.clock e he.1;simp;omega
 have hold:(es.filter fun e => !seen.contains e.born).filter (·.born<clock)=es.filter fun e => !seen.contains e.born:=by
  apply Array.ext';rw[Array.toList_filter,List.filter_eq_self];intro e he;rw[Array.toList_filter,List.mem_filter] at he;have:=hM.clock e he.1;simpa using this
 obtain⟨left,hleft⟩:∃ left:Array MapEntry,(es.filter fun e => !seen.contains e.born)=left:=⟨_,rfl⟩;rw[hleft] at hold hnew
 have hstart:∀ T,(Instr.next (.pointer (some ⟨r,0,none⟩)) false T).run P w=
   ((choose (.mapNext ((if left.isEmpty then #[none] else #[])++(left++#[]).map some).size)).run P w).andThen fun c w' =>
    (match ((if left.isEmpty then #[none] else #[])++(left++#[]).map some)[c]? with
     | some (some e)=>(do setObj r (.mapIter (some m) clock (seen.push e.born) clock);pure (.tuple #[.bool true,e.key,e.val]):Sem Value)
     | some none=>pure (.tuple #[.bool false])
     | none => stuck "Next: no such candidate").run P w' := by
  intro T;simp only[Instr.next,Sem.run_bind,zeF hr,Result.andThen_ok,MapKept.run_getObj_map hm,hbad,Bool.false_eq_true,if_false,hleft,hold,hnew]
  rfl
 have hchoose:∀ n,∃ c w',(choose (.mapNext n)).run P w = .ok c w'∧(w'=w∨w'=w.drew)∧(0<n→c<n)∧(n=0→c=0):=by
  intro n
  by_cases hn:n≤1
  ·refine⟨0,w,by simp[choose,Sem.run,Question.forced,hn],.inl rfl,fun h=>h,fun _=>rfl⟩
  ·refine⟨_,w.drew,by simp[choose,Sem.run,Question.forced,hn,Question.cut];rfl,.inr rfl,fun _=>Nat.mod_lt _ (by omega),fun h=>by omega⟩
 by_cases hl:left.isEmpty=true
 ·left
  have hle:left=#[]:=by simpa using hl
  subst hle;refine⟨?_,?_⟩
  ·intro e he
   have h1:=congrArg Array.toList hleft;rw[Array.toList_filter] at h1;simp only[List.filter_eq_nil_iff] at h1;have:=h1 e he;simpa using this
  ·obtain⟨c,w',hc,hw,hlt,_⟩:=hchoose 1
   have h1:=hlt (by omega)
   obtain rfl:c=0:=by omega
   refine⟨w',?_,hw⟩;intro T
   have e1:(((if (#[]:Array MapEntry).isEmpty then #[none] else #[])++((#[]:Array MapEntry)++#[]).map some):Array (Option MapEntry))=#[none]:=by simp
   rw[hstart T,e1];show ((choose (.mapNext 1)).run P w).andThen _=_;rw[hc]
   rfl
 ·right
  have hpos:0<left.size:=by
   rcases Nat.eq_zero_or_pos left.size with h|h
   ·exact absurd (by simpa using h) hl
   ·exact h
  obtain⟨c,w',hc,hw,hlt,_⟩:=hchoose left.size;have hcl:=hlt hpos
  have hsub:∀ x ∈ left.toList,x ∈ es.toList∧x.born ∉ seen.toList:=by
   rw[← hleft];intro x hx;rw[Array.toList_filter,List.mem_filter] at hx;exact⟨hx.1,by simpa using hx.2⟩
  have hmem:=hsub left[c] (by simp)
  have hr':w'.heap[r]?=some (.mapIter (some m) clock seen clock):=by rcases hw with rfl|rfl <;> exact hr
  refine⟨left[c],hmem.1,hmem.2,w',hw,?_⟩;intro T;rw[hstart T]
  have hfl:left.isEmpty=false:=by simpa using hl
  simp only[hfl,Bool.false_eq_true,if_false,Array.append_empty,Array.empty_append,Array.size_map,hc,Result.andThen_ok,Array.getElem?_map,Array.getElem?_eq_getElem hcl,Option.map_some];simp[zhd _ hr']
theorem zgk (hr:w.heap[r]?=some (.mapIter (some m) clock seen clock))(hm:w.heap[m]?=some (.map es clock))(hM:MapL es clock l){e:MapEntry}(he:e ∈ es.toList)(hs:seen.back?=some e.born):
  (Instr.entry (.pointer (some ⟨r,0,none⟩))).run P w = .ok (.tuple #[e.key,e.val]) w:=by
 have hf:es.find? (fun x=>x.born==e.born)=some e:=by
  rw[← Array.find?_toList]
  have key:∀ (L:List MapEntry),(L.map (·.born)).Nodup→e ∈ L→L.find? (fun x=>x.born==e.born)=some e:=by
   intro L
   induction L with
   | nil=>intro _ h;simp at h
   | cons a t ih =>
    intro hn hin;simp only[List.map_cons,List.nodup_cons] at hn;rw[List.find?_cons]
    by_cases hab:a.born=e.born
    ·simp only[hab,beq_self_eq_true]
     rcases List.mem_cons.1 hin with rfl|h
     ·rfl
     ·exact absurd (hab ▸ List.mem_map_of_mem h) hn.1
    ·have:(a.born==e.born)=false:=by simp[hab]
     rw[this];rcases List.mem_cons.1 hin with rfl|h
     ·exact absurd rfl hab
     ·exact ih hn.2 h
  exact key _ hM.born he
 simp[Instr.entry,zeF hr,MapKept.run_getObj_map hm,hs,hf]
end
end Go.Sl
