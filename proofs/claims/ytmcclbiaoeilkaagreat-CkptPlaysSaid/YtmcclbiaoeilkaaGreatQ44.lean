import Derived.Test.YtmcclbiaoeilkaaGreatQ41
import Derived.Test.YtmcclbiaoeilkaaGreatQ43
/- Part 44 of a proof;the last part says what is proved. -/
namespace Go.Proofs.YtmcclbiaoeilkaaGreat
open Go.Proofs.Tryz Go.RowKit Go.Sl Go.ChangeMaps
theorem zh1 (S:zsg)(d e:Int)(f:zsh→zsh):(S.step d f).1.state e=S.state e:=by
 unfold zsg.step;split
 ·rfl
 split
 ·rfl
 rename_i h1
 have h2:S.state d=1:=by
  by_cases h:S.state d=1
  ·exact h
  ·exact absurd h h1
 have hb:0≤d∧d<(S.bays.length:Int):=by
  unfold zsg.state at h2
  cases hb:S.bay d with
  | none=>rw[hb] at h2;cases h2
  | some b =>
   obtain⟨h3,h4⟩:=zsg.bay_some.1 hb;have:=(List.getElem?_eq_some_iff.1 h4).1;exact⟨h3,by omega⟩
 split
 ·split
  ·rfl
  ·exact zsg.setDisk_state (S:={ S with left:=S.left - 1 }) hb.1 hb.2
 ·exact zsg.setDisk_state hb.1 hb.2
theorem zpQ (S:zsg)(a:zsj)(s:List UInt8)(e:Int):(S.write a s).1.state e=S.state e:=by
 unfold zsg.write;split
 ·rfl
 ·exact zh1 _ _ _ _
theorem zoU (S:zsg)(d e:Int):(S.flush d).1.state e=S.state e:=by
 unfold zsg.flush;split
 ·rfl
 ·exact zh1 _ _ _ _
theorem zll (d area:Int)(c:CkM)(S:zsg)(e:Int):∀ k,(wrA d area c S k).1.state e=S.state e
 | 0=>rfl
 | k+1=>by
  show (if _ then _ else _:zsg×Int).1.state e=_;split
  ·exact zll d area c S e k
  ·rw[zpQ];exact zll d area c S e k
theorem zht (S:zsg)(d area:Int)(c:CkM)(e:Int):(zbH S d area c).1.state e=S.state e:=by
 rw[ze8];split
 ·exact zll d area c S e _
 ·rw[zoU];exact zll d area c S e _
theorem zlu {S:zsg}{d area:Int}(h:S.state d≠1){c:CkM}:zaS S d area≠(c,0):=by
 unfold zaS;split
 ·intro h2;injection h2 with _ h2;cases h2
 ·rename_i h1
  have ha:S.access d≠0:=by
   unfold zsg.access;split
   ·decide
   ·first|decide|(rw[if_neg h];decide)
  rw[if_pos ha];intro h2
  injection h2 with _ h2
  exact ha h2
def zbK (st:Nat→Bool)(ar:List Int)(k:Nat):List (Nat×Int):=((List.range k).filter st).map fun j=>(j,ar.getD j 0)
theorem zji {st:Nat→Bool}{ar br:List Int}{k:Nat}(h:∀ j,j<k→ar.getD j 0=br.getD j 0):zbK st ar k=zbK st br k:=by
 unfold zbK
 refine List.map_congr_left fun j hj=>?_
 rw[h j (List.mem_range.1 (List.mem_filter.1 hj).1)]
theorem zfq {st:Nat→Bool}{ar:List Int}{k:Nat}(hl:ar.length=k)(a:Int):zbK st (ar++[a]) (k+1)=if st k=true then zbK st ar k++[(k,a)] else zbK st ar k:=by
 have h0:zbK st (ar++[a]) k=zbK st ar k:=zji fun j hj=>by
  rw[List.getD_eq_getElem?_getD,List.getD_eq_getElem?_getD,List.getElem?_append_left (by omega)]
 have h1:(ar++[a]).getD k 0=a:=by
  rw[List.getD_eq_getElem?_getD,List.getElem?_append_right (by omega),hl,Nat.sub_self];rfl
 unfold zbK at h0 ⊢;rw[List.range_succ,List.filter_append,List.map_append,h0]
 by_cases h:st k=true
 ·rw[if_pos h,List.filter_cons,if_pos h]
  show _++[(k,(ar++[a]).getD k 0)]=_;rw[h1]
 ·rw[if_neg h,List.filter_cons,if_neg h]
  simp
def zkD (S:zsg)(c:CkM)(ar:List Int)(k:Nat):Nat:=((List.range k).filter fun j:Nat=>decide (zaS S (j:Int) (ar.getD j 0)=(c,0))).length
theorem zmK (S:zsg)(c:CkM)(ar:List Int)(k:Nat):zkD S c ar (k+1)=zkD S c ar k+if zaS S (k:Int) (ar.getD k 0)=(c,0) then 1 else 0:=by
 unfold zkD;rw[List.range_succ,List.filter_append,List.length_append];congr 1
 by_cases h:zaS S (k:Int) (ar.getD k 0)=(c,0)
 ·rw[if_pos h,List.filter_cons,if_pos (by simpa using h)];rfl
 ·rw[if_neg h,List.filter_cons,if_neg (by simpa using h)];rfl
theorem zmL {S:zsg}{c:CkM}{st:Nat→Bool}{ar:List Int}{k:Nat}(h:∀ j,st j=decide (S.state (j:Int)=1)):zen S c (zbK st ar k)=zkD S c ar k:=by
 unfold zen zbK zkD;rw[List.filter_map,List.length_map,List.filter_filter];congr 1
 refine List.filter_congr fun j _=>?_
 simp only[Function.comp_apply];rw[h j]
 by_cases hs:S.state (j:Int)=1
 ·rw[decide_eq_true hs,Bool.and_true]
 ·have:=zlu (c:=c) (area:=ar.getD j 0) hs
  rw[decide_eq_false this];rfl
end Go.Proofs.YtmcclbiaoeilkaaGreat
