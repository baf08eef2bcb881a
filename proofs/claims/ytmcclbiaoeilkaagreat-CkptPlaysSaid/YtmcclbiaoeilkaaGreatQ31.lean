import Derived.Laws.CopyRow
import Derived.Test.YtmcclbiaoeilkaaGreatQ24
set_option maxHeartbeats 4000000
set_option maxRecDepth 20000
/- Part 31 of a proof;the last part says what is proved. -/
section
namespace Go.Sl
open Go Go.RowKit
theorem zej (TB:TypeId):∀ (L:List SecV) (k:Nat),k<L.length→∃ R,∀ x,zbM TB (L.set k x)=zhD TB x*R
 | _::r,0,_=>⟨zbM TB r,fun _=>rfl⟩
 | x::r,k+1,h=>by
  obtain⟨R,hR⟩:=zej TB r k (by simpa using h);refine⟨zhD TB x*R,fun y=>?_⟩;show zhD TB x*zbM TB (r.set k y)=_;rw[hR];ac_rfl
theorem ziW {α:Type}(enc:α→List Value)(m:Nat)(hm:∀ x,(enc x).length=m):∀ (l:List α) (i:Nat) (x x':α),l[i]?=some x→∀ (j:Nat) (u:Value),j<m→enc x'=(enc x).set j u→(l.flatMap enc).set (i*m+j) u=(l.set i x').flatMap enc
 | [],i,x,_,h,_,_,_,_=>by simp at h
 | a::l,0,x,x',h,j,u,hj,he=>by
  simp only[List.getElem?_cons_zero,Option.some.injEq] at h;subst h;rw[List.flatMap_cons,Nat.zero_mul,Nat.zero_add,List.set_append_left _ _ (by rw[hm];exact hj),List.set_cons_zero,List.flatMap_cons,he]
 | a::l,i+1,x,x',h,j,u,hj,he=>by
  simp only[List.getElem?_cons_succ] at h
  have e:(i+1)*m+j=(enc a).length+(i*m+j):=by rw[hm,Nat.succ_mul];omega
  rw[List.flatMap_cons,e,List.set_append_right _ _ (Nat.le_add_right _ _),Nat.add_sub_cancel_left,ziW enc m hm l i x x' h j u hj he,List.set_cons_succ,List.flatMap_cons]
theorem znX {T:TypeId}{w:World}{g n cap:Nat}{L:List SecV}{F:zsi}(h:Sat w (zaf T 4 (.slice (some ⟨g,0,none⟩) n cap) L.length (L.flatMap zd2)*F)){k:Nat}{x:SecV}(hx:L[k]?=some x)(x':SecV)(j:Nat)(u:Value)(hj:j<4)(he:zd2 x'=(zd2 x).set j u):
  Sat (w.setCell ⟨g,k*4+j,none⟩ u) (zaf T 4 (.slice (some ⟨g,0,none⟩) n cap) (L.set k x').length ((L.set k x').flatMap zd2)*F):=by
 have hk:=(List.getElem?_eq_some_iff.1 hx).1;obtain⟨g',cap',cur,e,_,_,_,_,_⟩:=zaO h (by omega);have e2:=e;simp only[Value.slice.injEq] at e2;have h2:=zby h (by omega) (g:=g) (cap:=cap) (by rw[e2.2.1]) (j:=k*4+j) u;rw[ziW zd2 4 zla L k x x' hx j u hj he] at h2;rw[List.length_set];exact h2
theorem zmj {T:TypeId}{w:World}{g n cap:Nat}{L:List SecV}{F:zsi}(h:Sat w (zaf T 4 (.slice (some ⟨g,0,none⟩) n cap) L.length (L.flatMap zd2)*F))(hn:0<L.length)(j:Nat):w.frozen? ⟨g,j,none⟩=false:=by
 obtain⟨g',cap',cur,e,_,_,hf,_,_⟩:=zaO h hn;simp only[Value.slice.injEq,Option.some.injEq,Addr.mk.injEq] at e;rw[e.1.1];exact hf j
theorem zbS {α:Type}{L:List α}{k i:Nat}{x y:α}(h:(L.set k x)[i]?=some y):(i=k∧y=x)∨(i≠k∧L[i]?=some y):=by
 rw[List.getElem?_set] at h;split at h
 ·rename_i e
  split at h
  ·exact .inl ⟨e.symm,(Option.some.inj h).symm⟩
  ·cases h
 ·rename_i e;exact .inr ⟨fun h=>e h.symm,h⟩
def zp6 (o:Option Int):Int:=match o with
 | none => -2
 | some j=>j
def SecM.arm (x:SecM)(f:Int):SecM:={ x with fault:=f }
def SecM.put (x:SecM)(s:List UInt8):SecM:={ x with cac:=s,pend:=true }
def SecM.settle (x:SecM)(t:List UInt8):SecM:={ x with dur:=t,pend:=false }
theorem RefOf.arm {D:zsh}{L:List SecV}(h:RefOf D L){k:Nat}{x:SecV}(hx:L[k]?=some x)(o:Option Int):RefOf { D with armed:=za7 D.armed k o } (L.set k (x.1.arm (zp6 o),x.2)):=by
 refine⟨by rw[List.length_set];exact h.len,fun i y hy=>?_,fun i y hy=>?_,fun i y s hy hs=>?_,fun i y hy=>?_,fun i y hy=>?_⟩
 ·rcases zbS hy with ⟨rfl,rfl⟩|⟨_,h2⟩
  ·exact h.dur i x hx
  ·exact h.dur i y h2
 ·rcases zbS hy with ⟨rfl,rfl⟩|⟨_,h2⟩
  ·exact h.pend i x hx
  ·exact h.pend i y h2
 ·rcases zbS hy with ⟨rfl,rfl⟩|⟨_,h2⟩
  ·exact h.cac i x s hx hs
  ·exact h.cac i y s h2 hs
 ·rcases zbS hy with ⟨rfl,rfl⟩|⟨hne,h2⟩
  ·show zp6 o=(match za7 D.armed i o i with|none => -2|some j=>j)
   unfold za7;rw[if_pos rfl];rfl
  ·rw[h.fault i y h2]
   show (match D.armed i with|none => -2|some j=>j)=(match za7 D.armed k o i with|none => -2|some j=>j);unfold za7;rw[if_neg hne]
 ·rcases zbS hy with ⟨rfl,rfl⟩|⟨_,h2⟩
  ·exact h.clen i x hx
  ·exact h.clen i y h2
theorem RefOf.put {D:zsh}{L:List SecV}(h:RefOf D L){k:Nat}{x:SecV}(hx:L[k]?=some x)(s:List UInt8)(hl:s.length≤64)(v:Value):RefOf { D with cache:=za7 D.cache k (some s) } (L.set k (x.1.put s,x.2.1,v)):=by
 refine⟨by rw[List.length_set];exact h.len,fun i y hy=>?_,fun i y hy=>?_,fun i y t hy hs=>?_,fun i y hy=>?_,fun i y hy=>?_⟩
 ·rcases zbS hy with ⟨rfl,rfl⟩|⟨_,h2⟩
  ·exact h.dur i x hx
  ·exact h.dur i y h2
 ·rcases zbS hy with ⟨rfl,rfl⟩|⟨hne,h2⟩
  ·show true=(za7 D.cache i (some s) i).isSome
   unfold za7;rw[if_pos rfl];rfl
  ·rw[h.pend i y h2]
   show _=(za7 D.cache k (some s) i).isSome;unfold za7;rw[if_neg hne]
 ·rcases zbS hy with ⟨rfl,rfl⟩|⟨hne,h2⟩
  ·have hs':za7 D.cache i (some s) i=some t:=hs
   unfold za7 at hs';rw[if_pos rfl] at hs';exact Option.some.inj hs'
  ·have hs':za7 D.cache k (some s) i=some t:=hs
   unfold za7 at hs';rw[if_neg hne] at hs';exact h.cac i y t h2 hs'
 ·rcases zbS hy with ⟨rfl,rfl⟩|⟨_,h2⟩
  ·exact h.fault i x hx
  ·exact h.fault i y h2
 ·rcases zbS hy with ⟨rfl,rfl⟩|⟨_,h2⟩
  ·exact hl
  ·exact h.clen i y h2
theorem RefOf.settle {D:zsh}{L:List SecV}(h:RefOf D L){k:Nat}{x:SecV}(hx:L[k]?=some x)(t:List UInt8)(v:Value):RefOf { D with dur:=za7 D.dur k t,cache:=za7 D.cache k none } (L.set k (x.1.settle t,v,x.2.2)):=by
 refine⟨by rw[List.length_set];exact h.len,fun i y hy=>?_,fun i y hy=>?_,fun i y s hy hs=>?_,fun i y hy=>?_,fun i y hy=>?_⟩
 ·rcases zbS hy with ⟨rfl,rfl⟩|⟨hne,h2⟩
  ·show t=za7 D.dur i t i
   unfold za7;rw[if_pos rfl]
  ·rw[h.dur i y h2]
   show _=za7 D.dur k t i;unfold za7;rw[if_neg hne]
 ·rcases zbS hy with ⟨rfl,rfl⟩|⟨hne,h2⟩
  ·show false=(za7 D.cache i none i).isSome
   unfold za7;rw[if_pos rfl];rfl
  ·rw[h.pend i y h2]
   show _=(za7 D.cache k none i).isSome;unfold za7;rw[if_neg hne]
 ·rcases zbS hy with ⟨rfl,rfl⟩|⟨hne,h2⟩
  ·have hs':za7 D.cache i none i=some s:=hs
   unfold za7 at hs';rw[if_pos rfl] at hs';cases hs'
  ·have hs':za7 D.cache k none i=some s:=hs
   unfold za7 at hs';rw[if_neg hne] at hs';exact h.cac i y s h2 hs'
 ·rcases zbS hy with ⟨rfl,rfl⟩|⟨_,h2⟩
  ·exact h.fault i x hx
  ·exact h.fault i y h2
 ·rcases zbS hy with ⟨rfl,rfl⟩|⟨_,h2⟩
  ·exact h.clen i x hx
  ·exact h.clen i y h2
end Go.Sl
namespace Go.Proofs.YtmcclbiaoeilkaaGreat
open Go.Proofs.Tryz Go.RowKit Go.Sl Go.ChangeMaps
theorem zpt {D:zsh}{L:List SecV}(h:RefOf D L)(i:Int):D.has i=(decide (0≤i)&&decide (i<(L.length:Int))):=by unfold zsh.has;rw[h.len]
theorem zea {i:Int}{n:Nat}(h:0≤i∧i<(n:Int)):(decide (0≤i)&&decide (i<(n:Int)))=true:=by rw[decide_eq_true h.1,decide_eq_true h.2];rfl
theorem zfL {i:Int}{n:Nat}(h:¬ (0≤i∧i<(n:Int))):(decide (0≤i)&&decide (i<(n:Int)))=false:=by
 cases e:(decide (0≤i)&&decide (i<(n:Int)))
 ·rfl
 ·rw[Bool.and_eq_true,decide_eq_true_eq,decide_eq_true_eq] at e;exact absurd e h
def zcV (p g n cap:Nat)(L:List SecV)(F:zsi):zsi:=pts p (.cells #[.slice (some ⟨g,0,none⟩) n cap] TRk (0,0))*(zaf TRs 4 (.slice (some ⟨g,0,none⟩) n cap) L.length (L.flatMap zd2)*(zbM TU8 L*F))
theorem zdn {p g n cap:Nat}{L:List SecV}{F:zsi}{D:zsh}{w:World}(hwf:D.WF)(hr:RefOf D L)(h:Sat w (zcV p g n cap L F)):Sat w (zbF RT p D*F):=zbz.2 ⟨_,L,⟨hwf,hr⟩,h⟩
theorem zaW {p g n cap:Nat}{L:List SecV}{F:zsi}{w:World}(h:Sat w (zcV p g n cap L F)){k:Nat}{x:SecV}(hx:L[k]?=some x):
  w.cell? ⟨p,0,none⟩=some (.slice (some ⟨g,0,none⟩) n cap)∧w.cell? ⟨g,k*4,none⟩=some x.2.1∧w.cell? ⟨g,k*4+1,none⟩=some x.2.2∧w.cell? ⟨g,k*4+2,none⟩=some (.bool x.1.pend)∧w.cell? ⟨g,k*4+3,none⟩=some (.int .i64 x.1.fault)∧∀ j,w.frozen? ⟨g,j,none⟩=false:=by
 obtain⟨g',e,e0,e1,e2,e3⟩:=zco (Sat.right h) hx;simp only[Option.some.injEq,Addr.mk.injEq,and_true] at e;obtain rfl:=e;exact⟨zab (Sat.block h) 0,e0,e1,e2,e3,fun j=>zmj (Sat.right h) (by have:=(List.getElem?_eq_some_iff.1 hx).1;omega) j⟩
theorem zbR {p g n cap:Nat}{L:List SecV}{F:zsi}{w:World}(h:Sat w (zcV p g n cap L F)){k:Nat}{x:SecV}(hx:L[k]?=some x)(x':SecV)(j:Nat)(u:Value)(hj:j<4)(he:zd2 x'=(zd2 x).set j u){G:zsi}(hG:zhD TU8 x*F=zhD TU8 x'*G):Sat (w.setCell ⟨g,k*4+j,none⟩ u) (zcV p g n cap (L.set k x') G):=by
 have hk:=(List.getElem?_eq_some_iff.1 hx).1;obtain⟨R,hR⟩:=zej TU8 L k hk;have e:=hR x;rw[zbn hx] at e;unfold zcV at h ⊢;have h1:=znX (h.perm (show _=zaf TRs 4 (.slice (some ⟨g,0,none⟩) n cap) L.length (L.flatMap zd2)*(pts p (.cells #[.slice (some ⟨g,0,none⟩) n cap] TRk (0,0))*(zbM TU8 L*F)) from by ac_rfl)) hx x' j u hj he;rw[e] at h1;rw[hR];refine h1.perm ?_
 have e2:zhD TU8 x*R*F=zhD TU8 x'*R*G:=by
  rw[show zhD TU8 x*R*F=R*(zhD TU8 x*F) from by ac_rfl,hG];ac_rfl
 rw[e2];ac_rfl
theorem zdS {p g n cap:Nat}{L:List SecV}{R F:zsi}{w:World}(h:Sat w (zcV p g n cap L (R*F))):Sat w (zcV p g n cap L F):=by
 unfold zcV at h ⊢;exact (h.perm (show _=R*(pts p (.cells #[.slice (some ⟨g,0,none⟩) n cap] TRk (0,0))*(zaf TRs 4 (.slice (some ⟨g,0,none⟩) n cap) L.length (L.flatMap zd2)*(zbM TU8 L*F))) from by ac_rfl)).right
theorem zgx {p g n cap:Nat}{L:List SecV}{F:zsi}{w:World}(h:Sat w (zcV p g n cap L F)){k:Nat}{x:SecV}(hx:L[k]?=some x)(f:Int):Sat (w.setCell ⟨g,k*4+3,none⟩ (.int .i64 f)) (zcV p g n cap (L.set k (x.1.arm f,x.2)) F):=
 zbR h hx (x.1.arm f,x.2) 3 (.int .i64 f) (by omega) rfl rfl
def zoC (x:SecM)(s:List UInt8):SecM:={ x with cac:=s }
theorem zis (x:SecV)(s:List UInt8)(v:Value)(F:zsi):zhD TU8 x*(zbW TU8 v s*F)=zhD TU8 (zoC x.1 s,x.2.1,v)*(zbW TU8 x.2.2 x.1.cac*F):=by
 show zbW TU8 x.2.1 x.1.dur*zbW TU8 x.2.2 x.1.cac*(zbW TU8 v s*F)=zbW TU8 x.2.1 x.1.dur*zbW TU8 v s*(zbW TU8 x.2.2 x.1.cac*F)
 ac_rfl
theorem zoF (s:List UInt8)(W:World){P:zsi}(h:Sat W P):∃ W' cap,(convert 9 69 (.string (zh2 s))).run prog W = .ok (.slice (some ⟨W.heap.size,0,none⟩) s.length cap) W'∧
  Same W W'∧Sat W' (zbW TU8 (.slice (some ⟨W.heap.size,0,none⟩) s.length cap) s*P):=by
 have hr:=run_bytes_of_string (P:=prog) W 9 69 5 (zh2 s) underlying9 underlying69 underlying5
 have hsz:(zh2 s).size=s.length:=by show s.toArray.size=_;simp
 rw[hsz] at hr;refine⟨_,_,hr,((Same.refl W).drew).alloc _,ze2.2 (.inr ⟨W.heap.size,_,_,_,⟨rfl,by have:=grownCap_ge W (zh2 s).size 0 5;rw[hsz] at this;exact this,fun j u hu=>?_⟩,h.drew.alloc _⟩)⟩
 have hj:j<s.length:=by have:=(List.getElem?_eq_some_iff.1 hu).1;simpa [za2] using this
 simp only[za2,List.getElem?_map] at hu;unfold bytesRow;rw[Array.getElem?_append_left (by simpa [zh2] using hj)];simpa [zh2] using hu
end Go.Proofs.YtmcclbiaoeilkaaGreat
end
section
namespace Go.Proofs.YtmcclbiaoeilkaaGreat
open Go.Proofs.Tryz Go.RowKit Go.Sl Go.ChangeMaps
theorem znM (p:Nat)(D:zsh)(F:zsi)(i:Int)(w:World)(hS:Sat w (zbF RT p D*F)):
  Calls prog 114 #[.pointer (some ⟨p,0,none⟩),i] w fun e w'=>e = .returned (.int .i64 (D.lose i).2)∧Hid (Same w w'∧Sat w' (zbF RT p (D.lose i).1*F)):=by
 obtain⟨v,L,⟨hwf,hr⟩,hs⟩:=zbz.1 hS;have c0:w.cell? ⟨p,0,none⟩=some v:=zab hs.block 0;obtain⟨ao,cap,rfl⟩:=zal hs.right;have HI:=zh (fun i=>zg8 p (.slice ao L.length cap) L.length i w c0 ⟨ao,cap,rfl⟩);have hin:=zpt hr;obtain⟨G,hG⟩:∃ G,Hid (D.lose i=G):=⟨_,zh rfl⟩;rw[hG.out];obtain⟨n,hn⟩:∃ n,L.length=n:=⟨_,rfl⟩;rw[hn] at HI hin c0
 by_cases hi:0≤i∧i<(n:Int)
 ·obtain⟨k,rfl⟩:=Int.eq_ofNat_of_zero_le hi.1
  have hk:k<L.length:=by omega
  obtain⟨x,hx⟩:∃ x,L[k]?=some x:=⟨_,List.getElem?_eq_getElem hk⟩;obtain⟨g,rfl,-⟩:=zco hs.right hx;have ho:Sat w (zcV p g L.length cap L F):=hs;rw[hn] at ho;obtain⟨-,e0,e1,e2,e3,ef⟩:=zaW ho hx;have f3:=ef (k*4+3);have hki:(k:Int)<(n:Int):=hi.2;have hk0:(0:Int)≤(k:Int):=hi.1
  have hh:D.has (k:Int)=true:=by rw[hin];exact zea hi
  obtain rfl:({ D with armed:=za7 D.armed k (some (-1)) },0)=G:=by rw[← hG.out];unfold zsh.lose;rw[if_pos hh];rfl
  have hwf':=hwf.lose (k:Int);unfold zsh.lose at hwf';rw[if_pos hh] at hwf';have HF:=(zd ((Same.refl w).setCell ⟨g,k*4+3,none⟩ (.int .i64 (-1))) (zdn hwf' (hr.arm hx (some (-1))) (zgx ho hx (-1))));have hb:=zea hi;clear hG hs hS hr hwf hwf' hi hin ho hk hn ef hh;go_enter func114,ntmps114;go_wp2_with (go_at_call 119;refine (HI.out _).mono ?_;rintro e w' ⟨rfl,rfl⟩;rw[hb]);go_ret;exact⟨rfl,HF.out⟩
 ·have hb:=zfL hi
  have hh:D.has i=false:=by rw[hin];exact hb
  obtain rfl:(D,1)=G:=by rw[← hG.out];unfold zsh.lose;rw[hh];rfl
  have HF:=(zd (Same.refl w) hS);clear hG hs hS hr hwf hi hin hn hh;go_enter func114,ntmps114;go_wp2_with (go_at_call 119;refine (HI.out _).mono ?_;rintro e w' ⟨rfl,rfl⟩;rw[hb]);go_ret;exact⟨rfl,HF.out⟩
theorem zhB (p:Nat)(D:zsh)(F:zsi)(i tt:Int)(w:World)(hS:Sat w (zbF RT p D*F)):
  Calls prog 115 #[.pointer (some ⟨p,0,none⟩),i,tt] w fun e w'=>e = .returned (.int .i64 (D.misdirect i tt).2)∧Hid (Same w w'∧Sat w' (zbF RT p (D.misdirect i tt).1*F)):=by
 obtain⟨v,L,⟨hwf,hr⟩,hs⟩:=zbz.1 hS;have c0:w.cell? ⟨p,0,none⟩=some v:=zab hs.block 0;obtain⟨ao,cap,rfl⟩:=zal hs.right;have HI:=zh (fun i=>zg8 p (.slice ao L.length cap) L.length i w c0 ⟨ao,cap,rfl⟩);have hin:=zpt hr;obtain⟨G,hG⟩:∃ G,Hid (D.misdirect i tt=G):=⟨_,zh rfl⟩;rw[hG.out];obtain⟨n,hn⟩:∃ n,L.length=n:=⟨_,rfl⟩;rw[hn] at HI hin c0
 by_cases hi:0≤i∧i<(n:Int)
 case neg =>
  have hb:=zfL hi
  have hh:D.has i=false:=by rw[hin];exact hb
  obtain rfl:(D,1)=G:=by rw[← hG.out];unfold zsh.misdirect;rw[hh];rfl
  have HF:=(zd (Same.refl w) hS);clear hG hs hS hr hwf hi hin hn hh;go_enter func115,ntmps115;go_wp2_with (go_at_call 119;refine (HI.out _).mono ?_;rintro e w' ⟨rfl,rfl⟩;rw[hb]);go_ret;exact⟨rfl,HF.out⟩
 by_cases ht:0≤tt∧tt<(n:Int)
 case neg =>
  have hb:=zea hi;have hb2:=zfL ht
  have hh:D.has tt=false:=by rw[hin];exact hb2
  obtain rfl:(D,1)=G:=by rw[← hG.out];unfold zsh.misdirect;rw[hh,if_neg (by simp)]
  have HF:=(zd (Same.refl w) hS);clear hG hs hS hr hwf hi ht hin hn hh;go_enter func115,ntmps115;go_wp2_with (go_at_call 119;refine (HI.out _).mono ?_;rintro e w' ⟨rfl,rfl⟩;first|rw[hb]|rw[hb2]);go_ret;exact⟨rfl,HF.out⟩
 obtain⟨k,rfl⟩:=Int.eq_ofNat_of_zero_le hi.1
 have hk:k<L.length:=by omega
 obtain⟨x,hx⟩:∃ x,L[k]?=some x:=⟨_,List.getElem?_eq_getElem hk⟩;obtain⟨g,rfl,-⟩:=zco hs.right hx;have ho:Sat w (zcV p g L.length cap L F):=hs;rw[hn] at ho;obtain⟨-,e0,e1,e2,e3,ef⟩:=zaW ho hx;have f3:=ef (k*4+3);have hki:(k:Int)<(n:Int):=hi.2;have hk0:(0:Int)≤(k:Int):=hi.1
 have hh:D.has (k:Int)=true:=by rw[hin];exact zea hi
 have hh2:D.has tt=true:=by rw[hin];exact zea ht
 obtain rfl:({ D with armed:=za7 D.armed k (some tt) },0)=G:=by rw[← hG.out];unfold zsh.misdirect;rw[if_pos ⟨hh,hh2⟩];rfl
 have hwf':=hwf.misdirect (k:Int) tt;unfold zsh.misdirect at hwf';rw[if_pos ⟨hh,hh2⟩] at hwf';have HF:=(zd ((Same.refl w).setCell ⟨g,k*4+3,none⟩ (.int .i64 tt)) (zdn hwf' (hr.arm hx (some tt)) (zgx ho hx tt)));have hb:=zea hi;have hb2:=zea ht;clear hG hs hS hr hwf hwf' hi ht hin ho hk hn ef hh hh2;go_enter func115,ntmps115;go_wp2_with (go_at_call 119;refine (HI.out _).mono ?_;rintro e w' ⟨rfl,rfl⟩;first|rw[hb]|rw[hb2]);go_ret;exact⟨rfl,HF.out⟩
theorem zmb (p:Nat)(D:zsh)(F:zsi)(i:Int)(s:List UInt8)(w:World)(hS:Sat w (zbF RT p D*F)):
  Calls prog 108 #[.pointer (some ⟨p,0,none⟩),i,.string (zh2 s)] w fun e w'=>e = .returned (.int .i64 (D.write i s).2)∧Hid (Same w w'∧Sat w' (zbF RT p (D.write i s).1*F)):=by
 obtain⟨v,L,⟨hwf,hr⟩,hs⟩:=zbz.1 hS;have c0:w.cell? ⟨p,0,none⟩=some v:=zab hs.block 0;obtain⟨ao,cap,rfl⟩:=zal hs.right;have HI:=zh (fun i=>zg8 p (.slice ao L.length cap) L.length i w c0 ⟨ao,cap,rfl⟩);have hin:=zpt hr;obtain⟨G,hG⟩:∃ G,Hid (D.write i s=G):=⟨_,zh rfl⟩;rw[hG.out];obtain⟨n,hn⟩:∃ n,L.length=n:=⟨_,rfl⟩;rw[hn] at HI hin c0
 have hcn:=fun (W:World) (P:zsi) (h:Sat W P)=>zoF s W h
 have hsz:(zh2 s).size=s.length:=by show s.toArray.size=_;simp
 obtain⟨B,hB⟩:∃ B,zh2 s=B:=⟨_,rfl⟩;rw[hB] at hcn hsz ⊢;have HCN:=zh hcn;clear hcn hB
 by_cases hi:0≤i∧i<(n:Int)
 case neg =>
  have hb:=zfL hi
  have hh:D.has i=false:=by rw[hin];exact hb
  obtain rfl:(D,1)=G:=by rw[← hG.out];unfold zsh.write;rw[hh];rfl
  have HF:=(zd (Same.refl w) hS);clear hG hs hS hr hwf hi hin hn hh hsz;go_enter func108,ntmps108;go_wp2_with (go_at_call 119;refine (HI.out _).mono ?_;rintro e w' ⟨rfl,rfl⟩;rw[hb]);go_ret;exact⟨rfl,HF.out⟩
 have hb:=zea hi
 by_cases hl:s.length=64
 case neg =>
  obtain rfl:(D,1)=G:=by rw[← hG.out];unfold zsh.write;rw[if_neg (fun h=>hl h.2)]
  have HF:=(zd (Same.refl w) hS)
  have hne:((B.size:Int) != 64)=true:=by rw[hsz];simp;omega
  clear hG hs hS hr hwf hi hin hn hsz hl;go_enter func108,ntmps108;go_wp2_with (go_at_call 119;refine (HI.out _).mono ?_;rintro e w' ⟨rfl,rfl⟩;rw[hb]);go_ret;exact⟨rfl,HF.out⟩
 obtain⟨k,rfl⟩:=Int.eq_ofNat_of_zero_le hi.1
 have hk:k<L.length:=by omega
 obtain⟨x,hx⟩:∃ x,L[k]?=some x:=⟨_,List.getElem?_eq_getElem hk⟩;obtain⟨g,rfl,-⟩:=zco hs.right hx;have ho:Sat w (zcV p g L.length cap L F):=hs;rw[hn] at ho;obtain⟨-,e0,e1,e2,e3,ef⟩:=zaW ho hx;have f3:=ef (k*4+3);have hki:(k:Int)<(n:Int):=hi.2;have hk0:(0:Int)≤(k:Int):=hi.1
 have hh:D.has (k:Int)=true:=by rw[hin];exact hb
 have hs64:B.size=64:=by rw[hsz,hl]
 rw[hl] at HCN;have hwf':=hwf.write (k:Int) s
 have hGv:G=(D.put k s,0):=by rw[← hG.out];unfold zsh.write;rw[if_pos ⟨hh,hl⟩];simp
 have hwr:D.write (k:Int) s=(D.put k s,0):=by rw[hG.out,hGv]
 rw[hwr] at hwf';subst hGv;have hfx:=hr.fault k x hx;have HO:=zh ho;have HRF:=zh hr;have HX:=zh hx;have HW:=zh hwf';have HN:=zh hn
 cases ha:D.armed k with
 | none =>
  have hf:x.1.fault = -2:=by rw[hfx];unfold zmX;rw[ha]
  rw[hf] at e3
  have hp:D.put k s={ D with cache:=za7 D.cache k (some s) }:=by unfold zsh.put;rw[ha]
  rw[hp] at HW ⊢;have HP:=zh (hr.put hx s (Nat.le_of_eq hl));clear hG hs hS hr hwf hwf' hi hin ho hk hn ef hh hl hwr hfx hx ha hp hf hsz f3 e0 e1 e2;go_enter func108,ntmps108;go_upto_region 9 with (go_at_call 119;refine (HI.out _).mono ?_;rintro e w' ⟨rfl,rfl⟩;rw[hb])
  obtain⟨W2,cap2,hcv,hsm2,hs2⟩:=HCN.out _ _ HO.out;have ho2:Sat W2 (zcV p g n cap L (zbW TU8 (.slice (some ⟨w.heap.size,0,none⟩) 64 cap2) s*F)):=hs2.perm (show _=zcV p g n cap L (zbW TU8 (.slice (some ⟨w.heap.size,0,none⟩) 64 cap2) s*F) from by unfold zcV;ac_rfl);obtain⟨d0,-,g1,-,-,gf⟩:=zaW ho2 HX.out;have f1:=gf (k*4+1);have hst:=zbR ho2 HX.out (zoC x.1 s,x.2.1,.slice (some ⟨w.heap.size,0,none⟩) 64 cap2) 1 (.slice (some ⟨w.heap.size,0,none⟩) 64 cap2) (by omega) rfl (G:=zbW TU8 x.2.2 x.1.cac*F) (zis x s _ F)
  have H2:=(zd ((Same.refl w).trans hsm2) hst);clear hs2 hst ho2 gf hsm2;go_upto_region 10 with (((with_reducible (refine zaT ?_ (zaD ?_ ?_ hcv) ?_));rfl;rfl;rfl))
  clear hcv d0 g1 f1 c0;replace H2:=(zd (H2.out.1.setCell ⟨g,k*4+1,none⟩ (.slice (some ⟨w.heap.size,0,none⟩) 64 cap2)) H2.out.2);generalize hW3:W2.setCell ⟨g,k*4+1,none⟩ _=W3 at H2 ⊢;have hkl:k<L.length:=(List.getElem?_eq_some_iff.1 HX.out).1
  have hx3:(L.set k (zoC x.1 s,x.2.1,.slice (some ⟨w.heap.size,0,none⟩) 64 cap2))[k]?=some (zoC x.1 s,x.2.1,.slice (some ⟨w.heap.size,0,none⟩) 64 cap2):=by rw[List.getElem?_set_self hkl]
  obtain⟨c0,-,-,g2,-,gf⟩:=zaW H2.out.2 hx3;have f2:=gf (k*4+2);have hst:=zbR H2.out.2 hx3 (x.1.put s,x.2.1,.slice (some ⟨w.heap.size,0,none⟩) 64 cap2) 2 (.bool true) (by omega) rfl rfl;rw[List.set_set] at hst;have HF:=(zd (H2.out.1.setCell ⟨g,k*4+2,none⟩ (.bool true)) (zdn HW.out (HP.out _) (zdS hst)));clear hst hx3 gf hkl H2 hW3;go_wp2;go_ret;exact⟨rfl,HF.out⟩
 | some jj =>
  have hf:x.1.fault=jj:=by rw[hfx];unfold zmX;rw[ha]
  rw[hf] at e3;have hjj:=(hwf.armed k jj ha).2;have h1:=zgx ho hx (-2);have hr1:=hr.arm hx none;have hge:decide (-1≤jj)=true:=decide_eq_true (by omega);have H1:=(zd ((Same.refl w).setCell ⟨g,k*4+3,none⟩ (.int .i64 (-2))) h1)
  by_cases hm:jj = -1
  ·subst hm
   have hp:D.put k s={ D with armed:=za7 D.armed k none }:=by unfold zsh.put;rw[ha];simp
   rw[hp] at HW ⊢;have HF:=zh (zdn HW.out hr1 h1);clear hG hs hS hr hwf hwf' hi hin ho hk hn ef hh hl hwr hfx hx ha hp hf hsz hge e0 e1 e2 h1 hr1 hjj;go_enter func108,ntmps108;go_wp2_with (go_at_call 119;refine (HI.out _).mono ?_;rintro e w' ⟨rfl,rfl⟩;rw[hb]);go_ret;exact⟨rfl,H1.out.1,HF.out⟩
  ·obtain⟨j,rfl⟩:=Int.eq_ofNat_of_zero_le (show 0≤jj by omega)
   have hp:D.put k s={ D with armed:=za7 D.armed k none,cache:=za7 D.cache j (some s) }:=by unfold zsh.put;rw[ha];simp only;rw[if_neg hm,Int.toNat_natCast]
   rw[hp] at HW ⊢
   have hjn:j<n:=by have:=hr.len;omega
   obtain⟨y,hy⟩:∃ y,(L.set k (x.1.arm (zp6 none),x.2))[j]?=some y:=⟨_,List.getElem?_eq_getElem (by rw[List.length_set];omega)⟩;have HP:=zh (hr1.put hy s (Nat.le_of_eq hl));have HY:=zh hy
   have hji:(j:Int)<(n:Int):=by omega
   have hj0:(0:Int)≤(j:Int):=by omega
   have hlt0:decide ((j:Int)<0)=false:=decide_eq_false (by omega);clear hG hs hS hr hwf hwf' hi hin ho hk hn ef hh hl hwr hfx hx ha hp hf hsz e0 e1 e2 h1 hr1 hjj hm hy hjn;go_enter func108,ntmps108;go_upto_region 7 with (go_at_call 119;refine (HI.out _).mono ?_;rintro e w' ⟨rfl,rfl⟩;rw[hb])
   generalize w.setCell ⟨g,k*4+3,none⟩ (.int .i64 (-2))=w1 at H1 ⊢;clear e3 f3 c0;have HO1:=zh H1.out.2;have c0:w1.cell? ⟨p,0,none⟩=some (.slice (some ⟨g,0,none⟩) n cap):=(zaW HO1.out HY.out).1;go_upto_region 9 with (fail)
   obtain⟨W2,cap2,hcv,hsm2,hs2⟩:=HCN.out _ _ HO1.out;have ho2:Sat W2 (zcV p g n cap (L.set k (x.1.arm (zp6 none),x.2)) (zbW TU8 (.slice (some ⟨w1.heap.size,0,none⟩) 64 cap2) s*F)):=hs2.perm (show _=zcV p g n cap (L.set k (x.1.arm (zp6 none),x.2)) (zbW TU8 (.slice (some ⟨w1.heap.size,0,none⟩) 64 cap2) s*F) from by unfold zcV;ac_rfl);obtain⟨d0,-,g1,-,-,gf⟩:=zaW ho2 HY.out;have f1:=gf (j*4+1);have hst:=zbR ho2 HY.out (zoC y.1 s,y.2.1,.slice (some ⟨w1.heap.size,0,none⟩) 64 cap2) 1 (.slice (some ⟨w1.heap.size,0,none⟩) 64 cap2) (by omega) rfl (G:=zbW TU8 y.2.2 y.1.cac*F) (zis y s _ F)
   have H2:=(zd (H1.out.1.trans hsm2) hst);clear hs2 hst ho2 gf hsm2;go_upto_region 10 with (((with_reducible (refine zaT ?_ (zaD ?_ ?_ hcv) ?_));rfl;rfl;rfl))
   clear hcv d0 g1 f1 c0;replace H2:=(zd (H2.out.1.setCell ⟨g,j*4+1,none⟩ (.slice (some ⟨w1.heap.size,0,none⟩) 64 cap2)) H2.out.2);generalize hW3:W2.setCell ⟨g,j*4+1,none⟩ _=W3 at H2 ⊢;have hkl:j<(L.set k (x.1.arm (zp6 none),x.2)).length:=(List.getElem?_eq_some_iff.1 HY.out).1
   have hx3:((L.set k (x.1.arm (zp6 none),x.2)).set j (zoC y.1 s,y.2.1,.slice (some ⟨w1.heap.size,0,none⟩) 64 cap2))[j]?=some (zoC y.1 s,y.2.1,.slice (some ⟨w1.heap.size,0,none⟩) 64 cap2):=by rw[List.getElem?_set_self hkl]
   obtain⟨c0,-,-,g2,-,gf⟩:=zaW H2.out.2 hx3;have f2:=gf (j*4+2);have hst:=zbR H2.out.2 hx3 (y.1.put s,y.2.1,.slice (some ⟨w1.heap.size,0,none⟩) 64 cap2) 2 (.bool true) (by omega) rfl rfl;rw[List.set_set] at hst;have HF:=(zd (H2.out.1.setCell ⟨g,j*4+2,none⟩ (.bool true)) (zdn HW.out (HP.out _) (zdS hst)));clear hst hx3 gf hkl H2 hW3;go_wp2;go_ret;exact⟨rfl,HF.out⟩
def zhA (p:Nat)(ao:Option Addr)(n cap:Nat)(L:List SecV)(F:zsi):zsi:=pts p (.cells #[.slice ao n cap] TRk (0,0))*(zaf TRs 4 (.slice ao n cap) L.length (L.flatMap zd2)*(zbM TU8 L*F))
theorem zg3 {p:Nat}{ao:Option Addr}{n cap:Nat}{L:List SecV}{F:zsi}{D:zsh}{w:World}(hwf:D.WF)(hr:RefOf D L)(h:Sat w (zhA p ao n cap L F)):Sat w (zbF RT p D*F):=zbz.2 ⟨.slice ao n cap,L,⟨hwf,hr⟩,h⟩
def zkY (D:zsh)(k:Nat):List Nat:=(List.range k).filter fun i=>(D.cache i).isSome
theorem zjk (D:zsh)(k:Nat):zkY D (k+1)=zkY D k++(if (D.cache k).isSome=true then [k] else []):=by
 unfold zkY;rw[List.range_succ,List.filter_append];congr 1
 cases h:(D.cache k).isSome <;> simp[h]
theorem zik (D:zsh)(k:Nat):(zkY D k).length≤k:=by
 unfold zkY;refine Nat.le_trans (List.length_filter_le _ _) ?_;rw[List.length_range];exact Nat.le_refl _
def zhL (j:Nat):Value:=.int .i64 (j:Int)
abbrev TIn:TypeId:=3
structure zrF (w:World)(p:Nat)(ao:Option Addr)(n cap:Nat)(D:zsh)(L:List SecV)(F:zsi)(o i:Value)(wr:World):Prop where
 st:∃ k:Nat,k≤n∧i = .int .i64 (k:Int)∧Hid (Same w wr∧Sat wr (zaf TIn 1 o (zkY D k).length ((zkY D k).map zhL)*zhA p ao n cap L F))
theorem zm9:(prog.info? TIn).map (fun i=>(i.zero,i.size,i.bytes))=some (some (.int .i64 0),1,8):=by kernel_rfl
theorem zpe (w:World)(c:Int):∀ j u,[Value.int .i64 c][j]?=some u→(w.alloc (.cells #[c] TIn)).cell? ((⟨w.heap.size,0,none⟩:Addr).add j)=some u:=by
 intro j u hu
 match j,hu with
 | 0,hu=>rw[Addr.add_mid,zab (heap_alloc_new _ _)];simpa using hu
theorem ziq (p:Nat)(D:zsh)(F:zsi)(ao:Option Addr)(n cap:Nat)(L:List SecV)(w:World)(hwf:D.WF)(hr:RefOf D L)(hn0:L.length=n)(h0:Sat w (zhA p ao n cap L F)):
  Calls prog 110 #[.pointer (some ⟨p,0,none⟩)] w fun e w'=>∃ v,e = .returned v∧Hid (Same w w'∧Sat w' (zaf TIn 1 v D.pending.length (D.pending.map zhL)*zhA p ao n cap L F)):=by
 have hn:=zh hn0;clear hn0
 have hn6:n≤65536:=by rw[← hn.out,hr.len];exact hwf.small
 have HR:=(zd hwf hr);have H0:=zh h0;clear h0 hwf hr;go_enter func110,ntmps110;go_upto_region 3 with (fail)
 go_loopw [3,4] (fun o i wr=>zrF w p ao n cap D L F o i wr) (fun _ i _=>n - (intOf i).toNat)
 case atStart=>exact⟨⟨0,Nat.zero_le _,rfl,Same.refl w,zbp.2 H0.out⟩⟩
 case round =>
  clear H0;obtain⟨k,hk,rfl,H1⟩:=hrel.st;clear hrel;have c0:wr.cell? ⟨p,0,none⟩=some (.slice ao n cap):=zab (H1.out.2.right.block) 0;obtain⟨ro,rc,rfl⟩:=zal H1.out.2;have hpl:=zik D k;obtain⟨m,hm⟩:∃ m,Hid ((zkY D k).length=m):=⟨_,zh rfl⟩;rw[hm.out] at hpl H1 ⊢
  by_cases hlt:k<n
  ·have hltd:decide ((k:Int)<(n:Int))=true:=decide_eq_true (by omega)
   have hki:(k:Int)<(n:Int):=by omega
   have hk0:(0:Int)≤(k:Int):=by omega
   have hk6:(k:Int)≤65536:=by omega
   have hw1:IntKind.i64.wrap ((k:Int)+1)=(k:Int)+1:=IntWalk.i64_in _ (by omega);obtain⟨x,hx⟩:∃ x,L[k]?=some x:=⟨_,List.getElem?_eq_getElem (by rw[hn.out];exact hlt)⟩;obtain⟨g,rfl,-,-,e2,-⟩:=zco (H1.out.2.right.right) hx;have hpe:=HR.out.2.pend k x hx;have HL:=(zd hk hlt);cases hp:x.1.pend
   ·rw[hp] at e2 hpe
    have HS:=zh (show zkY D (k+1)=zkY D k from by rw[zjk,if_neg (by rw[← hpe];decide),List.append_nil]);clear hp hpe hx hlt hk;go_wp2
    go_roundw
    case rel=>exact⟨⟨k+1,HL.out.2,rfl,by rw[HS.out,hm.out];exact H1.out⟩⟩
    case measure=>have:=HL.out;simp only[intOf];omega
   ·rw[hp] at e2 hpe
    have HS:=zh (show zkY D (k+1)=zkY D k++[k] from by rw[zjk,if_pos (by rw[← hpe])]);clear hp hpe hx hlt hk;obtain⟨ti,hti,hz0,hts,hz2⟩:=info_parts zm9;go_wp2_with (at_builtin;refine zaq rfl _ _ 38 TIn rfl ti _ underlying38 hti hz0 hts hz2 rfl (H1.out.2.allocKeep _) [.int .i64 (k:Int)] rfl rfl rfl (zpe _ _) (by simp[Value.oneCell']) (by unfold maxLen;omega) (by omega) ?_;intro v8 w8 h8)
    go_roundw
    case rel=>exact⟨⟨k+1,HL.out.2,rfl,(H1.out.1.alloc _).trans h8.out.1,by rw[HS.out,List.length_append,hm.out,List.map_append];exact h8.out.2⟩⟩
    case measure=>have:=HL.out;simp only[intOf];omega
  ·obtain rfl:k=n:=by omega
   have hltd:decide (k<k)=false:=decide_eq_false (by omega)
   have HF:=zh (show D.pending=zkY D k from by
    have:D.n=k:=by rw[← HR.out.2.len,hn.out]
    unfold zsh.pending zkY;rw[this])
   clear hlt hk;go_wp2;go_ret;refine⟨_,rfl,H1.out.1,?_⟩;rw[HF.out,hm.out];exact H1.out.2
theorem zgj (p:Nat)(D:zsh)(F:zsi)(w:World)(hS:Sat w (zbF RT p D*F)):
  Calls prog 110 #[.pointer (some ⟨p,0,none⟩)] w fun e w'=>∃ v,e = .returned v∧Hid (Same w w'∧Sat w' (zaf TIn 1 v D.pending.length (D.pending.map zhL)*(zbF RT p D*F))):=by
 obtain⟨v,L,⟨hwf,hr⟩,hs⟩:=zbz.1 hS;obtain⟨ao,cap,rfl⟩:=zal hs.right
 refine (ziq p D F ao L.length cap L w hwf hr rfl hs).mono fun e w' h=>?_
 obtain⟨v,he,h2⟩:=h;refine⟨v,he,h2.out.1,?_⟩;have h3:=zg3 hwf hr (h2.out.2.perm (show _=zhA p ao L.length cap L (zaf TIn 1 v D.pending.length (D.pending.map zhL)*F) from by unfold zhA;ac_rfl));exact h3.perm (by ac_rfl)
end Go.Proofs.YtmcclbiaoeilkaaGreat
end
section
namespace Go.Sl
open Go Go.RowKit
section
variable {P:Program} {w:World}
variable {ops:Array Oper} {rest:List Oper} {o:Oper} {a:Act} {Q:Exit→Act→World→Prop}
theorem zd7 {T:TypeId}{x:Operand}{lo hi:Option Operand}{p v':Value}(ho:o.op = .slice T x lo hi none)(hx:a.eval x=p)(h:(Instr.sliceAt T p (lo.map a.eval) (hi.map a.eval) none).run P w = .ok v' w):(execOp a.eval o).run P w = .ok (.value v') w:=by
 unfold execOp;simp[ho,hx,h]
section
variable {T e:TypeId} {k:Nat} (hu:P.underlying T=some (.slice e)) (he:(P.info? e).map (·.size)=some k) (b off n cap:Nat)
include hu he
theorem zjt (hi:Nat)(h:hi≤cap)(w:World):(Instr.sliceAt T (.slice (some ⟨b,off,none⟩) n cap) none (some (.int .i64 (hi:Int))) none).run P w = .ok (.slice (some ⟨b,off,none⟩) hi cap) w:=by
 obtain⟨ti,hti,hts⟩:=Option.map_eq_some_iff.1 he;simp[Instr.sliceAt,Instr.slice,run_underlying hu,Instr.sliceBounds,Instr.sliceBound,asIntOf,sizeOf,typeInfo,hti,h,Addr.add_mid]
theorem zju (lo:Nat)(h:lo≤n)(w:World):(Instr.sliceAt T (.slice (some ⟨b,off,none⟩) n cap) (some (.int .i64 (lo:Int))) none none).run P w = .ok (.slice (some (if cap=lo then ⟨b,off,none⟩ else ⟨b,off+lo*k,none⟩)) (n - lo) (cap - lo)) w:=by
 obtain⟨ti,hti,hts⟩:=Option.map_eq_some_iff.1 he
 by_cases hc:cap=lo
 ·simp[Instr.sliceAt,Instr.slice,run_underlying hu,Instr.sliceBounds,Instr.sliceBound,asIntOf,sizeOf,typeInfo,hti,h,Addr.add_mid,hc]
 ·simp[Instr.sliceAt,Instr.slice,run_underlying hu,Instr.sliceBounds,Instr.sliceBound,asIntOf,sizeOf,typeInfo,hti,h,Addr.add_mid,hts,hc]
end
end
end Go.Sl
end
