import Derived.Test.YtmcclbiaoeilkaaGreatQ43
/- Part 46. -/
section
namespace Go.Proofs.YtmcclbiaoeilkaaGreat
open Go.Proofs.Tryz Go.RowKit Go.Sl Go.ChangeMaps
theorem zk8 (p:Nat)(S:zsg)(F:zsi)(ge gc sq:Int)(im:List UInt8)(hsq:sq<9223372036854775808)(w:World)(hS:Sat w (zac SH p S*F)):
  Calls prog 10 #[.pointer (some ⟨p,0,none⟩),.agg #[ge,gc,sq,.string (zae im)]] w (zff p F (zdc S ⟨⟨ge,gc⟩,sq,im⟩) w):=by
 by_cases hb:zdq ⟨⟨ge,gc⟩,sq,im⟩
 ·have e:zdc S ⟨⟨ge,gc⟩,sq,im⟩=(S,0,1):=by unfold zdc;rw[if_pos hb]
  rw[e]
  cases hs:decide (sq<0) with
  | true=>exact zqD p S F ge gc sq im hs w hS
  | false =>
   cases he:zcq ge with
   | false=>exact zqE p S F ge gc sq im hs he w hS
   | true =>
    cases hc:zcq gc with
    | false=>exact zqF p S F ge gc sq im hs he hc w hS
    | true =>
     have h2:=(zdW ge gc sq im).1 hb;have e1:=of_decide_eq_false hs;rw[he,hc] at h2
     have h3:ge=0∧gc=0:=by
      rcases h2 with h|h|h|h
      ·exact absurd h e1
      ·cases h
      ·cases h
      ·exact h
     exact zqG p S F ge gc sq im hs he hc (beq_iff_eq.2 h3.1) (beq_iff_eq.2 h3.2) w hS
 ·have hn:=fun h=>hb ((zdW ge gc sq im).2 h)
  have hs:decide (sq<0)=false:=decide_eq_false fun h=>hn (.inl h)
  have he:zcq ge=true:=by cases h:zcq ge with|true=>rfl|false=>exact absurd (.inr (.inl h)) hn
  have hc:zcq gc=true:=by cases h:zcq gc with|true=>rfl|false=>exact absurd (.inr (.inr (.inl h))) hn
  have hz:(ge==0)=false∨((ge==0)=true∧(gc==0)=false):=by
   by_cases h0:ge=0
   ·refine .inr ⟨beq_iff_eq.2 h0,beq_eq_false_iff_ne.2 fun h1=>hn (.inr (.inr (.inr ⟨h0,h1⟩)))⟩
   ·exact .inl (beq_eq_false_iff_ne.2 h0)
  by_cases hl:zda S.cfg<(im.length:Int)
  ·have e:zdc S ⟨⟨ge,gc⟩,sq,im⟩=(S,0,2):=by unfold zdc;rw[if_neg hb,if_pos hl]
   rw[e];exact zmf p S F ge gc sq im hs he hc hz (decide_eq_true hl) w hS
  ·cases hoff:S.off with
   | true =>
    have e:zdc S ⟨⟨ge,gc⟩,sq,im⟩=(S,0,14):=by unfold zdc;rw[if_neg hb,if_neg hl,if_pos hoff]
    rw[e];exact zpy p S F ge gc sq im hs he hc hz (decide_eq_false hl) hoff w hS
   | false =>
    obtain⟨q,rfl⟩:∃ q:Nat,sq=(q:Int):=⟨sq.toNat,by have:=of_decide_eq_false hs;omega⟩;exact znV p S F ge gc q im (by omega) hs he hc hz (decide_eq_false hl) hoff w hS
end Go.Proofs.YtmcclbiaoeilkaaGreat
end
section
namespace Go.Proofs.YtmcclbiaoeilkaaGreat
open Go.Proofs.Tryz Go.RowKit Go.Sl Go.ChangeMaps
end Go.Proofs.YtmcclbiaoeilkaaGreat
namespace Go.Proofs.YtmcclbiaoeilkaaGreat
open Go.Proofs.Tryz Go.RowKit Go.Sl Go.ChangeMaps
def zrM (size:Int):zsl:=⟨2,1,1,0,size+3,1⟩
theorem zpa {c:zsl}(h:c.WF):FineS c (zsg.new c)∧∀ d:Int,0≤d→d<c.disks→zc4 (zsg.new c) d=fun _=>zck:=by
 have hb:=fun (d:Int) (h0:0≤d) (h1:d<c.disks)=>zsg.new_bay c h0 h1
 refine⟨⟨znp h,rfl,rfl,rfl,fun d h0 h1=>zsg.bay_state (hb d h0 h1),fun d h0 h1 i=>?_⟩,fun d h0 h1=>funext fun j=>?_⟩
 ·rw[zsg.bay_disk (hb d h0 h1)];rfl
 ·unfold zc4;rw[zsg.bay_disk (hb d h0 h1)];rfl
theorem LogK.next {f:Nat→List UInt8}{N:Nat}{d:Int}{rs:List (List UInt8)}(h:LogK f N d rs){k:Nat}(hk:k<rs.length):∃ t1,zdJ f N d (zc2 rs k)=some (rs[k],t1)∧t1=zc2 rs (k+1):=by
 have h1:=h.chain k (by omega);rw[List.drop_eq_getElem_cons hk] at h1
 cases h1 with
 | cons hn _ =>
  refine⟨_,hn,?_⟩;have h2:=h.pre (k+1) (by omega);have h3:=(h.pre k (by omega)).snoc hn
  have e:rs.take k++[rs[k]]=rs.take (k+1):=by rw[List.take_add_one,List.getElem?_eq_getElem hk];rfl
  rw[e] at h3;exact ChainL.end_eq h3 h2
end Go.Proofs.YtmcclbiaoeilkaaGreat
end
section
namespace Go.Proofs.YtmcclbiaoeilkaaGreat
open Go.Proofs.Tryz Go.RowKit Go.Sl Go.ChangeMaps
def zlB (S:zsg)(d:Int)(j:Nat):List UInt8:=(S.disk d).dur j
structure FineP (c:zsl)(S:zsg):Prop where
 wf:S.WF
 cfg:S.cfg=c
 st:∀ d:Int,0≤d→d<c.disks→S.state d=1
 armed:∀ d:Int,0≤d→d<c.disks→∀ i,(S.disk d).armed i=none
theorem FineP.bays {c:zsl}{S:zsg}(h:FineP c S):(S.bays.length:Int)=c.disks:=by
 have h1:=h.wf.bays;have h2:=h.wf.cfg.disks;rw[h.cfg] at h1 h2;omega
theorem FineP.set {c:zsl}{S:zsg}(h:FineP c S){d:Int}(h0:0≤d)(h1:d<c.disks){D:zsh}(hn:D.n=(S.disk d).n)(ha:∀ i,D.armed i=none){n:Int}(hw:({ S with left:=n }:zsg).WF):
  FineP c (({ S with left:=n }:zsg).setDisk d D)∧∀ e:Int,(({ S with left:=n }:zsg).setDisk d D).disk e=if e=d then D else S.disk e:=by
 have hst:({ S with left:=n }:zsg).state d=1:=h.st d h0 h1
 have hb:d<(({ S with left:=n }:zsg).bays.length:Int):=by rw[show ({ S with left:=n }:zsg).bays=S.bays from rfl,h.bays];exact h1
 have hd:∀ e:Int,(({ S with left:=n }:zsg).setDisk d D).disk e=if e=d then D else S.disk e:=fun e=>zsg.setDisk_disk h0 hb
 refine⟨⟨hw.setDisk (by omega) hn,h.cfg,fun e e0 e1=>?_,fun e e0 e1 i=>?_⟩,hd⟩
 ·rw[zsg.setDisk_state h0 hb];exact h.st e e0 e1
 ·rw[hd]
  split
  ·exact ha i
  ·exact h.armed e e0 e1 i
theorem zrq {S:zsg}(h:S.WF):({ S with off:=true,fused:=false }:zsg).WF:=⟨h.cfg,h.bays,h.st,h.images,fun hf=>(by cases hf)⟩
theorem FineP.down {c:zsl}{S:zsg}(h:FineP c S):FineP c { S with off:=true,fused:=false }:=⟨zrq h.wf,h.cfg,h.st,h.armed⟩
theorem zjA {S:zsg}(hw:S.WF)(ho:S.off=false){d:Int}(hst:S.state d=1)(f:zsh→zsh):
  (∃ n:Int,({ S with left:=n }:zsg).WF∧S.step d f=(({ S with left:=n }:zsg).setDisk d (f (S.disk d)),0))∨S.step d f=({ S with off:=true,fused:=false },14):=by
 unfold zsg.step;rw[if_neg (by rw[ho];decide),if_neg (by rw[hst];simp)]
 cases hf:S.fused with
 | false =>
  rw[if_neg (by decide)];refine .inl ⟨S.left,⟨hw.cfg,hw.bays,hw.st,hw.images,fun h=>(by cases h)⟩,?_⟩;obtain⟨c,b,im,o,fu,le⟩:=S;simp only at hf;subst hf
  rfl
 | true =>
  rw[if_pos rfl]
  by_cases hl:S.left=0
  ·rw[if_pos hl];exact .inr rfl
  ·rw[if_neg hl]
   have:=hw.left hf
   exact .inl ⟨S.left - 1,⟨hw.cfg,hw.bays,hw.st,hw.images,fun _=>⟨by show 0≤S.left - 1;omega,by show S.left - 1 < _;omega⟩⟩,rfl⟩
theorem FineP.write {c:zsl}{S:zsg}(h:FineP c S)(ho:S.off=false){d:Int}(h0:0≤d)(h1:d<c.disks){i:Nat}(hi:(i:Int)<c.log){s:List UInt8}(hs:s.length=64):
  (∃ S',S.write ⟨d,1,(i:Int)⟩ s=(S',0)∧S'.off=false∧FineP c S'∧(∀ j,zc4 S' d j=if j=i then s else zc4 S d j)∧zlB S' d=zlB S d)∨S.write ⟨d,1,(i:Int)⟩ s=({ S with off:=true,fused:=false },14):=by
 have hst:=h.st d h0 h1
 have hi':(i:Int)<S.cfg.log:=by rw[h.cfg];exact hi
 have hlt:=znk h.wf hst hi';have hwr:=zsh.write_ok hlt hs (h.armed d h0 h1 i)
 have he:S.write ⟨d,1,(i:Int)⟩ s=S.step d fun D=>(D.write (i:Int) s).1:=by
  unfold zsg.write;rw[zhN (by omega) hi',if_neg (by omega)]
 rw[he]
 rcases zjA h.wf ho hst (fun D=>(D.write (i:Int) s).1) with ⟨n,hw,hs'⟩|hs'
 ·rw[hwr] at hs'
  obtain⟨f1,f2⟩:=h.set h0 h1 (D:={ S.disk d with cache:=za7 (S.disk d).cache i (some s) }) rfl (fun k=>h.armed d h0 h1 k) hw;refine .inl ⟨_,hs',ho,f1,fun j=>?_,?_⟩
  ·unfold zc4
   rw[f2,if_pos rfl]
   by_cases hj:j=i
   ·subst hj;rw[if_pos rfl];simp[zsh.content,za7]
   ·rw[if_neg hj];simp[zsh.content,za7,hj]
  ·funext j
   unfold zlB;rw[f2,if_pos rfl]
 ·exact .inr hs'
theorem FineP.flush {c:zsl}{S:zsg}(h:FineP c S)(ho:S.off=false){d:Int}(h0:0≤d)(h1:d<c.disks):
  (∃ S',S.flush d=(S',0)∧S'.off=false∧FineP c S'∧zc4 S' d=zc4 S d∧zlB S' d=zc4 S d)∨S.flush d=({ S with off:=true,fused:=false },14):=by
 have hst:=h.st d h0 h1;unfold zsg.flush;rw[if_neg (by omega)];rcases zjA h.wf ho hst zsh.flush with ⟨n,hw,hs'⟩|hs'
 ·obtain⟨f1,f2⟩:=h.set h0 h1 (D:=(S.disk d).flush) rfl (fun k=>h.armed d h0 h1 k) hw
  refine .inl ⟨_,hs',ho,f1,?_,?_⟩
  ·funext j;unfold zc4;rw[f2,if_pos rfl];rfl
  ·funext j;unfold zlB zc4;rw[f2,if_pos rfl];rfl
 ·exact .inr hs'
theorem zfj:∀ (l:List zsk) (p:List Int) (k:Nat) (b:zsk),l[k]?=some b→b.state=1→∃ q,(zsg.cutBays l p)[k]?=some ⟨b.disk.cut q,1⟩
 | [],_,_,_,h,_=>by simp at h
 | a::l,p,0,b,h,hb=>by
  obtain rfl:a=b:=by simpa using h
  unfold zsg.cutBays;rw[if_pos hb];exact⟨_,rfl⟩
 | a::l,p,k+1,b,h,hb=>by
  have h':l[k]?=some b:=by simpa using h
  unfold zsg.cutBays;split
  ·obtain⟨q,hq⟩:=zfj l (p.drop a.disk.pending.length) k b h' hb
   exact⟨q,by simpa using hq⟩
  ·obtain⟨q,hq⟩:=zfj l p k b h' hb
   exact⟨q,by simpa using hq⟩
theorem zhO {S:zsg}(p:List Int){d:Int}(h:S.state d=1):∃ q,(S.mount p).disk d=(S.disk d).cut q:=by
 have hb:∃ b,S.bay d=some b∧b.state=1:=by
  unfold zsg.state at h
  cases hb:S.bay d with
  | none=>rw[hb] at h;simp at h
  | some b=>rw[hb] at h;exact⟨b,rfl,h⟩
 obtain⟨b,hb,hs⟩:=hb;have hbd:=zsg.bay_disk hb;unfold zsg.bay at hb;split at hb
 ·next h0 =>
  obtain⟨q,hq⟩:=zfj S.bays p d.toNat b hb hs;refine⟨q,?_⟩
  have hm:(S.mount p).bay d=some ⟨b.disk.cut q,1⟩:=by
   unfold zsg.bay;rw[if_pos h0];exact hq
  rw[zsg.bay_disk hm,hbd]
 ·cases hb
theorem zfS (s:List UInt8)(k:Int):zsh.torn s s k=s:=by unfold zsh.torn;rw[List.take_append_drop]
theorem zlR {c:zsl}{S:zsg}(h:FineP c S){p:List Int}(hw:(S.mount p).WF):FineS c (S.mount p)∧∀ d:Int,0≤d→d<c.disks→∀ j,∃ k:Int,zc4 (S.mount p) d j=zsh.torn (zc4 S d j) (zlB S d j) k:=by
 refine⟨⟨hw,h.cfg,rfl,rfl,fun d h0 h1=>?_,fun d h0 h1 i=>?_⟩,fun d h0 h1 j=>?_⟩
 ·rw[zsg.mount_state];exact h.st d h0 h1
 ·obtain⟨q,hq⟩:=zhO p (h.st d h0 h1)
  rw[hq];rfl
 ·obtain⟨q,hq⟩:=zhO p (h.st d h0 h1)
  unfold zc4 zlB;rw[hq];unfold zsh.content zsh.cut;simp only[Option.getD_none]
  cases (S.disk d).cache j with
  | none=>exact⟨0,(zfS _ _).symm⟩
  | some s=>exact⟨_,rfl⟩
theorem zfN {s:List UInt8}(h:zbB s=true):zaN (zav s 0 4)=(zfX (s.drop 4)).toNat∧zcQ (zex s 8)=true∧zav s 8 16=s.drop 56:=by
 unfold zbB at h;simp only[Bool.and_eq_true,decide_eq_true_eq] at h;exact⟨h.1.1.1,h.1.2,h.2⟩
theorem zlX {a:zsj}{s:List UInt8}(h:(zbj a s).isSome=true):s.length=64∧zbB s=true:=by
 unfold zbj at h;split at h
 ·next hc=>exact⟨hc.2.1,hc.2.2.1⟩
 ·cases h
theorem zje {a:zsj}{s:List UInt8}(h:¬ zbB s=true):zbj a s=none:=by
 unfold zbj;rw[if_neg];rintro⟨_,_,h2,_⟩;exact h h2
theorem zqK {x y:List UInt8}{i j k:Nat}(h1:zav x i j=zav y i j)(h2:zav x j k=zav y j k)(hij:i≤j)(hjk:j≤k):zav x i k=zav y i k:=by
 unfold zav at *
 have e:∀ z:List UInt8,(z.drop i).take (k - i)=(z.drop i).take (j - i)++(z.drop j).take (k - j):=fun z=>by
  rw[show k - i=(j - i)+(k - j) by omega,List.take_add,List.drop_drop,show i+(j - i)=j by omega]
 rw[e x,e y,h1,h2]
theorem zqJ {x y:List UInt8}(hx:x.length=64)(hy:y.length=64)(h:zav x 0 64=zav y 0 64):x=y:=by
 unfold zav at h;simp only[List.drop_zero,Nat.sub_zero] at h
 rwa [List.take_of_length_le (by omega),List.take_of_length_le (by omega)] at h
theorem zel {x y:List UInt8}{k:Int}(hx:x.length=64)(hy:y.length=64):(zsh.torn x y k).length=64:=by
 have:=clamp_le k;unfold zsh.torn;simp only[List.length_append,List.length_take,List.length_drop];omega
theorem zoa {x y:List UInt8}{k:Int}(hx:x.length=64){i j:Nat}(hj:j≤zsh.clamp k):zav (zsh.torn x y k) i j=zav x i j:=by
 have:=clamp_le k;unfold zsh.torn zav
 by_cases hij:i≤j
 ·rw[List.drop_append_of_le_length (by rw[List.length_take];omega),List.take_append_of_le_length (by rw[List.length_drop,List.length_take];omega),List.drop_take,List.take_take]
  congr 1;omega
 ·rw[show j - i=0 by omega];simp
theorem zqL {x y:List UInt8}{k:Int}(hx:x.length=64){i j:Nat}(hi:zsh.clamp k≤i):zav (zsh.torn x y k) i j=zav y i j:=by
 have:=clamp_le k;unfold zsh.torn zav;rw[List.drop_append,List.drop_eq_nil_of_le (by rw[List.length_take];omega),List.nil_append,List.drop_drop,List.length_take,show zsh.clamp k+(i - min (zsh.clamp k) x.length)=i by omega]
theorem zn5 {s:List UInt8}(h:s.length=64):zav s 56 64=s.drop 56:=by
 unfold zav;rw[List.take_of_length_le (by rw[List.length_drop];omega)]
theorem zmm {a:zsj}{s:List UInt8}{k:Int}(hs:(zbj a s).isSome=true):zbj a (zsh.torn s zck k)=none∨zsh.torn s zck k=s:=by
 obtain⟨hl,hlab⟩:=zlX hs;obtain⟨_,_,hsg⟩:=zfN hlab;have htl:=zel (k:=k) hl zbe
 by_cases hT:zbB (zsh.torn s zck k)=true
 ·right
  obtain⟨_,hg,ht⟩:=zfN hT;rw[← zn5 htl] at ht;rw[← zn5 hl] at hsg
  by_cases hk:zsh.clamp k≤56
  ·exfalso
   rw[zqL (i:=56) hl hk] at ht
   have hz:zav zck 56 64=List.replicate 8 0:=by decide
   rw[hz] at ht
   have h4:∀ i j:Nat,8≤i→j=i+4→j≤16→zav (zsh.torn s zck k) i j=List.replicate 4 0:=fun i j h1 h2 h3=>by
    have e:zav (zsh.torn s zck k) i j=zav (zav (zsh.torn s zck k) 8 16) (i - 8) (j - 8):=by
     unfold zav;rw[List.drop_take,List.take_take,List.drop_drop,show 8+(i - 8)=i by omega];congr 1;omega
    rw[e,ht];unfold zav;rw[List.drop_replicate,List.take_replicate];congr 1;omega
   have hz0:zex (zsh.torn s zck k) 8=g0:=by
    unfold zex;rw[h4 8 (8+4) (by omega) rfl (by omega),h4 (8+4) (8+8) (by omega) rfl (by omega)]
    rfl
   rw[hz0] at hg;exact absurd hg (by decide)
  ·have hk':56≤zsh.clamp k:=by omega
   refine zqJ htl hl (zqK (zoa hl hk') ?_ (by omega) (by omega));rw[← ht,zoa hl (show 16≤zsh.clamp k by omega),hsg]
 ·left;exact zje hT
theorem zhT {f f':Nat→List UInt8}{N:Nat}{d:Int}(h:∀ j,zcY f' N d j=zcY f N d j∨zcY f' N d j=none){t:Nat}{x:PartM}:∀ (k i:Nat),zg5 f' N d t x i k=zg5 f N d t x i k∨zg5 f' N d t x i k=none
 | 0,_=>.inl rfl
 | k+1,i=>by
  unfold zg5;rcases h (t+i) with e|e
  ·rw[e]
   cases zcY f N d (t+i) with
   | none=>exact .inl rfl
   | some p =>
    simp only;split
    ·exact .inl rfl
    ·rcases zhT h k (i+1) with e2|e2
     ·rw[e2];exact .inl rfl
     ·rw[e2];exact .inr rfl
  ·rw[e];exact .inr rfl
theorem zhQ {f f':Nat→List UInt8}{N:Nat}{d:Int}(h:∀ j,zcY f' N d j=zcY f N d j∨zcY f' N d j=none)(t:zsm):zdJ f' N d t=zdJ f N d t∨zdJ f' N d t=none:=by
 unfold zdJ
 rcases h t.next.toNat with e|e
 ·rw[e]
  cases zcY f N d t.next.toNat with
  | none=>exact .inl rfl
  | some x =>
   simp only;split
   ·rcases zhT h ((ziw x.left).toNat - 1) 1 (t:=t.next.toNat) (x:=x) with e2|e2
    ·rw[e2];exact .inl rfl
    ·rw[e2];exact .inr rfl
   ·exact .inl rfl
 ·rw[e];exact .inr rfl
theorem zjD {f f':Nat→List UInt8}{N:Nat}{d:Int}{rs:List (List UInt8)}(hw:∀ j,zcY f' N d j=zcY f N d j∨zcY f' N d j=none)(hnext:∀ k,(hk:k<rs.length)→zdJ f N d (zc2 rs k)=some (rs[k],zc2 rs (k+1)))(hend:zdJ f N d (zc2 rs rs.length)=none):
  ∀ (m k:Nat),k+m=rs.length→ChainL f' N d t0 (rs.take k) (zc2 rs k)→∃ n,k≤n∧n≤rs.length∧zq0 f' N d t0 (rs.take n) (zc2 rs n)
 | 0,k,hk,hc=>by
  obtain rfl:k=rs.length:=by omega
  refine⟨_,Nat.le_refl _,Nat.le_refl _,hc,?_⟩;rcases zhQ hw (zc2 rs rs.length) with e|e
  ·rw[e,hend]
  ·exact e
 | m+1,k,hk,hc=>by
  rcases zhQ hw (zc2 rs k) with e|e
  ·rw[hnext k (by omega)] at e
   have h2:=hc.snoc e
   have e3:rs.take k++[rs[k]]=rs.take (k+1):=by rw[List.take_add_one,List.getElem?_eq_getElem (by omega)];rfl
   rw[e3] at h2;obtain⟨n,a,b,c⟩:=zjD hw hnext hend m (k+1) (by omega) h2;exact⟨n,by omega,b,c⟩
  ·exact⟨k,Nat.le_refl _,by omega,hc,e⟩
structure CrI (size:Int)(S:zsg)(rs:List (List UInt8))(safe:Nat):Prop where
 fine:FineP (zrM size) S
 on:S.off=false
 log:LogK (zc4 S 0) size.toNat 0 rs
 ok:∀ j:Nat,zc4 S 0 j=zck∨(zbj ⟨0,1,(j:Int)⟩ (zc4 S 0 j)).isSome=true
 dur:∀ j:Nat,zlB S 0 j=zc4 S 0 j∨zlB S 0 j=zck
 rest:∀ j:Nat,(zc2 rs rs.length).next≤(j:Int)→zc4 S 0 j=zck
 len:safe≤rs.length
 safe:∀ j:Nat,(j:Int)<(zc2 rs safe).next→zlB S 0 j=zc4 S 0 j
def zgu (size:Int)(S:zsg)(rs:List (List UInt8))(safe:Nat):Prop:=
 ∀ p,(S.mount p).WF→FineS (zrM size) (S.mount p)∧∃ m,safe≤m∧m≤rs.length∧zq0 (zc4 (S.mount p) 0) size.toNat 0 t0 (rs.take m) (zc2 rs m)
theorem ziS {size:Int}{S:zsg}{rs:List (List UInt8)}{safe:Nat}(hf:FineP (zrM size) S){f:Nat→List UInt8}(hpre:∀ k,k≤rs.length→ChainL f size.toNat 0 t0 (rs.take k) (zc2 rs k))(hnext:∀ k,(hk:k<rs.length)→zdJ f size.toNat 0 (zc2 rs k)=some (rs[k],zc2 rs (k+1)))(hend:zdJ f size.toNat 0 (zc2 rs rs.length)=none)
  (heq:zc4 S 0=f) (ok:∀ j:Nat,f j=zck∨(zbj ⟨0,1,(j:Int)⟩ (f j)).isSome=true) (dur:∀ j:Nat,zlB S 0 j=f j∨zlB S 0 j=zck) (len:safe≤rs.length) (hs:∀ j:Nat,(j:Int)<(zc2 rs safe).next→zlB S 0 j=f j):zgu size S rs safe:=by
 intro p hw;obtain⟨h1,h2⟩:=zlR hf hw;have h2:=h2 0 (by decide) (by show (0:Int)<2;decide)
 have hweak:∀ j:Nat,zc4 (S.mount p) 0 j=f j∨zbj ⟨0,1,(j:Int)⟩ (zc4 (S.mount p) 0 j)=none:=fun j=>by
  obtain⟨k,hk⟩:=h2 j;rw[heq] at hk;rcases dur j with e|e
  ·rw[e,zfS] at hk;exact .inl hk
  ·rw[e] at hk
   rcases ok j with e2|e2
   ·rw[e2,zfS] at hk;exact .inl (by rw[hk,e2])
   ·rcases zmm (k:=k) e2 with e3|e3
    ·exact .inr (by rw[hk];exact e3)
    ·exact .inl (by rw[hk];exact e3)
 have hsafe:∀ j:Nat,(j:Int)<(zc2 rs safe).next→zc4 (S.mount p) 0 j=f j:=fun j hj=>by
  obtain⟨k,hk⟩:=h2 j;rw[heq,hs j hj,zfS] at hk;exact hk
 have hrd:∀ j,zcY (zc4 (S.mount p) 0) size.toNat 0 j=zcY f size.toNat 0 j∨zcY (zc4 (S.mount p) 0) size.toNat 0 j=none:=fun j=>by
  unfold zcY;split
  ·exact .inl rfl
  ·rcases hweak j with e|e
   ·rw[e];exact .inl rfl
   ·rw[e];exact .inr rfl
 obtain⟨m,a,b,c⟩:=zjD hrd hnext hend (rs.length - safe) safe (by omega) ((hpre safe len).congr (by decide) fun j hj=>(hsafe j hj).symm);exact⟨h1,m,a,b,c⟩
theorem LogK.next' {f:Nat→List UInt8}{N:Nat}{d:Int}{rs:List (List UInt8)}(h:LogK f N d rs)(k:Nat)(hk:k<rs.length):zdJ f N d (zc2 rs k)=some (rs[k],zc2 rs (k+1)):=by
 obtain⟨t1,e,rfl⟩:=h.next hk
 exact e
theorem CrI.out {size:Int}{S:zsg}{rs:List (List UInt8)}{safe:Nat}(h:CrI size S rs safe)(h2:size≤40)(hl:rs.length≤1000):zgu size S rs safe:=by
 have hlog:=h.log.log (by omega) hl (Nat.le_refl _);exact ziS h.fine h.log.pre h.log.next' hlog.none rfl h.ok h.dur h.len h.safe
theorem CrI.down {size:Int}{S:zsg}{rs:List (List UInt8)}{safe:Nat}(h:CrI size S rs safe)(h2:size≤40)(hl:rs.length≤1000):zgu size { S with off:=true,fused:=false } rs safe:=by
 have hlog:=h.log.log (by omega) hl (Nat.le_refl _);exact ziS (S:={ S with off:=true,fused:=false }) h.fine.down h.log.pre h.log.next' hlog.none rfl h.ok h.dur h.len h.safe
theorem CrI.flush {size:Int}{S:zsg}{rs:List (List UInt8)}{safe:Nat}(h:CrI size S rs safe)(h2:size≤40)(hl:rs.length≤1000):
  ∃ S',(S.flush 0=(S',0)∧CrI size S' rs rs.length)∨(S.flush 0=(S',14)∧zgu size S' rs safe):=by
 rcases h.fine.flush h.on (d:=0) (by decide) (by show (0:Int)<2;decide) with ⟨S',e1,e2,e3,e4,e5⟩|e
 ·exact⟨S',.inl ⟨e1,e3,e2,by rw[e4];exact h.log,by rw[e4];exact h.ok,fun j=>.inl (by rw[e4,e5]),by rw[e4];exact h.rest,Nat.le_refl _,fun j _=>by rw[e4,e5]⟩⟩
 ·exact⟨_,.inr ⟨e,h.down h2 hl⟩⟩
def zcW (c:zsl)(area:Int)(i:Nat):Nat:=if area=2 then c.log.toNat+i else c.log.toNat+c.image.toNat+i
theorem zgE {S:zsg}(hw:S.WF){d area:Int}{i:Nat}(hd:S.state d≠0)(ha:area=2∨area=3)(hi:(i:Int)<S.cfg.image):S.number ⟨d,area,(i:Int)⟩=(zcW S.cfg area i:Int):=by
 have h1:=hw.cfg.log;have h2:=hw.cfg.image;unfold zsg.number zcW;rcases ha with rfl|rfl
 ·have hs:S.cfg.size 2=S.cfg.image:=by simp[zsl.size]
  have hb:S.cfg.base 2=S.cfg.log:=by simp[zsl.base]
  simp only;rw[hs,hb,if_neg (by omega)];rw[if_pos trivial];omega
 ·have hs:S.cfg.size 3=S.cfg.image:=by simp[zsl.size]
  have hb:S.cfg.base 3=S.cfg.log+S.cfg.image:=by simp[zsl.base]
  simp only;rw[hs,hb,if_neg (by omega)];rw[if_neg (by decide)];omega
theorem zkB {S:zsg}(hw:S.WF){d area:Int}{i:Nat}(hd:S.state d=1)(hi:(i:Int)<S.cfg.image):zcW S.cfg area i<(S.disk d).n:=by
 have h1:=zsg.disk_n hw hd;have h2:=hw.cfg.image;have h3:=hw.cfg.rows;have h4:=hw.cfg.log;unfold zsl.sectors at h1;unfold zcW
 split <;> omega
theorem ziN {c:zsl}{S:zsg}(h:FineS c S){d area:Int}{i:Nat}(h0:0≤d)(h1:d<c.disks)(ha:area=2∨area=3)(hi:(i:Int)<c.image):S.read ⟨d,area,(i:Int)⟩=(zc4 S d (zcW c area i),0):=by
 have hst:=h.st d h0 h1
 have hi':(i:Int)<S.cfg.image:=by rw[h.cfg];exact hi
 have hlt:=zkB (area:=area) h.wf hst hi';unfold zsg.read zsg.access;rw[zgE h.wf (by omega) ha hi'];simp only;rw[if_neg (by omega),h.off,hst];simp only[Bool.false_eq_true,if_false,if_true,ne_eq,not_true_eq_false];unfold zsh.read;rw[if_pos (zsh.has_of (by omega) (by omega)),h.cfg]
 rfl
theorem zlr {c:zsl}{S:zsg}(h:FineS c S){d area:Int}(h0:0≤d)(h1:d<c.disks)(ha:area=2∨area=3){i:Nat}(hi:(i:Int)<c.image){s:List UInt8}(hs:s.length=64):
  (S.write ⟨d,area,(i:Int)⟩ s).2=0∧FineS c (S.write ⟨d,area,(i:Int)⟩ s).1∧∀ e:Int,∀ j:Nat,zc4 (S.write ⟨d,area,(i:Int)⟩ s).1 e j=if e=d∧j=zcW c area i then s else zc4 S e j:=by
 have hst:=h.st d h0 h1
 have hi':(i:Int)<S.cfg.image:=by rw[h.cfg];exact hi
 have hlt:=zkB (area:=area) h.wf hst hi';have hnum:=zgE h.wf (d:=d) (by omega) ha hi';rw[h.cfg] at hlt hnum
 generalize zcW c area i=k at *
 have hwr:=zsh.write_ok hlt hs (h.armed d h0 h1 k)
 have hb:d<(S.bays.length:Int):=by rw[h.bays];exact h1
 have he:S.write ⟨d,area,(i:Int)⟩ s=(S.setDisk d { S.disk d with cache:=za7 (S.disk d).cache k (some s) },0):=by
  unfold zsg.write;rw[hnum,if_neg (by omega),zsg.step_run h.off hst h.fused,hwr]
 rw[he]
 refine⟨rfl,⟨?_,h.cfg,h.off,h.fused,fun e e0 e1=>?_,fun e e0 e1 k=>?_⟩,fun e j=>?_⟩
 ·exact h.wf.setDisk (by omega) rfl
 ·simp only
  rw[zsg.setDisk_state h0 hb];exact h.st e e0 e1
 ·simp only
  rw[zsg.setDisk_disk h0 hb];split
  ·exact h.armed d h0 h1 k
  ·exact h.armed e e0 e1 k
 ·unfold zc4
  simp only;rw[zsg.setDisk_disk h0 hb]
  by_cases hed:e=d
  ·subst hed
   rw[if_pos rfl]
   by_cases hj:j=k
   ·subst hj;rw[if_pos ⟨rfl,rfl⟩];simp[zsh.content,za7]
   ·rw[if_neg (by simp[hj])];simp[zsh.content,za7,hj]
  ·rw[if_neg hed,if_neg (by simp[hed])]
theorem zlH {c:zsl}{S:zsg}(h:FineS c S){d:Int}(h0:0≤d)(h1:d<c.disks):(S.flush d).2=0∧FineS c (S.flush d).1∧zc4 (S.flush d).1=zc4 S:=by
 have hst:=h.st d h0 h1
 have hb:d<(S.bays.length:Int):=by rw[h.bays];exact h1
 have he:S.flush d=(S.setDisk d (S.disk d).flush,0):=by
  unfold zsg.flush;rw[if_neg (by omega),zsg.step_run h.off hst h.fused]
 rw[he];refine⟨rfl,⟨h.wf.setDisk (by omega) rfl,h.cfg,h.off,h.fused,fun e e0 e1=>?_,fun e e0 e1 k=>?_⟩,?_⟩
 ·simp only
  rw[zsg.setDisk_state h0 hb];exact h.st e e0 e1
 ·simp only
  rw[zsg.setDisk_disk h0 hb];split
  ·exact h.armed d h0 h1 k
  ·exact h.armed e e0 e1 k
 ·funext e j
  unfold zc4;simp only;rw[zsg.setDisk_disk h0 hb];split
  ·rename_i hed;subst hed;rfl
  ·rfl
theorem zhF (c:zsl)(area:Int)(i:Nat):zcW c area i=zcW c area 0+i:=by unfold zcW;split <;> omega
theorem zhs {c:zsl}{k:CkM}{d area:Int}(h0:0≤d)(h1:d<c.disks)(ha:area=2∨area=3):∀ (m i:Nat) (S:zsg),FineS c S→(i:Int)+(m:Int)≤c.image →
  (zd0 d area k S i m).2=0∧FineS c (zd0 d area k S i m).1∧∀ e:Int,∀ j:Nat,zc4 (zd0 d area k S i m).1 e j=if e=d∧zcW c area i≤j∧j<zcW c area i+m then zbX ⟨d,area,((j - zcW c area 0:Nat):Int)⟩ k.gen (zcs k (j - zcW c area 0)) else zc4 S e j
 | 0,i,S,h,_=>by
  obtain⟨e1,e2,e3⟩:=zlH h h0 h1;refine⟨e1,e2,fun e j=>?_⟩;rw[if_neg (by omega)];exact congrFun (congrFun e3 e) j
 | m+1,i,S,h,hi=>by
  obtain⟨e1,e2,e3⟩:=zlr h h0 h1 ha (i:=i) (by omega) (zgn (a:=⟨d,area,(i:Int)⟩) (g:=k.gen) (zkX k i))
  have ew:zd0 d area k S i (m+1)=zd0 d area k (S.write ⟨d,area,(i:Int)⟩ (zbX ⟨d,area,(i:Int)⟩ k.gen (zcs k i))).1 (i+1) m:=by
   show (if _ then _ else _)=_;rw[if_neg (by rw[e1];simp)]
  rw[ew];obtain⟨f1,f2,f3⟩:=zhs (k:=k) h0 h1 ha m (i+1) _ e2 (by omega);refine⟨f1,f2,fun e j=>?_⟩;rw[f3,e3];have hs1:=zhF c area i;have hs2:=zhF c area (i+1)
  by_cases hed:e=d
  ·by_cases hj:j=zcW c area i
   ·have hz:j - zcW c area 0=i:=by omega
    rw[if_neg (by omega),if_pos ⟨hed,hj⟩,if_pos (by omega),hz]
   ·by_cases hc:zcW c area (i+1)≤j∧j<zcW c area (i+1)+m
    ·rw[if_pos ⟨hed,hc⟩,if_pos (by omega)]
    ·rw[if_neg (by omega),if_neg (by omega),if_neg (by omega)]
  ·rw[if_neg (by omega),if_neg (by omega),if_neg (by omega)]
def zmu (c:zsl)(S:zsg)(d area:Int)(k:CkM):Prop:=∀ i:Nat,i<zaR k+1→zc4 S d (zcW c area i)=zbX ⟨d,area,(i:Int)⟩ k.gen (zcs k i)
structure CkFits (c:zsl)(k:CkM):Prop where
 seq:0≤k.seq∧k.seq<9223372036854775808
 gen:zcQ k.gen=true
 len:(k.image.length:Int)≤zda c
theorem CkFits.parts {c:zsl}(hc:c.WF){k:CkM}(h:CkFits c k):(zaR k:Int)+1≤c.image∧zaR k≤65535∧k.image.length≤2621440:=by
 have h1:=hc.image;have h2:=zgY h1.2 h1.1 h.len;refine⟨?_,h2⟩;have h3:=h.len;unfold zda at h3
 unfold zaR at *
 omega
theorem zkM {c:zsl}{S:zsg}(h:FineS c S){d area:Int}(h0:0≤d)(h1:d<c.disks)(ha:area=2∨area=3){k:CkM}(hk:CkFits c k)(hh:zmu c S d area k){i:Nat}(hi:i<zaR k+1):
  zb5 S d area (i:Int)=some (k.gen,zcs k i++zba (40 - (zcs k i).length)):=by
 have hwf:c.WF:=by have:=h.wf.cfg;rw[h.cfg] at this;exact this
 obtain⟨p1,p2,p3⟩:=hk.parts hwf;have hd:=hwf.disks;unfold zb5;rw[ziN h h0 h1 ha (by omega)];simp only;rw[hh i hi];exact znv (zei ⟨h0,by omega⟩ ha hk.gen p2 i hi)
theorem zm5 {c:zsl}{S:zsg}(h:FineS c S){d area:Int}(h0:0≤d)(h1:d<c.disks)(ha:area=2∨area=3){k:CkM}(hk:CkFits c k)(hh:zmu c S d area k):∀ m:Nat,m≤zaR k →
  ∃ z:List UInt8,zeP S d area k.gen m=some (k.image.take (40*m)++z)∧(40*m≤k.image.length→z=[])
 | 0,_=>⟨[],by simp[zeP],fun _=>rfl⟩
 | m+1,hm=>by
  obtain⟨z,e1,e2⟩:=zm5 h h0 h1 ha hk hh m (by omega);have e3:=zkM h h0 h1 ha hk hh (i:=m+1) (by omega)
  have hmm:40*m≤k.image.length:=by unfold zaR at hm;omega
  have hz:=e2 hmm;subst hz
  have hp:zcs k (m+1)=(k.image.drop (40*m)).take 40:=by unfold zcs;rw[if_neg (by omega)];rfl
  refine⟨zba (40 - (zcs k (m+1)).length),?_,fun h3=>?_⟩
  ·unfold zeP
   rw[e1];simp only;rw[show ((m:Int)+1)=((m+1:Nat):Int) by omega,e3];simp only;rw[if_pos trivial,List.append_nil,← List.append_assoc];congr 2;rw[hp,show 40*(m+1)=40*m+40 by omega,List.take_add]
  ·rw[hp,List.length_take,List.length_drop]
   have:min 40 (k.image.length - 40*m)=40:=by omega
   rw[this];rfl
theorem zkN {c:zsl}{S:zsg}(h:FineS c S){d area:Int}(h0:0≤d)(h1:d<c.disks)(ha:area=2∨area=3){k:CkM}(hk:CkFits c k)(hh:zmu c S d area k):zaS S d area=(k,0):=by
 have hst:=h.st d h0 h1;have e0:zb5 S d area 0=some (k.gen,zcs k 0++zba (40 - (zcs k 0).length)):=zkM h h0 h1 ha hk hh (i:=0) (by omega)
 have hacc:S.access d=0:=by unfold zsg.access;rw[if_neg (by simp[h.off]),if_pos hst]
 unfold zaS;rw[if_neg (by omega),if_neg (by rw[hacc];simp),e0];simp only;have hseq:=hk.seq
 have hwf:c.WF:=by have:=h.wf.cfg;rw[h.cfg] at this;exact this
 obtain⟨p1,p2,p3⟩:=hk.parts hwf
 have hhead:zdk (zcs k 0++zba (40 - (zcs k 0).length)) (zda S.cfg)=some (k.seq,k.image.length):=by
  generalize zba (40 - (zcs k 0).length)=z;unfold zdk zcs;rw[if_pos rfl,List.append_assoc,zi0 k.seq.toNat (by omega)];simp only;rw[List.drop_left,zi0 k.image.length (by omega)];simp only;rw[if_pos ⟨by omega,by omega,by rw[h.cfg];exact hk.len⟩,Int.toNat_of_nonneg hseq.1,Int.toNat_natCast]
 rw[hhead];simp only;obtain⟨z,e1,_⟩:=zm5 h h0 h1 ha hk hh (zaR k) (Nat.le_refl _);rw[show (k.image.length+39) / 40=zaR k from rfl,e1];simp only
 have hlen:k.image.length≤40*zaR k:=by unfold zaR;omega
 rw[List.take_of_length_le (l:=k.image) hlen,List.take_left]
theorem zf1 {c:zsl}{S:zsg}(h:FineS c S){d area:Int}(h0:0≤d)(h1:d<c.disks)(ha:area=2∨area=3)(hz:zc4 S d (zcW c area 0)=zck):zaS S d area=(ck0,12):=by
 have hst:=h.st d h0 h1
 have hacc:S.access d=0:=by unfold zsg.access;rw[if_neg (by simp[h.off]),if_pos hst]
 have hwf:c.WF:=by have:=h.wf.cfg;rw[h.cfg] at this;exact this
 have hi:=hwf.image
 have e0:zb5 S d area 0=none:=by
  unfold zb5;have:=ziN h h0 h1 ha (i:=0) (by omega);rw[show ((0:Nat):Int)=0 from rfl] at this;rw[this,hz];exact zoo _
 unfold zaS;rw[if_neg (by omega),if_neg (by rw[hacc];simp),e0]
theorem zge {c:zsl}{S:zsg}(h:FineS c S){d:Int}(h0:0≤d)(h1:d<c.disks)(hz2:zc4 S d (zcW c 2 0)=zck)(hz3:zc4 S d (zcW c 3 0)=zck):zbs S d=(0,ck0,12):=by
 unfold zbs;rw[zf1 h h0 h1 (.inl rfl) hz2,zf1 h h0 h1 (.inr rfl) hz3]
 rfl
theorem zgh {c:zsl}{S:zsg}(h:FineS c S){d:Int}(h0:0≤d)(h1:d<c.disks){k:CkM}(hk:CkFits c k)(hh:zmu c S d 2 k)(hz3:zc4 S d (zcW c 3 0)=zck):zbs S d=(2,k,0):=by
 unfold zbs;rw[zkN h h0 h1 (.inl rfl) hk hh,zf1 h h0 h1 (.inr rfl) hz3]
 rfl
def zqU (c:zsl)(S:zsg):Prop:=∀ d:Int,0≤d→d<c.disks→zc4 S d=fun _=>zck
theorem zlx {c:zsl}{S:zsg}(h:FineS c S)(hz:zqU c S):zf4 S=(ck0,12):=by
 have hk:∀ n:Nat,(n:Int)≤c.disks→zb7 S n=(ck0,12):=by
  intro n
  induction n with
  | zero=>intro _;rfl
  | succ n ih =>
   intro hn;unfold zb7;have hzn:=hz (n:Int) (by omega) (by omega);rw[zge h (by omega) (by omega) (by rw[hzn]) (by rw[hzn]),ih (by omega)]
   rfl
 unfold zf4;rw[if_neg (by rw[h.off];decide),h.cfg];refine hk _ ?_;have hwf:=h.wf.cfg.disks;rw[h.cfg] at hwf;omega
structure SvI (c:zsl)(k:CkM)(S:zsg)(n:Nat):Prop where
 fine:FineS c S
 has:∀ d:Int,0≤d→d<(n:Int)→zmu c S d 2 k∧zc4 S d (zcW c 3 0)=zck
 rest:∀ d:Int,(n:Int)≤d→d<c.disks→zc4 S d=fun _=>zck
theorem zn6 {c:zsl}{k:CkM}(hk:CkFits c k):∀ (m n:Nat) (S:zsg) (l:List (Nat×Int)),SvI c k S n→(n:Int)+(m:Int)=c.disks →
  ∃ S',za6 k S l n m=(S',l++(List.range' n m).map (fun j=>(j,2)),0)∧SvI c k S' (n+m)
 | 0,n,S,l,h,_=>⟨S,by simp[za6],h⟩
 | m+1,n,S,l,h,hn=>by
  have hwf:c.WF:=by have:=h.fine.wf.cfg;rw[h.fine.cfg] at this;exact this
  obtain⟨p1,p2,p3⟩:=hk.parts hwf;have hi:=hwf.image;have hlg:=hwf.log
  have h0:0≤(n:Int):=by omega
  have h1:(n:Int)<c.disks:=by omega
  have hz:=h.rest (n:Int) (by omega) h1;have hnew:=zge h.fine h0 h1 (by rw[hz]) (by rw[hz])
  have hnx:zc7 S (n:Int)=2:=by unfold zc7;rw[hnew];rfl
  obtain⟨f1,f2,f3⟩:=zhs (c:=c) (k:=k) h0 h1 (.inl rfl) (zaR k+1) 0 S h.fine (by omega)
  have hJ2:∀ i,zcW c 2 i=c.log.toNat+i:=fun i=>rfl
  have hJ3:zcW c 3 0=c.log.toNat+c.image.toNat:=rfl
  have hI:SvI c k (zbH S (n:Int) 2 k).1 (n+1):=by
   refine⟨f2,fun d d0 d1=>?_,fun d d0 d1=>?_⟩
   ·by_cases hd:d=(n:Int)
    ·subst hd
     refine⟨fun i hi2=>?_,?_⟩
     ·show zc4 (zd0 _ _ _ _ _ _).1 _ _=_
      rw[f3,hJ2 i,hJ2 0,if_pos ⟨rfl,by omega,by omega⟩,show c.log.toNat+i - (c.log.toNat+0)=i by omega]
     ·show zc4 (zd0 _ _ _ _ _ _).1 _ _=_
      rw[f3,hJ3,hJ2 0,if_neg (by omega),hz]
    ·obtain⟨g1,g2⟩:=h.has d d0 (by omega)
     refine⟨fun i hi2=>?_,?_⟩
     ·show zc4 (zd0 _ _ _ _ _ _).1 _ _=_
      rw[f3,if_neg (by omega)];exact g1 i hi2
     ·show zc4 (zd0 _ _ _ _ _ _).1 _ _=_
      rw[f3,if_neg (by omega)];exact g2
   ·funext j
    show zc4 (zd0 _ _ _ _ _ _).1 _ _=_;rw[f3,if_neg (by omega),h.rest d (by omega) d1]
  obtain⟨S',e1,e2⟩:=zn6 hk m (n+1) (zbH S (n:Int) 2 k).1 (l++[(n,2)]) hI (by omega);refine⟨S',?_,by rw[show n+(m+1)=n+1+m by omega];exact e2⟩;unfold za6;rw[if_neg (by rw[h.fine.st _ h0 h1];simp),hnx,if_neg (by rw[show (zbH S (n:Int) 2 k).2=0 from f1];simp),e1];simp[List.range'_succ]
theorem zly {c:zsl}{S:zsg}(h:FineS c S)(hz:zqU c S){k:CkM}(hk:CkFits c k):∃ S',zdc S k=(S',c.disks,0)∧FineS c S'∧zf4 S'=(k,0):=by
 have hwf:c.WF:=by have:=h.wf.cfg;rw[h.cfg] at this;exact this
 have hd:=hwf.disks;obtain⟨S',e1,e2⟩:=zn6 hk c.disks.toNat 0 S [] ⟨h,fun d d0 d1=>absurd d1 (by omega),fun d d0 d1=>hz d d0 d1⟩ (by omega);rw[Nat.zero_add] at e2;refine⟨S',?_,e2.fine,?_⟩
 ·have hbad:¬ zdq k:=by
   unfold zdq;have:=hk.seq;rw[hk.gen];simp;omega
  have hcnt:zen S' k ((List.range' 0 c.disks.toNat).map fun j=>(j,2))=c.disks.toNat:=by
   unfold zen;rw[List.filter_eq_self.2]
   ·simp
   ·intro x hx
    obtain⟨j,hj,rfl⟩:=List.mem_map.1 hx;have hj2:=List.mem_range'.1 hj;obtain⟨i,hi1,hi2⟩:=hj2
    have hj3:j<c.disks.toNat:=by omega
    simp only[decide_eq_true_eq];exact zkN e2.fine (by omega) (by omega) (.inl rfl) hk (e2.has _ (by omega) (by omega)).1
  unfold zdc;rw[if_neg hbad,if_neg (by rw[h.cfg];have:=hk.len;omega),if_neg (by rw[h.off];decide),h.cfg,e1];simp only[List.nil_append];rw[if_neg (by simp),if_neg,hcnt,Int.toNat_of_nonneg (by omega)];intro h9;have:=congrArg List.length h9;simp at this;omega
 ·have hkk:∀ n:Nat,(n:Int)+1≤c.disks→zb7 S' (n+1)=(k,0):=by
   intro n
   induction n with
   | zero =>
    intro hn;obtain⟨g1,g2⟩:=e2.has 0 (by omega) (by omega);unfold zb7;rw[show ((0:Nat):Int)=0 from rfl,zgh e2.fine (by omega) (by omega) hk g1 g2]
    rfl
   | succ n ih =>
    intro hn;obtain⟨g1,g2⟩:=e2.has ((n+1:Nat):Int) (by omega) (by omega);unfold zb7;rw[zgh e2.fine (by omega) (by omega) hk g1 g2,ih (by omega)]
    split <;> rfl
  unfold zf4;rw[if_neg (by rw[e2.fine.off];decide),e2.fine.cfg];obtain⟨n,hn⟩:∃ n,c.disks.toNat=n+1:=⟨c.disks.toNat - 1,by omega⟩;rw[hn];exact hkk n (by omega)
end Go.Proofs.YtmcclbiaoeilkaaGreat
end
