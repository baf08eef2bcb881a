import Derived.Test.YtmcclbiaoeilkaaGreatQ25
import Derived.Test.YtmcclbiaoeilkaaGreatQ24
import Derived.Test.YtmcclbiaoeilkaaGreatQ21
set_option maxHeartbeats 4000000
set_option maxRecDepth 100000
/- Part 26 of a proof;the last part says what is proved. -/
section
namespace Go.Proofs.YtmcclbiaoeilkaaGreat
open Go.Proofs.Tryz Go.RowKit Go.Sl Go.ChangeMaps
structure OpN where
 kind:Int
 at_:zsj
 dst:zsj
 n:Int
 fill:UInt8
 size:Int
 picks:List Int
def OpN.len (o:OpN):Nat:=(max 0 (min o.size 100)).toNat
def zls (f:UInt8)(k:Nat):UInt8:=f+UInt8.ofNat (k%3)
def OpN.text (o:OpN):List UInt8:=(List.range o.len).map (zls o.fill)
def opN (o:OpN)(v:Value):Array Value:=#[.int .i64 o.kind,.int .i64 o.at_.disk,.int .i64 o.at_.area,.int .i64 o.at_.index,.int .i64 o.dst.disk,.int .i64 o.dst.area,.int .i64 o.dst.index,.int .i64 o.n,.int .u8 (o.fill.toNat:Int),.int .i64 o.size,v]
abbrev TOp:TypeId:=40
abbrev TB:TypeId:=5
theorem zmE (f:UInt8)(k:Nat):((f.toNat:Int)+(k:Int)%3)%256=((zls f k).toNat:Int):=by
 unfold zls;rw[UInt8.toNat_add,UInt8.toNat_ofNat'];omega
structure zpS (w:World)(o:OpN)(pv:Value)(B g:Nat)(F:zsi)(i:Value)(wr:World):Prop where
 st:∃ (k:Nat) (cur:Array Value),k≤o.len∧i = .int .i64 k∧Same w wr∧cur.size=o.len∧(∀ j,j<k→cur[j]?=some (.int .u8 ((zls o.fill j).toNat:Int)))∧Sat wr (pts B (.cells (opN o pv) TOp (0,0))*(pts g (.cells cur TB (0,0))*F))
theorem zli (o:OpN)(pv:Value)(w:World):
  Calls prog 44 #[.agg (opN o pv)] w fun e w'=>e = .returned (.string (zae o.text))∧Hid (Below w.heap.size w w'):=by
 obtain⟨i0,hi,hz0,hz1,hz2⟩:=info_parts (show (prog.info? TB).map (fun i=>(i.zero,i.size,i.bytes))=some (some (.int .u8 0),1,1) from by kernel_rfl)
 have hn:o.len≤100:=by unfold OpN.len;omega
 have hni:(o.len:Int)=max 0 (min o.size 100):=by unfold OpN.len;omega
 obtain⟨n,hnn⟩:∃ n,n=o.len:=⟨_,rfl⟩;rw[← hnn] at hn hni;have HN:=zh hnn;have HNI:=zh hni
 have hk6:prog.cellsOf TOp=11:=by kernel_rfl
 clear hnn hni;go_enter func44,ntmps44;go_upto_region 1 with (fail)
 have hs0:=(Sat.old w).alloc (.cells (opN o pv) TOp);have hsm0:=(Same.refl w).alloc (.cells (opN o pv) TOp);generalize w.alloc (.cells (opN o pv) TOp)=w1 at hs0 hsm0 ⊢;generalize w.heap.size=B at hs0 ⊢
 have c4:w1.cell? ⟨B,9,none⟩=some (.int .i64 o.size):=by rw[zab hs0.block];rfl
 have H0:=(zd hsm0 hs0);clear hs0 hsm0;go_wp2_with (at_make;rw[← HNI.out];refine wpList_make_full _ rfl _ _ 69 rfl w1.heap.size TB i0 (.int .u8 0) 1 underlying69 hi hz0 hz1 .i64 .i64 _ _ n rfl rfl ?_ ?_ ?_ ?_ ?_ ?_)
 all_goals first|rfl|omega|(rw[hz2];omega)|(unfold maxLen;omega)|exact Nat.zero_le _|exact Nat.le_refl _|skip
 intro w2 hown hg;have hs2:=Sat.ownRow H0.out.2 (fun k hk=>hg.block k hk (by simp)) (Nat.le_refl _) hown;have hsm2:Same w w2:=H0.out.1.trans ⟨hg.os,hg.tape,hg.output,hg.size⟩;rcases za4.1 hs2 with ⟨h,_⟩|⟨g,cap,cur,⟨hv,_,_,hcs,_,_⟩,hs3⟩
 ·simp at h
 injection hv with hv1 hv2 hv3
 obtain rfl:w1.heap.size=g:=by simpa using hv1
 subst hv3;have hst:zpS w o pv B w1.heap.size (old w) (.int .i64 0) w2:=⟨⟨0,cur,Nat.zero_le _,rfl,hsm2,by rw[hcs,← HN.out,Nat.mul_one],by intro j hj;omega,hs3.perm (by ac_rfl)⟩⟩;have HST:=zh hst;clear hst hs3 hs2 hsm2 hown hg hcs c4;generalize w1.heap.size=g at HST ⊢;go_wp2
 go_loopw [4] (fun i wr=>zpS w o pv B g (old w) i wr) (fun i _=>n - (intOf i).toNat)
 case atStart=>exact HST.out
 case round =>
  obtain⟨k,cur,hk,rfl,hsm,hcz,hcells,hs⟩:=hrel.st;clear hrel;rw[← HN.out] at hk hcz
  have c3:wr.cell? ⟨B,8,none⟩=some (.int .u8 (o.fill.toNat:Int)):=by rw[zab hs.block];rfl
  have HS:=(zd hsm hs);have HC:=zh hcells;clear hsm hcells
  by_cases hlt:k<n
  ·have hltd:decide ((k:Int)<(n:Int))=true:=decide_eq_true (by omega)
   have hki:(k:Int)≤100:=by omega
   have hk0:(0:Int)≤(k:Int):=by omega
   have hkn:(k:Int)<(n:Int):=by omega
   obtain⟨u,hu⟩:∃ u,cur[k]?=some u:=⟨_,Array.getElem?_eq_getElem (by omega)⟩
   have ck:wr.cell? ⟨g,k,none⟩=some u:=by rw[zab hs.right.block];exact hu
   have fk:wr.frozen? ⟨g,k,none⟩=false:=zaj hs.right.block _;clear hs;go_wp2;rw[zmE];refine⟨⟨k+1,cur.setIfInBounds k (.int .u8 ((zls o.fill k).toNat:Int)),by rw[← HN.out];omega,rfl,HS.out.1.setCell _ _,by rw[Array.size_setIfInBounds,hcz,← HN.out],?_,?_⟩,by simp only[intOf];omega⟩
   ·intro j hj
    rw[Array.getElem?_setIfInBounds];split
    ·rename_i hkj;subst hkj;rw[if_pos (by omega)]
    ·exact HC.out j (by omega)
   ·exact ((HS.out.2.perm (show _=pts g (.cells cur TB (0,0))*(pts B (.cells (opN o pv) TOp (0,0))*old w) from by ac_rfl)).setCell (i:=k) (.int .u8 ((zls o.fill k).toNat:Int))).perm (by ac_rfl)
  ·obtain rfl:k=n:=by omega
   have hltd:decide ((k:Int)<(k:Int))=false:=decide_eq_false (by omega)
   have hlen:o.text.length=k:=by rw[HN.out];simp[OpN.text]
   have hcv:(convert 69 9 (.slice (some ⟨g,0,none⟩) k k)).run prog wr = .ok (.string (zae o.text)) wr:=by
    have:=run_convert_bytes_back (P:=prog) wr 69 9 5 ⟨g,0,none⟩ k o.text underlying69 underlying5 underlying9 (by
     intro j hj;rw[Addr.add_mid,zab hs.right.block,Nat.zero_add,HC.out j (by omega)]
     simp[OpN.text])
    rw[hlen] at this;exact this
   clear hs;go_wp2_with ((with_reducible (refine zaT ?_ (zaD ?_ ?_ hcv) ?_));rfl;rfl;rfl);go_ret;exact⟨rfl,HS.out.1.below_of (HS.out.2.perm (show _=pts B (.cells (opN o pv) TOp (0,0))*pts g (.cells cur TB (0,0))*old w from by ac_rfl))⟩
def zjw (c:zsl):Int:=wrap64 (wrap64 (c.log+wrap64 (2*c.image))+c.rows)
theorem zhe (c:zsl)(w:World):Calls prog 32 #[.agg (za8 c)] w fun e w'=>e = .returned (.int .i64 (zjw c))∧Hid (Below w.heap.size w w'):=by
 go_enter func32,ntmps32;go_wp2;go_ret;exact⟨rfl,(Below.refl _ _).alloc (Nat.le_refl _) _⟩
def zhZ (c:zsl):Bool:=decide (c.disks≤6)&&decide (c.log≤24)&&decide (c.image≤24)&&decide (c.rows≤24)&&decide (zjw c≤24)
theorem zn0 (c:zsl)(w:World):Calls prog 27 #[.agg (za8 c)] w fun e w'=>e = .returned (.bool (zhZ c))∧Hid (Below w.heap.size w w'):=by
 have he:zhZ c=(decide (c.disks≤6)&&decide (c.log≤24)&&decide (c.image≤24)&&decide (c.rows≤24)&&decide (zjw c≤24)):=rfl
 have hs:=fun w=>zhe c w
 obtain⟨x,hx⟩:∃ x,zjw c=x:=⟨_,rfl⟩;rw[hx] at he hs;have HS:=zh hs;clear hs hx;cases h1:decide (c.disks≤6)
 ·rw[he,h1];clear he
  go_enter func27,ntmps27;go_wp2;go_ret;exact⟨rfl,(Below.refl _ _).alloc (Nat.le_refl _) _⟩
 cases h2:decide (c.log≤24)
 ·rw[he,h1,h2];clear he
  go_enter func27,ntmps27;go_wp2;go_ret;exact⟨rfl,(Below.refl _ _).alloc (Nat.le_refl _) _⟩
 cases h3:decide (c.image≤24)
 ·rw[he,h1,h2,h3];clear he
  go_enter func27,ntmps27;go_wp2;go_ret;exact⟨rfl,(Below.refl _ _).alloc (Nat.le_refl _) _⟩
 cases h4:decide (c.rows≤24)
 ·rw[he,h1,h2,h3,h4];clear he
  go_enter func27,ntmps27;go_wp2;go_ret;exact⟨rfl,(Below.refl _ _).alloc (Nat.le_refl _) _⟩
 rw[he,h1,h2,h3,h4];clear he;go_enter func27,ntmps27;go_wp2_with (go_at_call 32;refine (HS.out _).mono ?_;rintro e w1 ⟨rfl,hb⟩);go_ret;exact⟨rfl,Below.trans ((Below.refl _ _).alloc (Nat.le_refl _) _) (hb.out.mono (by simp))⟩
end Go.Proofs.YtmcclbiaoeilkaaGreat
end
section
namespace Go.Sl
open Go Go.RowKit
def zbA (T:RfT):List Nat→List zsh→zsi
 | p::ps,D::Ds=>zbF T p D*zbA T ps Ds
 | _,_=>emp
theorem zg4 {T:RfT}:∀ (ps:List Nat) (Ds:List zsh) (q:Nat) (D:zsh),ps.length=Ds.length→zbA T (ps++[q]) (Ds++[D])=zbA T ps Ds*zbF T q D
 | [],[],q,D,_=>by show zbF T q D*emp=emp*zbF T q D;rw[zgy,zaL]
 | p::ps,E::Ds,q,D,h=>by
  show zbF T p E*zbA T (ps++[q]) (Ds++[D])=zbF T p E*zbA T ps Ds*zbF T q D;rw[zg4 ps Ds q D (by simpa using h),zax]
 | [],_::_,_,_,h=>by simp at h
 | _::_,[],_,_,h=>by simp at h
theorem zed {T:RfT}:∀ (ps:List Nat) (Ds:List zsh) (k:Nat),k<ps.length→k<Ds.length→∃ R,∀ q D,zbA T (ps.set k q) (Ds.set k D)=zbF T q D*R
 | p::ps,D::Ds,0,_,_=>⟨zbA T ps Ds,fun q D=>rfl⟩
 | p::ps,D::Ds,k+1,h1,h2=>by
  obtain⟨R,hR⟩:=zed ps Ds k (by simpa using h1) (by simpa using h2);refine⟨zbF T p D*R,fun q D'=>?_⟩;show zbF T p D*zbA T (ps.set k q) (Ds.set k D')=_;rw[hR];ac_rfl
def rsC (c:zsl)(vb vs vi:Value)(on:Bool)(left:Int):Array Value:=
 #[c.disks,c.racks,c.rows,c.spare,c.log,c.image,vb,vs,vi,.bool on,left]
structure RsT where
 sh:TypeId
 ptr:TypeId
 int:TypeId
 rf:RfT
def zsg.rleft (S:zsg):Int:=if S.fused then S.left else -1
def stV (b:zsk):Value:=.int .i64 b.state
def zad (T:RsT)(p:Nat)(S:zsg):zsi:=ex fun vb:Value=>ex fun vs:Value=>ex fun vi:Value=>ex fun ps:List Nat=>ex fun qs:List Nat=>lift (S.WF∧ps.length=S.bays.length∧qs.length=S.images.length) *
 (pts p (.cells (rsC S.cfg vb vs vi (!S.off) S.rleft) T.sh (0,0))*(zaf T.ptr 1 vb S.bays.length (ps.map zaB)*(zaf T.int 1 vs S.bays.length (S.bays.map stV)*(zaf T.ptr 1 vi S.images.length (qs.map zaB) *
  (zbA T.rf ps (S.bays.map zsk.disk)*zbA T.rf qs S.images)))))
theorem za9 {T:RsT}{p:Nat}{S:zsg}{w:World}{F:zsi}:Sat w (zad T p S*F)↔∃ vb vs vi ps qs,(S.WF∧ps.length=S.bays.length∧qs.length=S.images.length)∧
  Sat w (pts p (.cells (rsC S.cfg vb vs vi (!S.off) S.rleft) T.sh (0,0))*(zaf T.ptr 1 vb S.bays.length (ps.map zaB)*(zaf T.int 1 vs S.bays.length (S.bays.map stV)*(zaf T.ptr 1 vi S.images.length (qs.map zaB) *
  (zbA T.rf ps (S.bays.map zsk.disk)*(zbA T.rf qs S.images*F)))))):=by
 simp only[zad,Sat.ex,zax,Sat.lift]
theorem zbm {T:RsT}{p:Nat}{S:zsg}{w:World}{F:zsi}(h:Sat w (zad T p S*F)):S.WF:=by
 obtain⟨_,_,_,_,_,h,_⟩:=za9.1 h;exact h.1
theorem zbN {w:World}{p:Nat}{c:zsl}{vb vs vi:Value}{on:Bool}{left:Int}{T:TypeId}{F:zsi}(h:Sat w (pts p (.cells (rsC c vb vs vi on left) T (0,0))*F)):
  (w.cell? ⟨p,6,none⟩=some vb∧w.cell? ⟨p,7,none⟩=some vs∧w.cell? ⟨p,8,none⟩=some vi∧w.cell? ⟨p,9,none⟩=some (.bool on)∧w.cell? ⟨p,10,none⟩=some (.int .i64 left))∧p<w.heap.size∧w.rangeAt p 0 (zfa c):=by
 have hb:=zab h.block
 refine⟨⟨hb 6,hb 7,hb 8,hb 9,hb 10⟩,h.lt,fun j u hu=>?_⟩
 rw[hb,Nat.zero_add]
 match j,hu with
 | 0,hu=>exact hu
 | 1,hu=>exact hu
 | 2,hu=>exact hu
 | 3,hu=>exact hu
 | 4,hu=>exact hu
 | 5,hu=>exact hu
 | _+6,hu=>simp[zfa] at hu
end Go.Sl
namespace Go.Proofs.YtmcclbiaoeilkaaGreat
open Go.Proofs.Tryz Go.RowKit Go.Sl Go.ChangeMaps
abbrev ze9:TypeId:=86
abbrev TRp:TypeId:=87
abbrev RS:RsT:=⟨ze9,TRp,3,RT⟩
theorem zk9 {c:zsl}(h:c.ok=true):zjw c=c.sectors:=by
 unfold zsl.ok inB at h;simp only[Bool.and_eq_true,decide_eq_true_eq] at h;obtain⟨⟨⟨⟨⟨⟨⟨a1,a2⟩,b1,b2⟩,c1,c2⟩,d1,d2⟩,e1,e2⟩,f1,f2⟩,_⟩:=h;unfold zjw zsl.sectors wrap64;omega
theorem zl9 (c:zsl)(F:zsi)(w:World)(hF:Sat w F)(hok:c.ok=false):
  Calls prog 8 #[.agg (za8 c)] w fun e w'=>e = .returned (.tuple #[.pointer none,.int .i64 1])∧Hid (Same w w'∧Sat w' F):=by
 have hc:=zhS c (w.alloc (.cells (za8 c) zcC));rw[if_neg (by rw[hok];decide)] at hc;have HF:=zh hF;clear hF hok;go_enter func8,ntmps8;go_wp2_with (go_at_call 31;refine hc.mono ?_;rintro e w1 ⟨rfl,hb⟩;have HB:=zh hb;clear hb hc);go_ret2;exact⟨rfl,((Same.refl w).alloc _).below HB.out,(HF.out.allocKeep _).below HB.out⟩
structure zrI (w:World)(p B0:Nat)(c:zsl)(F:zsi)(i:Value)(wr:World):Prop where
 st:∃ (k:Nat) (ps:List Nat) (vb vs:Value),(k:Int)≤c.disks∧i = .int .i64 k∧ps.length=k∧Same w wr∧Sat wr (pts p (.cells (rsC c vb vs (.slice none 0 0) true (-1)) ze9 (0,0))*(zaf TRp 1 vb k (ps.map zaB)*(zaf 3 1 vs k (List.replicate k (.int .i64 1)) *
  (zbA RT ps (List.replicate k (zsh.new c.sectors))*(pts B0 (.cells (za8 c) zcC (0,0))*F)))))
theorem znb:(prog.info? TRp).map (fun i=>(i.zero,i.size,i.bytes))=some (some (.pointer none),1,8):=by kernel_rfl
theorem zqi:(prog.info? 3).map (fun i=>(i.zero,i.size,i.bytes))=some (some (.int .i64 0),1,8):=by kernel_rfl
theorem znr (w:World)(c:Int):∀ j u,[Value.int .i64 c][j]?=some u→(w.alloc (.cells #[c] 3)).cell? ((⟨w.heap.size,0,none⟩:Addr).add j)=some u:=by
 intro j u hu
 match j,hu with
 | 0,hu=>rw[Addr.add_mid,zab (heap_alloc_new _ _)];simpa using hu
theorem znN (c:zsl)(F:zsi)(w:World)(hF:Sat w F)(hok:c.ok=true)(hsm:c.sectors≤65536):
  Calls prog 8 #[.agg (za8 c)] w fun e w'=>∃ p,e = .returned (.tuple #[.pointer (some ⟨p,0,none⟩),.int .i64 0])∧Hid (Same w w'∧Sat w' (zad RS p (zsg.new c)*F)):=by
 have hc:=zhS c (w.alloc (.cells (za8 c) zcC));rw[if_pos hok] at hc;have hwf:=zqp hok hsm
 have hsec:=fun w'=>zhe c w'
 rw[zk9 hok] at hsec;have hlim:decide (65536<c.sectors)=false:=decide_eq_false (by omega);have HF:=(zd ((Same.refl w).alloc (.cells (za8 c) zcC)) (hF.alloc (.cells (za8 c) zcC)));have HWF:=zh hwf;have hd1:=hwf.disks.1;have hd2:=hwf.disks.2;obtain⟨sc,hsc⟩:∃ sc,c.sectors=sc:=⟨_,rfl⟩;rw[hsc] at hsec hlim;have HSC:=zh hsc;have HSEC:=zh hsec;clear hF hok hsm hwf hsc hsec;go_enter func8,ntmps8
 go_upto_region 6 with (first
  | (go_at_call 31;refine hc.mono ?_;rintro e w1 ⟨rfl,hb⟩;replace HF:=(zd (HF.out.1.below hb) (HF.out.2.below hb));obtain⟨⟨b0,b1,b2⟩,⟨b3,b4,b5⟩,bl,br⟩:=zbo HF.out.2;clear hb hc br)
  | (go_at_call 32;refine (HSEC.out _).mono ?_;rintro e w2 ⟨rfl,hb⟩;replace HF:=(zd (HF.out.1.below hb.out) (HF.out.2.below hb.out));clear b0 b1 b2 b3 b4 b5 bl;obtain⟨⟨b0,b1,b2⟩,⟨b3,b4,b5⟩,bl,br⟩:=zbo HF.out.2;clear hb br))
 go_upto_region 8 with (fail);have hA:=(HF.out.2.alloc (.cells (rsC c (.slice none 0 0) (.slice none 0 0) (.slice none 0 0) true (-1)) ze9));have hSm:=HF.out.1.alloc (.cells (rsC c (.slice none 0 0) (.slice none 0 0) (.slice none 0 0) true (-1)) ze9);clear HF b0 b1 b2 b3 b4 b5 bl;unfold rsC at hA hSm;generalize w2.alloc (.cells _ ze9)=W at hA hSm ⊢;generalize w2.heap.size=p at hA ⊢;generalize w.heap.size=B0 at hA ⊢;have HA:=(zd hSm hA);clear hA hSm
 go_loopw [6] (fun i wr=>zrI w p B0 c F i wr) (fun i _=>c.disks.toNat - (intOf i).toNat)
 case atStart =>
  have h0:Sat W (zaf TRp 1 (.slice none 0 0) 0 []*(pts p (.cells (rsC c (.slice none 0 0) (.slice none 0 0) (.slice none 0 0) true (-1)) ze9 (0,0))*(emp*(pts B0 (.cells (za8 c) zcC (0,0))*F)))):=zbp.2 (by rw[zaL];exact HA.out.2);have h1:Sat W (zaf 3 1 (.slice none 0 0) 0 []*_):=zbp.2 h0;exact⟨0,[],.slice none 0 0,.slice none 0 0,by omega,rfl,rfl,HA.out.1,h1.perm (by show _=pts p _*(zaf TRp 1 _ 0 []*(zaf 3 1 _ 0 []*(emp*_)));unfold rsC;ac_rfl)⟩
 case round =>
  obtain⟨k,ps,vb,vs,hk,rfl,hps,hsm,hs⟩:=hrel.st;clear hrel HA;have H1:=(zd hsm hs);have HPS:=zh hps;have hp6:wr.cell? ⟨p,6,none⟩=some vb:=zab hs.block 6
  obtain⟨⟨b0,_,_⟩,_,hp,hra⟩:=zbo (hs.perm (show _=pts B0 (.cells (za8 c) zcC (0,0))*(pts p (.cells (rsC c vb vs (.slice none 0 0) true (-1)) ze9 (0,0))*(zaf TRp 1 vb k (ps.map zaB)*(zaf 3 1 vs k (List.replicate k (.int .i64 1)) *
   (zbA RT ps (List.replicate k (zsh.new c.sectors))*F)))) from by ac_rfl))
  clear hsm hs hps
  by_cases hlt:(k:Int)<c.disks
  ·have hltd:decide ((k:Int)<c.disks)=true:=decide_eq_true hlt
   go_upto_region 10 with (fail);have hS0:wr.drew.cell? ⟨p,6,none⟩=some vb∧wr.drew.rangeAt B0 0 (zfa c):=⟨hp6,hra⟩;refine zah (fun w'=>w'.cell? ⟨p,6,none⟩=some vb∧w'.rangeAt B0 0 (zfa c)) (by kernel_rfl) ?_;(apply zaa 0 rfl rfl (by kernel_rfl) rfl);(rintro w' ⟨h1,h2⟩;go_simp;rfl);exact hS0;simp only[zq];(apply zaa 1 rfl rfl (by kernel_rfl) rfl);(rintro w' ⟨h1,h2⟩;go_simp;rfl);exact hS0;simp only[zq];(apply zaa 2 rfl rfl (by kernel_rfl) rfl);(rintro w' ⟨h1,h2⟩;go_simp;rfl);exact hS0;simp only[zq];(apply zaa 3 rfl rfl (by kernel_rfl) rfl);(rintro w' ⟨h1,h2⟩;go_simp;rfl);exact hS0;simp only[zq]
   (apply zaa 4 rfl rfl (by kernel_rfl) rfl);(rintro w' ⟨h1,h2⟩;go_simp;rfl);exact hS0;simp only[zq];refine zaa 5 (v:=.agg (za8 c)) rfl rfl (by kernel_rfl) rfl (fun w' h=>zbC rfl rfl (zeT h.2)) hS0 ?_;simp only[zq];refine zan 6 rfl rfl (by kernel_rfl) rfl (f:=32) (args:=#[.agg (za8 c)]) (R:=fun v w'=>v = .int .i64 sc∧Hid (Below wr.heap.size wr w')) (by kernel_rfl) ((HSEC.out wr.drew).mono fun e w' h=>⟨_,h.1,rfl,⟨h.2.out.os,h.2.out.tape,h.2.out.output,h.2.out.size,h.2.out.block⟩⟩) ?_;rintro _ w1 ⟨rfl,hb1⟩
   replace H1:=(zd (H1.out.1.below hb1.out) (H1.out.2.below hb1.out))
   have hS1:w1.cell? ⟨p,6,none⟩=some vb∧w1.rangeAt B0 0 (zfa c):=⟨(hb1.out.cell (p:=⟨p,6,none⟩) (World.block_lt_of_cell? _ _ hp6)).trans hp6,fun j u hu=>(hb1.out.cell (p:=⟨B0,0+j,none⟩) hp).trans (hra j u hu)⟩
   refine⟨hS1,?_⟩;simp only[zq]
   refine zan 7 rfl rfl (by kernel_rfl) rfl (f:=33) (args:=#[.int .i64 sc]) (R:=fun v w'=>∃ q,v = .pointer (some ⟨q,0,none⟩)∧Hid (Same w w'∧Sat w' (zbF RT q (zsh.new c.sectors)*(pts p (.cells (rsC c vb vs (.slice none 0 0) true (-1)) ze9 (0,0))*(zaf TRp 1 vb k (ps.map zaB)*(zaf 3 1 vs k (List.replicate k (.int .i64 1)) *
    (zbA RT ps (List.replicate k (zsh.new c.sectors))*(pts B0 (.cells (za8 c) zcC (0,0))*F)))))))) (by kernel_rfl)
    ((zf7 sc _ w1 H1.out.2).mono fun e w' h=>by
     obtain⟨q',rfl,hX⟩:=h;obtain⟨h1,h2⟩:=hX.out;rw[show zsh.new sc=zsh.new c.sectors by rw[HSC.out]] at h2
     exact⟨_,rfl,q',rfl,H1.out.1.trans h1,h2⟩) ?_
   rintro _ w3 ⟨q,rfl,h3⟩
   have hS3:w3.cell? ⟨p,6,none⟩=some vb∧w3.rangeAt B0 0 (zfa c):=⟨zab h3.out.2.right.block 6,(zbo (h3.out.2.perm (show _=pts B0 (.cells (za8 c) zcC (0,0))*(zbF RT q (zsh.new c.sectors)*(pts p (.cells (rsC c vb vs (.slice none 0 0) true (-1)) ze9 (0,0))*(zaf TRp 1 vb k (ps.map zaB)*(zaf 3 1 vs k (List.replicate k (.int .i64 1)) *
    (zbA RT ps (List.replicate k (zsh.new c.sectors))*F))))) from by ac_rfl))).2.2.2⟩
   refine⟨hS3,?_⟩;simp only[zq];have hA4:=h3.out.2.alloc (.cells #[.pointer (some ⟨q,0,none⟩)] TRp);have hS4:(w3.alloc (.cells #[.pointer (some ⟨q,0,none⟩)] TRp)).cell? ⟨p,6,none⟩=some vb∧(w3.alloc (.cells #[.pointer (some ⟨q,0,none⟩)] TRp)).rangeAt B0 0 (zfa c):=⟨zab hA4.right.right.block 6,fun j u hu=>(World.cell?_alloc_lt _ _ _ (World.block_lt_of_cell? _ _ (hS3.2 j u hu))).trans (hS3.2 j u hu)⟩;refine zaV 8 (.slice (some ⟨w3.heap.size,0,none⟩) 1 1) (w3.alloc (.cells #[.pointer (some ⟨q,0,none⟩)] TRp)) rfl rfl (by kernel_rfl) rfl (by go_simp) (hS4) ?_;simp only[zq]
   have hA5:=hA4.perm (show _=zaf TRp 1 vb k (ps.map zaB)*(pts w3.heap.size (.cells #[.pointer (some ⟨q,0,none⟩)] TRp (0,0))*(zbF RT q (zsh.new c.sectors)*(pts p (.cells (rsC c vb vs (.slice none 0 0) true (-1)) ze9 (0,0))*(zaf 3 1 vs k (List.replicate k (.int .i64 1)) *
    (zbA RT ps (List.replicate k (zsh.new c.sectors))*(pts B0 (.cells (za8 c) zcC (0,0))*F)))))) from by ac_rfl)
   obtain⟨ti,hti,hz0,hts,hz2⟩:=info_parts znb;obtain⟨v',w5,hr,hsm5,hs5⟩:=zaH (P:=prog) 84 84 TRp ti _ underlying84 hti hz0 (by rw[hts];rfl) vb k (ps.map zaB) (by rw[hts];exact hA5) ⟨w3.heap.size,0,none⟩ 1 1 [.pointer (some ⟨q,0,none⟩)] (by rw[hts];rfl)
    (by intro j u hu;rw[Addr.add_mid,zab hA5.right.block,Nat.zero_add];simpa using hu) (by simp[Value.oneCell']) (by unfold maxLen;omega) (by rw[hz2];omega)
   rw[hts] at hs5
   have hs6:=hs5.perm (show _=pts p (.cells (rsC c vb vs (.slice none 0 0) true (-1)) ze9 (0,0))*(zaf TRp 1 v' (k+1) (ps.map zaB++[.pointer (some ⟨q,0,none⟩)]) *
    (pts w3.heap.size (.cells #[.pointer (some ⟨q,0,none⟩)] TRp (0,0))*(zbF RT q (zsh.new c.sectors)*(zaf 3 1 vs k (List.replicate k (.int .i64 1))*(zbA RT ps (List.replicate k (zsh.new c.sectors))*(pts B0 (.cells (za8 c) zcC (0,0))*F)))))) from by ac_rfl)
   have hS6:w5.cell? ⟨p,6,none⟩=some vb∧w5.rangeAt B0 0 (zfa c):=⟨zab hs6.block 6,(zbo (hs6.perm (show _=pts B0 (.cells (za8 c) zcC (0,0))*(pts p (.cells (rsC c vb vs (.slice none 0 0) true (-1)) ze9 (0,0))*(zaf TRp 1 v' (k+1) (ps.map zaB++[.pointer (some ⟨q,0,none⟩)]) *
    (pts w3.heap.size (.cells #[.pointer (some ⟨q,0,none⟩)] TRp (0,0))*(zbF RT q (zsh.new c.sectors)*(zaf 3 1 vs k (List.replicate k (.int .i64 1))*(zbA RT ps (List.replicate k (zsh.new c.sectors))*F)))))) from by ac_rfl))).2.2.2⟩
   refine zaV 9 (v') (w5) rfl rfl (by kernel_rfl) rfl (zbc rfl rfl rfl hr) (hS6) ?_;simp only[zq];(apply zaa 10 rfl rfl (by kernel_rfl) rfl);(rintro w' ⟨h1,h2⟩;go_simp;rfl);exact hS6;simp only[zq];(apply zaa 11 rfl rfl (by kernel_rfl) rfl);(rintro w' ⟨h1,h2⟩;go_simp;rfl);exact hS6;simp only[zq];obtain⟨ip,hip,hip2⟩:=Option.map_eq_some_iff.1 (show (prog.info? 84).map (·.size)=some 1 by kernel_rfl);obtain⟨ao',cp',rfl⟩:=zal hs5;refine zat 12 (w5.setCell ⟨p,6,none⟩ (.slice ao' (k+1) cp')) rfl rfl (by kernel_rfl) rfl (zay rfl rfl rfl hip hip2 rfl hS6.1 (zaj hs6.block 6)) ?_
   have H7:=zh (show Same w (w5.setCell ⟨p,6,none⟩ (.slice ao' (k+1) cp'))∧Sat (w5.setCell ⟨p,6,none⟩ (.slice ao' (k+1) cp')) (zaf 3 1 vs k (List.replicate k (.int .i64 1))*(pts p (.cells (rsC c (.slice ao' (k+1) cp') vs (.slice none 0 0) true (-1)) ze9 (0,0))*(zaf TRp 1 (.slice ao' (k+1) cp') (k+1) ((ps++[q]).map zaB) *
     (zbA RT (ps++[q]) (List.replicate (k+1) (zsh.new c.sectors))*(pts B0 (.cells (za8 c) zcC (0,0))*F))))) from by
    refine⟨((h3.out.1.alloc _).trans hsm5).setCell _ _,?_⟩;rw[List.replicate_succ',zg4 _ _ _ _ (by rw[HPS.out];simp),List.map_append];have h9:=(hs6.setCell (i:=6) (.slice ao' (k+1) cp'))
    exact (h9.perm (show _=pts w3.heap.size (.cells #[.pointer (some ⟨q,0,none⟩)] TRp (0,0))*(zaf 3 1 vs k (List.replicate k (.int .i64 1))*(pts p (.cells (rsC c (.slice ao' (k+1) cp') vs (.slice none 0 0) true (-1)) ze9 (0,0))*(zaf TRp 1 (.slice ao' (k+1) cp') (k+1) (ps.map zaB++[.pointer (some ⟨q,0,none⟩)]) *
     (zbA RT ps (List.replicate k (zsh.new c.sectors))*zbF RT q (zsh.new c.sectors)*(pts B0 (.cells (za8 c) zcC (0,0))*F))))) from by unfold rsC;simp only[zq];ac_rfl)).right)
   clear hS0 hS1 hS3 hS4 hS6 hA4 hA5 hs5 hs6 hr hsm5 h3 H1 hti hz0 hts hz2 hip hip2 hra hb1 b0 hp hp6;generalize w5.setCell ⟨p,6,none⟩ (.slice ao' (k+1) cp')=W7 at H7 ⊢;have h7:W7.cell? ⟨p,7,none⟩=some vs:=zab H7.out.2.right.block 7;obtain⟨tj,htj,hy0,hys,hy2⟩:=info_parts zqi;go_wp2_with (at_builtin;refine zaq rfl _ _ 38 3 rfl tj _ underlying38 htj hy0 hys hy2 rfl (H7.out.2.allocKeep _) [.int .i64 1] rfl rfl rfl (znr _ 1) (by simp[Value.oneCell']) (by unfold maxLen;omega) (by omega) ?_;intro v8 w8 h8;have c8:w8.cell? ⟨p,7,none⟩=some vs:=zab h8.out.2.right.block 7;have f8:w8.frozen? ⟨p,7,none⟩=false:=zaj h8.out.2.right.block 7;obtain⟨ao8,cp8,rfl⟩:=zal h8.out.2)
   go_roundw
   case rel =>
    refine⟨⟨k+1,ps++[q],.slice ao' (k+1) cp',.slice ao8 (k+1) cp8,by omega,rfl,by rw[List.length_append,HPS.out];rfl,((H7.out.1.alloc _).trans h8.out.1).setCell _ _,?_⟩⟩
    have h9:=(h8.out.2.perm (show _=pts p (.cells (rsC c (.slice ao' (k+1) cp') vs (.slice none 0 0) true (-1)) ze9 (0,0))*(zaf 3 1 (.slice ao8 (k+1) cp8) (k+1) (List.replicate k (.int .i64 1)++[.int .i64 1])*(zaf TRp 1 (.slice ao' (k+1) cp') (k+1) ((ps++[q]).map zaB) *
     (zbA RT (ps++[q]) (List.replicate (k+1) (zsh.new c.sectors))*(pts B0 (.cells (za8 c) zcC (0,0))*F)))) from by ac_rfl)).setCell (i:=7) (.slice ao8 (k+1) cp8)
    rw[List.replicate_succ' (a:=Value.int .i64 1)];exact h9.perm (by unfold rsC;simp only[zq];ac_rfl)
   case measure=>simp only[intOf];omega
  ·have hltd:decide ((k:Int)<c.disks)=false:=decide_eq_false hlt
   have hke:k=c.disks.toNat:=by omega
   clear hra;go_wp2;go_ret2;refine⟨p,rfl,H1.out.1,za9.2 ⟨vb,vs,.slice none 0 0,ps,[],⟨znp HWF.out,by rw[HPS.out,hke];simp[zsg.new],rfl⟩,?_⟩⟩;have h9:Sat wr (zaf TRp 1 (.slice none 0 0) 0 []*_):=zbp.2 H1.out.2;rw[hke] at h9;have e1:(zsg.new c).bays=List.replicate c.disks.toNat ⟨zsh.new c.sectors,1⟩:=rfl
   have e2:(zsg.new c).bays.map zsk.disk=List.replicate c.disks.toNat (zsh.new c.sectors):=by rw[e1];simp
   have e3:(zsg.new c).bays.map stV=List.replicate c.disks.toNat (.int .i64 1):=by rw[e1];simp[stV]
   rw[e2,e3,e1,List.length_replicate];have h10:=h9.perm (show _=pts B0 (.cells (za8 c) zcC (0,0))*(pts p (.cells (rsC c vb vs (.slice none 0 0) true (-1)) ze9 (0,0))*(zaf TRp 1 vb c.disks.toNat (ps.map zaB)*(zaf 3 1 vs c.disks.toNat (List.replicate c.disks.toNat (.int .i64 1))*(zaf TRp 1 (.slice none 0 0) 0 []*(zbA RT ps (List.replicate c.disks.toNat (zsh.new c.sectors))*F))))) from by ac_rfl);have h11:=h10.right;exact h11.perm (by show _=pts p _*(_*(_*(zaf TRp 1 _ 0 []*(_*(emp*F)))));rw[zaL];rfl)
end Go.Proofs.YtmcclbiaoeilkaaGreat
end
section
namespace Go.Proofs.YtmcclbiaoeilkaaGreat
open Go.Proofs.Tryz Go.RowKit Go.Sl Go.ChangeMaps
theorem zog (p:Nat)(S:zsg)(F:zsi)(w:World)(hS:Sat w (zac SH p S*F)):
  Calls prog 35 #[.pointer (some ⟨p,0,none⟩)] w fun e w'=>e = .returned (.bool (!S.off))∧w=w':=by
 obtain⟨vb,vi,ps,qs,⟨_,h1,h2⟩,hs⟩:=zbJ.1 hS;obtain⟨⟨q6,q7,q8,q9,q10⟩,hp,hfp,hra⟩:=zaU hs;clear hs hS hfp hra h1 h2;go_enter func35,ntmps35;go_wp2;go_ret;exact⟨rfl,rfl⟩
theorem zgA (p:Nat)(S:zsg)(F:zsi)(d:Int)(inn:Bool)(er:Int)(w:World)(hS:Sat w (zac SH p S*F)):
  Calls prog 98 #[.pointer (some ⟨p,0,none⟩),d,.bool inn,er] w fun e w'=>e = .returned (.int .i64 (S.want d inn er))∧w=w':=by
 have hacc:S.want d inn er=if S.state d=0 then 1 else if decide (S.state d=1)≠inn then er else 0:=rfl
 rw[hacc];have hst:=zdY p S F d w hS
 generalize S.state d=st at *
 clear hS hacc
 by_cases h0:st=0
 ·subst h0
  go_enter func98,ntmps98;go_wp2_with (go_at_call 36;refine hst.mono ?_;rintro e w' ⟨rfl,rfl⟩);go_ret;exact⟨rfl,rfl⟩
 ·have hb:(st==0)=false:=by simp[h0]
  rw[if_neg h0]
  by_cases h1:st=1
  ·subst h1
   clear h0 hb;cases inn
   ·go_enter func98,ntmps98
    go_wp2_with (go_at_call 36;refine hst.mono ?_;rintro e w' ⟨rfl,rfl⟩);go_ret;exact⟨rfl,rfl⟩
   ·go_enter func98,ntmps98
    go_wp2_with (go_at_call 36;refine hst.mono ?_;rintro e w' ⟨rfl,rfl⟩);go_ret;exact⟨rfl,rfl⟩
  ·have hb1:(st==1)=false:=by simp[h1]
   rw[decide_eq_false h1];clear h0 h1;cases inn
   ·go_enter func98,ntmps98
    go_wp2_with (go_at_call 36;refine hst.mono ?_;rintro e w' ⟨rfl,rfl⟩);go_ret;exact⟨rfl,rfl⟩
   ·go_enter func98,ntmps98
    go_wp2_with (go_at_call 36;refine hst.mono ?_;rintro e w' ⟨rfl,rfl⟩);go_ret;exact⟨rfl,rfl⟩
end Go.Proofs.YtmcclbiaoeilkaaGreat
end
section
namespace Go.Proofs.YtmcclbiaoeilkaaGreat
open Go.Proofs.Tryz Go.RowKit Go.Sl Go.ChangeMaps
def yC:zsl:=⟨2,1,3,0,1,1⟩
def yP:zsj:=⟨0,4,2⟩
def yQ:zsj:=⟨0,4,3⟩
def z64:List UInt8:=List.replicate 64 0
def yS0:zsg:=zsg.new yC
def yS1:zsg:=(yS0.write yP z64).1
def yS2:zsg:=yS1.fuse 0
def yS3:zsg:=(yS2.flush 0).1
theorem y0:yC.ok=true:=by decide +kernel
theorem y1:yS0.state 1=1:=by decide +kernel
theorem y2:yS0.state 2=0:=by decide +kernel
theorem y3:(yS0.write yP z64).2=0:=by decide +kernel
theorem y4:yS1.write yQ z64=(yS1,1):=by
 have h:yS1.number yQ = -1:=by decide +kernel
 unfold zsg.write;rw[if_pos (by rw[h];exact .inl (by decide))]
theorem y5:(yS2.flush 0).2=14:=by decide +kernel
theorem y6:yS3.off=true:=by decide +kernel
section
variable {p:Nat} {S S':zsg} {F:zsi} {w:World} {k:Int}
end
end Go.Proofs.YtmcclbiaoeilkaaGreat
end
section
namespace Go.Proofs.YtmcclbiaoeilkaaGreat
open Go.Proofs.Tryz Go.RowKit Go.Sl Go.ChangeMaps
theorem zq7 (args:Array Value)(w:World):(callFunc 100 args).run prog w = .ok (.enter 100 args) w:=by kernel_rfl
theorem zjR (p:Nat)(S:zsg)(F:zsi)(a:zsj)(valid:Bool)(f:zsh→Int→zsh×Int)(fid:FuncId)(cap:Array Value)(hcf:∀ args w,(callFunc fid args).run prog w = .ok (.enter fid args) w)(hn:∀ D n,(f D n).1.n=D.n)
  (hex:∀ D w' q G,Sat w' (zak TD TS q D*(F*G))→Calls prog fid (#[.agg #[zaB q,.int .i64 1],.int .i64 (S.number a)]++cap) w' fun e w''=>e = .returned (.int .i64 (f D (S.number a)).2)∧Hid (Same w' w''∧Sat w'' (zak TD TS q (f D (S.number a)).1*(F*G))))
  (w:World) (hS:Sat w (zac SH p S*F)):
  Calls prog 71 #[.pointer (some ⟨p,0,none⟩),.agg (plA a),.bool valid,.func (.func fid) #[] cap] w fun e w'=>e = .returned (.int .i64 (S.arm a valid f).2)∧Hid (Same w w'∧Sat w' (zac SH p (S.arm a valid f).1*F)):=by
 by_cases h:S.number a<0∨valid=false
 ·rw[zsg.arm_eq_bad S a f valid h];exact zmB p S F a valid fid cap w hS h
 ·have hv:valid=true:=by cases valid;exact absurd (.inr rfl) h;rfl
  subst hv
  have h0:0≤S.number a:=by omega
  rw[zsg.arm_eq S a f h0 true rfl];refine (zpT p S F F a fid cap (f (S.disk a.disk) (S.number a)).1 (f (S.disk a.disk) (S.number a)).2 hcf h0 (fun _=>hn _ _) (fun _ w' q G h=>hex _ w' q G h) w hS).mono ?_;rintro e w' ⟨rfl,h2⟩;unfold zq4;have h3:=h2.out.2;unfold ziL at h3
  by_cases h1:S.state a.disk=1
  ·rw[if_pos h1] at h3 ⊢;rw[if_pos h1];exact⟨rfl,h2.out.1,h3⟩
  ·rw[if_neg h1] at h3 ⊢;rw[if_neg h1];exact⟨rfl,h2.out.1,h3⟩
theorem zpu (q bB:Nat)(n bit:Int)(D:zsh)(F G:zsi)(w:World)(hS:Sat w (zak TD TS q D*((pts bB (.cells #[bit] zbP (0,0))*F)*G))):
  Calls prog 100 (#[.agg #[zaB q,.int .i64 1],.int .i64 n]++#[zaB bB]) w fun e w'=>e = .returned (.int .i64 (D.rot n bit).2)∧Hid (Same w w'∧Sat w' (zak TD TS q (D.rot n bit).1*((pts bB (.cells #[bit] zbP (0,0))*F)*G))):=by
 have HS:=zh hS;have c0:w.cell? ⟨bB,0,none⟩=some (.int .i64 bit):=zab (hS.perm (show _=pts bB (.cells #[bit] zbP (0,0))*(zak TD TS q D*(F*G)) from by ac_rfl)).block 0;have l0:=World.block_lt_of_cell? _ _ c0;simp only at l0;clear hS;show Calls prog 100 #[.agg #[zaB q,.int .i64 1],n,zaB bB] w _;unfold zaB;go_enter func100,ntmps100;go_wp2_with (go_at_call 101;refine (zqz q D _ n bit _ (HS.out.allocKeep _)).mono ?_;rintro e w' ⟨rfl,h1,h2⟩;have H:=(zd h1 h2);clear h1 h2);go_ret;exact⟨rfl,((Same.refl w).alloc _).trans H.out.1,H.out.2⟩
theorem zpI (p:Nat)(S:zsg)(F:zsi)(a:zsj)(bit:Int)(w:World)(hS:Sat w (zac SH p S*F)):
  Calls prog 53 #[.pointer (some ⟨p,0,none⟩),.agg (plA a),bit] w fun e w'=>e = .returned (.int .i64 (S.rot a bit).2)∧Hid (Same w w'∧Sat w' (zac SH p (S.rot a bit).1*F)):=by
 have hA:=((hS.alloc (.cells (plA a) TPl)).alloc (.cells #[bit] zbP));rw[World.size_alloc] at hA;have HA:=zh hA
 have hc:=fun valid=>zjR p S (pts (w.heap.size+1) (.cells #[bit] zbP (0,0))*(pts w.heap.size (.cells (plA a) TPl (0,0))*F)) a valid (fun D n=>D.rot n bit) 100 #[zaB (w.heap.size+1)] zq7 (fun D n=>zsh.rot_n _ _ _)
  (fun D w' q G h=>zpu q _ _ bit D _ G w' h) _ (hA.perm (by ac_rfl))
 have hr:S.rot a bit=S.arm a (decide (0≤bit)&&decide (bit<512)) fun D n=>D.rot n bit:=rfl
 rw[hr];replace hc:=hc (decide (0≤bit)&&decide (bit<512));unfold zaB at hc;clear hS hA hr
 have fin:∀ (w2:World) (S':zsg),Hid (Same ((w.alloc (.cells (plA a) TPl)).alloc (.cells #[bit] zbP)) w2∧Sat w2 (zac SH p S'*(pts (w.heap.size+1) (.cells #[bit] zbP (0,0))*(pts w.heap.size (.cells (plA a) TPl (0,0))*F))))→Hid (Same w w2∧Sat w2 (zac SH p S'*F)):=
  fun w2 S' h=>⟨(((Same.refl w).alloc _).alloc _).trans h.out.1,(h.out.2.perm (show _=pts (w.heap.size+1) (.cells #[bit] zbP (0,0))*(pts w.heap.size (.cells (plA a) TPl (0,0))*(zac SH p S'*F)) from by ac_rfl)).right.right⟩
 have FIN:=zh fin;clear fin
 by_cases h0:0≤bit
 ·have hb:decide (0≤bit)=true:=decide_eq_true h0
  rw[hb,Bool.true_and] at hc ⊢;clear h0;go_enter func53,ntmps53;go_wp2_with (go_at_call 71;refine hc.mono ?_;rintro e w2 ⟨rfl,h2⟩;clear hc);go_ret;exact⟨rfl,FIN.out _ _ h2⟩
 ·have hb:decide (0≤bit)=false:=decide_eq_false h0
  rw[hb,Bool.false_and] at hc ⊢;clear h0;go_enter func53,ntmps53;go_wp2_with (go_at_call 71;refine hc.mono ?_;rintro e w2 ⟨rfl,h2⟩;clear hc);go_ret;exact⟨rfl,FIN.out _ _ h2⟩
theorem zo7 (p:Nat)(D:zsh)(F:zsi)(i:Int)(w:World)(hS:Sat w (zak TD TS p D*F)):
  Calls prog 103 #[.pointer (some ⟨p,0,none⟩),i] w fun e w'=>e = .returned (.int .i64 (D.lose i).2)∧Same w w'∧Sat w' (zak TD TS p (D.lose i).1*F):=by
 obtain⟨v,cb,ab,es,c,l,es2,c2,l2,⟨hwf,hM,hK,hM2,hK2⟩,hs⟩:=zaI.1 hS;obtain⟨b,cap,rfl⟩:=zcu hs.right;obtain⟨q0,q1,q2⟩:=zaZ hs
 by_cases h:D.has i=true
 ·have h2:=zsh.has_iff.1 h
  have hd:(decide (0≤i)&&decide (i<(D.n:Int)))=true:=h;have hab:Sat w (pts ab (.map es2 c2)*(pts p (.cells #[.slice b D.n cap,.map (some cb),.map (some ab)] TD (0,0))*(zcN TS D.n D.dur (.slice b D.n cap)*(pts cb (.map es c)*F)))):=hs.perm (by ac_rfl);obtain⟨es3,c3,hrun,hM3⟩:=zbt (P:=prog) underlying90 underlying3 hab.block hM2 i (.int .i64 (-1));have hl:D.lose i=({ D with armed:=za7 D.armed i.toNat (some (-1)) },0):=if_pos h;have hwf':=hwf.lose i;rw[hl] at hwf' ⊢
  have hfin:Sat (setBlock w ab (.map es3 c3)) (zak TD TS p { D with armed:=za7 D.armed i.toNat (some (-1)) }*F):=
   zaI.2 ⟨.slice b D.n cap,cb,ab,es,c,l,es3,c3,_,⟨hwf',hM,hK,hM3,hK2.upd h2.1 _⟩,(hab.setBlock (o':=.map es3 c3)).perm (by ac_rfl)⟩
  have HF:=zh hfin;clear hfin hab hs hS hM hK hM2 hK2 hM3 hwf hwf' hl;go_enter func103,ntmps103;go_wp2_with (go_at_call 118;refine (zcc _ _ _ _ _ _ q0).mono ?_;rintro e w' ⟨rfl,rfl⟩);go_ret;exact⟨rfl,(Same.refl w).setBlock _,HF.out⟩
 ·have hd:(decide (0≤i)&&decide (i<(D.n:Int)))=false:=by simpa [zsh.has] using h
  have HS:=zh hS;clear hS hs hM hK hM2 hK2 hwf;go_enter func103,ntmps103;go_wp2_with (go_at_call 118;refine (zcc _ _ _ _ _ _ q0).mono ?_;rintro e w' ⟨rfl,rfl⟩);go_ret
  have hl:D.lose i=(D,1):=by unfold zsh.lose;rw[if_neg h]
  rw[hl];exact⟨rfl,Same.refl w,HS.out⟩
end Go.Proofs.YtmcclbiaoeilkaaGreat
end
