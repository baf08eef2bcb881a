import Derived.Laws.BitsAllLaws
import Derived.Test.YtmcclbiaoeilkaaGreatQ09
set_option maxHeartbeats 2000000
set_option maxRecDepth 100000
/- Part 10 of a proof;the last part says what is proved. -/
section
namespace Go.Proofs.YtmcclbiaoeilkaaGreat
open Go.Proofs.Tryz Go.RowKit Go.Sl Go.ChangeMaps
abbrev zgD:TypeId:=181
def zmr (r:UInt32):UInt32:=(r >>> 1) ^^^ (2197175160 &&& (0 - (r &&& 1)))
def ziI:Nat→UInt32→UInt32
 | 0,r=>r
 | k+1,r=>zmr (ziI k r)
def zoJ (i:Nat):UInt32:=ziI 8 (UInt32.ofNat i)
def zhv (r:UInt32)(x:UInt8):UInt32:=(r >>> 8) ^^^ zoJ (UInt8.ofNat r.toNat ^^^ x).toNat
def zsc (l:List UInt8):UInt32:=l.foldl zhv (~~~0)
def zfX (l:List UInt8):UInt32 := ~~~(zsc l)
def zfw (r:UInt32):Value:=.int .u32 (r.toNat:Int)
def zgo:Array Value:=(Array.range 256).map fun j=>zfw (zoJ j)
theorem zds:zgo.size=256:=by simp[zgo]
theorem zkr {j:Nat}(h:j<256):zgo[j]?=some (zfw (zoJ j)):=by simp[zgo,h]
theorem zlh:∀ v ∈ zgo.toList,v.oneCell'=true:=by
 intro v hv;simp[zgo] at hv;obtain⟨j,_,rfl⟩:=hv;rfl
theorem zoI (r:UInt32):bits .xor .u32 ((r.toNat:Int) / 2) (bits .and .u32 2197175160 (-bits .and .u32 (r.toNat:Int) 1%4294967296))=((zmr r).toNat:Int):=by
 have hr:=r.toNat_lt
 have h1:bits .and .u32 (r.toNat:Int) 1=(((r &&& 1).toNat:Nat):Int):=by
  rw[show (1:Int)=((1:Nat):Int) from rfl,u32_and_nat _ _ hr (by omega),UInt32.toNat_and];rfl
 rw[h1]
 have h2:(-(((r &&& 1).toNat:Nat):Int)%4294967296)=(((0 - (r &&& 1)).toNat:Nat):Int):=by
  have:=(r &&& 1).toNat_lt;rw[UInt32.toNat_sub];simp only[UInt32.toNat_zero];omega
 rw[h2,show (2197175160:Int)=(((2197175160:UInt32).toNat:Nat):Int) from rfl,u32_and_nat _ _ (UInt32.toNat_lt _) (UInt32.toNat_lt _),← UInt32.toNat_and]
 have h3:((r.toNat:Nat):Int) / (2:Int)=(((r >>> 1).toNat:Nat):Int):=by
  rw[UInt32.toNat_shiftRight];show _=((r.toNat >>> 1:Nat):Int);rw[Nat.shiftRight_eq_div_pow];rfl
 refine (congrArg (fun z=>bits .xor .u32 z _) h3).trans ?_;rw[u32_xor_nat _ _ (UInt32.toNat_lt _) (UInt32.toNat_lt _),← UInt32.toNat_xor]
 rfl
theorem zoG (r:UInt32)(x:UInt8):bits .xor .u32 ((r.toNat:Int) / 256) ((zoJ (UInt8.ofNat r.toNat ^^^ x).toNat).toNat:Int)=((zhv r x).toNat:Int):=by
 have h3:(r.toNat:Int) / 256=(((r >>> 8).toNat:Nat):Int):=by
  rw[UInt32.toNat_shiftRight];show _=((r.toNat >>> 8:Nat):Int);rw[Nat.shiftRight_eq_div_pow];rfl
 refine (congrArg (fun z=>bits .xor .u32 z _) h3).trans ?_;rw[u32_xor_nat _ _ (UInt32.toNat_lt _) (UInt32.toNat_lt _),← UInt32.toNat_xor]
 rfl
theorem zod (r:UInt32):bits .xor .u32 IntKind.u32.max (r.toNat:Int)=((~~~r).toNat:Int):=by
 have e:IntKind.u32.max=((4294967295:Nat):Int):=rfl;rw[e,u32_xor_nat _ _ (by omega) r.toNat_lt];congr 1
structure zq2 (w:World)(g:Nat)(F:zsi)(i:Value)(wr:World):Prop where
 st:∃ (k:Nat) (cur:Array Value),k≤256∧i = .int .i64 k∧Same w wr∧cur.size=256∧(∀ j,j<k→cur[j]?=some (zfw (zoJ j)))∧Sat wr (pts g (.cells cur zgD (0,0))*F)
structure zrB (i:Nat)(wr w:World)(v i2:Value):Prop where
 st:wr=w∧∃ k:Nat,k≤8∧i2 = .int .i64 k∧v=zfw (ziI k (UInt32.ofNat i))
def zqN:Array Value:=Array.replicate 256 (.int .u32 0)
theorem zon (w:World):(zeroValue zgD).run prog w = .ok (.agg zqN) w:=by kernel_rfl
theorem zig {c:Array Value}(h:c.size=256):(prog.info? zgD).map (·.size)=some c.size:=by rw[h];kernel_rfl
theorem zfR {w:World}{g:Nat}{T:TypeId}:∀ (vs:List Value) (o:Nat) (c:Array Value),w.heap[g]?=some (.cells c T (0,0))→(∀ j v,vs[j]?=some v→c[o+j]?=some v)→w.setCells g o vs=w
 | [],_,_,_,_=>rfl
 | v::r,o,c,hg,h=>by
  have hv:c[o]?=some v:=by have:=h 0 v rfl;simpa using this
  have e:w.setCell ⟨g,o,none⟩ v=w:=by
   have hlt:g<w.heap.size:=(Array.getElem?_eq_some_iff.1 hg).1;unfold World.setCell;simp only;congr 1;apply Array.ext
   ·simp
   ·intro i h1 h2
    rw[Array.getElem_modify];split
    ·subst i
     have hgg:w.heap[g] = .cells c T (0,0):=by rw[Array.getElem?_eq_getElem hlt] at hg;exact Option.some.inj hg
     rw[hgg];simp only;congr 1;apply Array.ext_getElem?;intro i;rw[if_neg (by simp),Array.getElem?_setIfInBounds];split
     ·subst i;split
      ·rw[hv]
      ·rename_i h3;have:=(Array.getElem?_eq_some_iff.1 hv).1;omega
     ·rfl
    ·rfl
  rw[World.setCells,e];exact zfR r (o+1) c hg (fun j u hj=>by have:=h (j+1) u (by simpa using hj);rw[show o+1+j=o+(j+1) by omega];exact this)
section
variable {ops:Array Oper} {rest:List Oper} {o:Oper} {a:Act} {w:World} {Q:Exit→Act→World→Prop}
theorem zkx {g:Nat}(hb:w.heap[g]?=some (.cells zgo zgD (0,0)))(hg:o.guard=none)(x:Operand)(ho:o.op = .load zgD x)(hx:a.eval x = .pointer (some ⟨g,0,none⟩))
  (k:wpList prog ops Q rest (a.put o.dst (.agg zgo)) w):wpList prog ops Q (o::rest) a w:=
 wpList_load_row hg zgD x ho g hx zgD zgo (0,0) _ hb underlying181 rfl (zig zds) k
theorem zjH {g:Nat}(hb:w.heap[g]?=some (.cells zgo zgD (0,0)))(hg:o.guard=none)(x y:Operand)(ho:o.op = .store zgD x y)(hx:a.eval x = .pointer (some ⟨g,0,none⟩))(hy:a.eval y = .agg zgo)
  (k:wpList prog ops Q rest (a.put o.dst undef) w):wpList prog ops Q (o::rest) a w:=by
 have hth:w.there g 0 zgo.size:=fun j hj=>⟨by rw[Nat.zero_add,zab hb];rw[zds] at hj;rw[zkr hj];rfl,zaj hb _⟩
 have hself:w.setCells g 0 zgo.toList=w:=zfR zgo.toList 0 zgo hb (fun j v h=>by rw[Nat.zero_add];rw[Array.getElem?_toList] at h;exact h);refine wpList_store_mid hg zgD x y ho g 0 zgo hx hy hth (zig zds) (Array.all_eq_true_iff_forall_mem.2 (fun v hv=>zlh v (by simpa using hv))) ?_;rw[hself];exact k
theorem ziE (hg:o.guard=none)(x y:Operand)(ho:o.op = .store zgD x y)(hx:a.eval x = .pointer (some ⟨w.heap.size,0,none⟩))(hy:a.eval y = .agg zgo)
  (k:wpList prog ops Q rest (a.put o.dst undef) (w.alloc (.cells zgo zgD))):wpList prog ops Q (o::rest) a (w.alloc (.cells zqN zgD)):=
 zdF hg zgD x y ho zgD _ zgo hx hy (zig zds) (by rw[zds];simp[zqN]) zlh k
end
theorem zn8 (F:zsi)(w:World)(hF:Sat w F):Calls prog 159 #[] w fun e w'=>e = .returned (.agg zgo)∧Hid (Same w w'∧Sat w' F):=by
 have HF:=zh hF;clear hF;go_enter func159,ntmps159;go_upto_region 1 with ((with_reducible (refine zai ?_ zgD ?_ _ (zon _) ?_));rfl;rfl)
 have hst:zq2 w w.heap.size F (.int .i64 0) (w.alloc (.cells zqN zgD)):=⟨⟨0,zqN,by omega,rfl,(Same.refl w).alloc _,by simp[zqN],by intro j hj;omega,HF.out.alloc _⟩⟩;have HST:=zh hst;clear hst;generalize w.alloc (.cells zqN zgD)=w1 at HST ⊢;generalize w.heap.size=g at HST ⊢;go_wp2
 go_loopw [1,2,3] (fun _ _ i wr=>zq2 w g F i wr) (fun _ _ i _=>256 - (intOf i).toNat)
 case atStart=>exact HST.out
 case round =>
  obtain⟨k,cur,hk,rfl,hsm,hcz,hcells,hs⟩:=hrel.st;clear hrel HST;have HS:=(zd hsm hs);have HC:=zh hcells;clear hsm hcells
  by_cases hlt:k<256
  ·have hltd:decide ((k:Int)<256)=true:=decide_eq_true (by omega)
   have hk0:(0:Int)≤(k:Int):=by omega
   have hk1:(k:Int)<256:=by omega
   have hku:(k:Int)=((UInt32.ofNat k).toNat:Int):=by simp;omega
   have HKU:=zh hku;obtain⟨u,hu⟩:∃ u,cur[k]?=some u:=⟨_,Array.getElem?_eq_getElem (by omega)⟩
   have ck:wr.cell? ⟨g,k,none⟩=some u:=by rw[zab hs.block];exact hu
   have fk:wr.frozen? ⟨g,k,none⟩=false:=zaj hs.block _;clear hs hku hu;go_upto_region 6 with (fail)
   go_loopw [2,8] (fun v i2 w'=>zrB k w' wr v i2) (fun _ i2 _=>8 - (intOf i2).toNat)
   case atStart=>exact⟨rfl,0,by omega,rfl,by show Value.int .u32 (k:Int) = .int .u32 _;rw[HKU.out];rfl⟩
   case round =>
    obtain⟨rfl,m,hm,rfl,rfl⟩:=hrel.st;clear hrel;have hrl:=(ziI m (UInt32.ofNat k)).toNat_lt;have hcs:=zoI (ziI m (UInt32.ofNat k));have HCS:=zh (show ((zmr (ziI m (UInt32.ofNat k))).toNat:Int)=((ziI (m+1) (UInt32.ofNat k)).toNat:Int) from rfl);unfold zfw
    by_cases hlt2:m<8
    ·have hltd2:decide ((m:Int)<8)=true:=decide_eq_true (by omega)
     have hm1:(m:Int)≤8:=by omega
     generalize ziI m (UInt32.ofNat k)=r at hrl hcs HCS ⊢;have HC2:=zh hcs;clear hcs;go_wp2
     go_roundw
     case rel=>exact⟨rfl,m+1,by omega,rfl,by rw[HC2.out,HCS.out];rfl⟩
     case measure=>simp only[intOf];omega
    ·obtain rfl:m=8:=by omega
     have hltd2:decide (((8:Nat):Int)<8)=false:=by decide
     clear hcs HCS;have hcr:ziI 8 (UInt32.ofNat k)=zoJ k:=rfl;rw[hcr];clear hcr hrl;go_wp2
     go_roundw
     case rel =>
      refine⟨⟨k+1,cur.setIfInBounds k (zfw (zoJ k)),by omega,rfl,HS.out.1.setCell _ _,by rw[Array.size_setIfInBounds];exact hcz,?_,HS.out.2.setCell _⟩⟩;intro j hj;rw[Array.getElem?_setIfInBounds];split
      ·rename_i hkj;subst hkj;rw[if_pos (by omega)]
      ·exact HC.out j (by omega)
     case measure=>simp only[intOf];omega
  ·obtain rfl:k=256:=by omega
   have hltd:decide (((256:Nat):Int)<256)=false:=by decide
   have hcur:cur=zgo:=by
    apply Array.ext
    ·rw[hcz,zds]
    ·intro i h1 h2
     have a:=HC.out i (by omega);have b:=zkr (j:=i) (by omega);rw[Array.getElem?_eq_getElem h1] at a;rw[Array.getElem?_eq_getElem h2] at b;exact (Option.some.inj a).trans (Option.some.inj b).symm
   subst hcur;have hblk:=hs.block;clear hs
   go_wp2_with (first
    | ((with_reducible (apply zkx hblk));rfl;rfl;rfl)
    | ((with_reducible (apply zjH hblk));rfl;rfl;rfl;rfl))
   refine bodyPost_ret (v:=.agg zgo) ?_ rfl ⟨rfl,HS.out.1,HS.out.2.right⟩;exact results_cell_row results159 _ _ g zgD zgo (0,0) _ rfl hblk underlying181 rfl (zig zds)
structure zqV (w:World)(g:Nat)(F:zsi)(bs:List UInt8)(r i:Value)(wr:World):Prop where
 st:∃ k:Nat,k≤bs.length∧i = .int .i64 k∧r=zfw ((bs.take k).foldl zhv (~~~0))∧Same w wr∧Sat wr (pts g (.cells zgo zgD (0,0))*F)
def zd3 (w:World)(v:Value)(l:List UInt8):Prop:=∃ ao cap,v = .slice ao l.length cap∧(l≠[]→∃ b off,ao=some ⟨b,off,none⟩∧∀ j x,l[j]?=some x→w.cell? ⟨b,off+j,none⟩=some (zb4 x))
theorem zlE (v:Value)(bs:List UInt8)(F:zsi)(w:World)(hF:Sat w F)(hb:∀ w',Sat w' F→zd3 w' v bs)(hl:bs.length≤4611686018427387904):
  Calls prog 153 #[.int .u32 0,v] w fun e w'=>e = .returned (zfw (zfX bs))∧Hid (Same w w'∧Sat w' F):=by
 obtain⟨ao,cap,rfl,_⟩:=hb w hF;have HF:=zh hF;have HB:=zh hb;have HE:=zh (show zfX bs = ~~~(bs.foldl zhv (~~~0)) from rfl);clear hF hb;go_enter func153,ntmps153
 go_upto_region 2 with (first
  | (go_at_call 159;refine (zn8 F w HF.out).mono ?_;rintro e w1 ⟨rfl,h1⟩)
  | ((with_reducible (refine zai ?_ zgD ?_ _ (zon _) ?_));rfl;rfl)
  | ((with_reducible (apply ziE));rfl;rfl;rfl;rfl))
 have hst:zqV w w1.heap.size F bs (.int .u32 4294967295) (.int .i64 0) (w1.alloc (.cells zgo zgD)):=⟨⟨0,Nat.zero_le _,rfl,rfl,h1.out.1.alloc _,h1.out.2.alloc _⟩⟩;have HST:=zh hst;clear hst h1 HF;generalize w1.alloc (.cells zgo zgD)=w2 at HST ⊢;generalize w1.heap.size=g at HST ⊢;go_wp2
 go_loopw [6,8,14] (fun r _ i wr=>zqV w g F bs r i wr) (fun _ _ i _=>bs.length - (intOf i).toNat)
 case atStart=>exact HST.out
 case round =>
  obtain⟨k,hk,rfl,rfl,hsm,hs⟩:=hrel.st;clear hrel HST;have HS:=(zd hsm hs);clear hsm;have hrl:=((bs.take k).foldl zhv (~~~0)).toNat_lt
  by_cases hlt:k<bs.length
  ·have hltd:decide ((k:Int)<(bs.length:Int))=true:=decide_eq_true (by omega)
   have hk1:(k:Int)≤4611686018427387904:=by omega
   obtain⟨x,hx⟩:∃ x,bs[k]?=some x:=⟨_,List.getElem?_eq_getElem hlt⟩;obtain⟨ao',cap',hv,hcell⟩:=HB.out wr hs.right;simp only[Value.slice.injEq,true_and] at hv;obtain⟨rfl,rfl⟩:=hv;obtain⟨b,off,rfl,hc⟩:=hcell (by rintro rfl;simp at hlt);have cx:=hc k x hx;unfold zb4 at cx
   have hfold:(bs.take (k+1)).foldl zhv (~~~0)=zhv ((bs.take k).foldl zhv (~~~0)) x:=by rw[List.take_add_one,hx];simp[List.foldl_append]
   have HFO:=zh hfold;have hxl:=x.toNat_lt;unfold zfw;generalize (bs.take k).foldl zhv (~~~0)=r at hrl HFO ⊢
   have hix:bits .xor .u8 ((r.toNat:Int)%256) (x.toNat:Int)=(((UInt8.ofNat r.toNat ^^^ x).toNat:Nat):Int):=by
    rw[UInt8.toNat_xor,UInt8.toNat_ofNat'];exact (congrArg (fun z=>bits .xor .u8 z (x.toNat:Int)) (Int.natCast_emod r.toNat 256).symm).trans (u8_xor_nat _ _ (by omega) hxl)
   have hcb:=zoG r x;have HCB:=zh hcb;have hil:=(UInt8.ofNat r.toNat ^^^ x).toNat_lt
   have cg:wr.cell? ⟨g,(UInt8.ofNat r.toNat ^^^ x).toNat,none⟩=some (zfw (zoJ (UInt8.ofNat r.toNat ^^^ x).toNat)):=by rw[zab hs.block];exact zkr hil
   unfold zfw at cg;generalize (UInt8.ofNat r.toNat ^^^ x).toNat=ix at hix hil cg HCB
   have hi0:(0:Int)≤(ix:Int):=by omega
   have hi1:(ix:Int)<256:=by omega
   clear hs hcell hc hx hfold hcb hil;go_wp2;rw[HCB.out];refine⟨⟨k+1,by omega,rfl,by rw[HFO.out];rfl,HS.out.1,HS.out.2⟩,by simp only[intOf];omega⟩
  ·obtain rfl:k=bs.length:=by omega
   have hltd:decide ((bs.length:Int)<(bs.length:Int))=false:=decide_eq_false (by omega);rw[List.take_length] at hrl ⊢;have HE2:=HE.out;generalize bs.foldl zhv (~~~0)=r at hrl HE2 ⊢;have HE3:=zh HE2;clear HE2 hs;unfold zfw;go_wp2;go_ret;exact⟨by rw[HE3.out,zod];rfl,HS.out.1,HS.out.2.right⟩
theorem zpX (v:Value)(bs:List UInt8)(F:zsi)(w:World)(hF:Sat w F)(hb:∀ w',Sat w' F→zd3 w' v bs)(hl:bs.length≤4611686018427387904):
  Calls prog 137 #[v] w fun e w'=>e = .returned (zfw (zfX bs))∧Hid (Same w w'∧Sat w' F):=by
 have hx:=zlE v bs F w hF hb hl;unfold zfw at hx ⊢;clear hF hb;go_enter func137,ntmps137;go_wp2_with (go_at_call 153;refine hx.mono ?_;rintro e w1 ⟨rfl,h1⟩;clear hx);go_ret;exact⟨rfl,h1⟩
end Go.Proofs.YtmcclbiaoeilkaaGreat
end
section
namespace Go.Proofs.YtmcclbiaoeilkaaGreat
open Go.Proofs.Tryz Go.RowKit Go.Sl Go.ChangeMaps
abbrev zaM:TypeId:=5
def zbu (v:Value)(l:List UInt8):zsi:=zaf zaM 1 v l.length (zaY l)
def leB (n k:Nat):UInt8:=UInt8.ofNat (n / 256 ^ k)
def leL (n m:Nat):List UInt8:=(List.range m).map (leB n)
theorem zaK (n m:Nat):(leL n m).length=m:=by simp[leL]
theorem zeb (n m:Nat):leL n (m+1)=leL n m++[leB n m]:=by simp[leL,List.range_succ]
theorem zgT (n k:Nat):(((n / 256 ^ k:Nat):Int)%256)=((leB n k).toNat:Int):=by
 unfold leB;rw[UInt8.toNat_ofNat'];omega
theorem zeW {w:World}{v:Value}{l:List UInt8}{X:zsi}(h:Sat w (zbu v l*X)):zd3 w v l:=by
 obtain⟨ao,cap,rfl⟩:=zal h;refine⟨ao,cap,rfl,fun hne=>?_⟩;obtain⟨g,cap',hv,hc⟩:=zbd h (by cases l;exact absurd rfl hne;simp);simp only[Value.slice.injEq,true_and] at hv;obtain⟨rfl,rfl⟩:=hv;refine⟨g,0,rfl,fun j x hj=>?_⟩;rw[Nat.zero_add];exact hc j _ (by simp[zaY,hj])
theorem zeY {w:World}{X:zsi}:Sat w (zbu (.slice none 0 0) []*X)↔Sat w X:=zbp
theorem zdz:(prog.info? zaM).map (fun i=>(i.zero,i.size,i.bytes))=some (some (.int .u8 0),1,1):=by kernel_rfl
structure zr2 (f:Nat→Int)(m:Nat)(w0:World)(n x:Value)(wr:World):Prop where
 st:wr=w0∧∃ k:Nat,k≤m∧n = .int .i64 k∧x = .int .u64 (f k)
def sz4 (k:Nat):Int:=match k with|0=>4294967295|1=>16777215|2=>65535|3=>255|_=>0
def sz2 (k:Nat):Int:=match k with|0=>65535|1=>255|_=>0
theorem sizeOf4 (w:World):Calls prog 152 #[] w fun e w'=>e = .returned (.int .i64 4)∧w=w':=by
 go_enter func152,ntmps152;go_wp2
 go_loopw [1,2] (fun n x wr=>zr2 sz4 4 w n x wr) (fun n _ _=>4 - (intOf n).toNat)
 case atStart=>exact⟨rfl,0,by omega,rfl,rfl⟩
 case round =>
  obtain⟨rfl,k,hk,rfl,rfl⟩:=hrel.st;clear hrel;rcases (show k=0∨k=1∨k=2∨k=3∨k=4 by omega) with rfl|rfl|rfl|rfl|rfl
  ·unfold sz4
   go_wp2
   go_roundw
   case rel=>exact⟨rfl,1,by omega,rfl,rfl⟩
   case measure=>simp[intOf]
  ·unfold sz4
   go_wp2
   go_roundw
   case rel=>exact⟨rfl,2,by omega,rfl,rfl⟩
   case measure=>simp[intOf]
  ·unfold sz4
   go_wp2
   go_roundw
   case rel=>exact⟨rfl,3,by omega,rfl,rfl⟩
   case measure=>simp[intOf]
  ·unfold sz4
   go_wp2
   go_roundw
   case rel=>exact⟨rfl,4,by omega,rfl,rfl⟩
   case measure=>simp[intOf]
  ·unfold sz4
   go_wp2;go_ret;exact⟨rfl,rfl⟩
theorem zqI (w:World):Calls prog 151 #[] w fun e w'=>e = .returned (.int .i64 2)∧w=w':=by
 go_enter func151,ntmps151;go_wp2
 go_loopw [1,2] (fun n x wr=>zr2 sz2 2 w n x wr) (fun n _ _=>2 - (intOf n).toNat)
 case atStart=>exact⟨rfl,0,by omega,rfl,rfl⟩
 case round =>
  obtain⟨rfl,k,hk,rfl,rfl⟩:=hrel.st;clear hrel;rcases (show k=0∨k=1∨k=2 by omega) with rfl|rfl|rfl
  ·unfold sz2
   go_wp2
   go_roundw
   case rel=>exact⟨rfl,1,by omega,rfl,rfl⟩
   case measure=>simp[intOf]
  ·unfold sz2
   go_wp2
   go_roundw
   case rel=>exact⟨rfl,2,by omega,rfl,rfl⟩
   case measure=>simp[intOf]
  ·unfold sz2
   go_wp2;go_ret;exact⟨rfl,rfl⟩
structure zqW (w:World)(K:IntKind)(l:List UInt8)(n m:Nat)(F:zsi)(b x i:Value)(wr:World):Prop where
 st:∃ k:Nat,k≤m∧i = .int .i64 k∧x = .int K ((n / 256 ^ k:Nat):Int)∧Same w wr∧Sat wr (zbu b (l++leL n k)*F)
theorem zkZ (v:Value)(l:List UInt8)(n:Nat)(hn:n<4294967296)(hl:l.length≤1000000)(F:zsi)(w:World)(hS:Sat w (zbu v l*F)):
  Calls prog 136 #[v,.int .u32 (n:Int)] w fun e w'=>∃ v',e = .returned v'∧Hid (Same w w'∧Sat w' (zbu v' (l++leL n 4)*F)):=by
 obtain⟨ti,hti,hz0,hts,hz2⟩:=info_parts zdz;have HS:=zh hS;clear hS;go_enter func136,ntmps136;go_wp2_with (go_at_call 152;refine (sizeOf4 _).mono ?_;rintro e w' ⟨rfl,rfl⟩)
 go_loopw [0,1,6] (fun b x i wr=>zqW w .u32 l n 4 F b x i wr) (fun _ _ i _=>4 - (intOf i).toNat)
 case atStart=>exact⟨⟨0,by omega,rfl,by simp,Same.refl w,by simpa [leL] using HS.out⟩⟩
 case round =>
  obtain⟨k,hk,rfl,rfl,hsm,hs⟩:=hrel.st;clear hrel HS;have H1:=(zd hsm hs);obtain⟨ao,cap,rfl⟩:=zal hs;clear hsm hs
  by_cases hlt:k<4
  ·have hltd:decide ((k:Int)<4)=true:=decide_eq_true (by omega)
   have hk1:(k:Int)≤4:=by omega
   have hml:n / 256 ^ k<4294967296:=Nat.lt_of_le_of_lt (Nat.div_le_self _ _) hn;have hlb:=zgT n k
   have hsucc:n / 256 ^ k / 256=n / 256 ^ (k+1):=by rw[Nat.div_div_eq_div_mul,Nat.pow_succ]
   have HLB:=zh hlb;have HSU:=zh hsucc;have HLEN:=zh (show (l++leL n k).length≤1000004 by rw[List.length_append,zaK];omega);clear hlb hsucc hl;generalize n / 256 ^ k=m at hml HLB HSU ⊢
   have hm0:(0:Int)≤(m:Int):=by omega
   have hm1:(m:Int)<4294967296:=by omega
   go_wp2_with (at_builtin;rw[HLB.out];refine zaq (F:=F) rfl _ _ 69 zaM rfl ti _ underlying69 hti hz0 hts hz2 rfl (H1.out.2.allocKeep _) [.int .u8 ((leB n k).toNat:Int)] rfl rfl rfl ?_ (by simp[Value.oneCell']) (by have:=HLEN.out;unfold maxLen;omega) (by have:=HLEN.out;omega) ?_)
   ·intro j u hu
    match j,hu with
    | 0,hu=>rw[Addr.add_mid,zab (heap_alloc_new _ _)];simpa using hu
   intro v' w2 h2;replace H1:=(zd ((H1.out.1.alloc _).trans h2.out.1) h2.out.2);clear h2;go_wp2;refine⟨⟨k+1,by omega,rfl,by rw[← HSU.out];congr 1,H1.out.1,?_⟩,by simp only[intOf];omega⟩
   have e:zaY (l++leL n (k+1))=zaY (l++leL n k)++[.int .u8 ((leB n k).toNat:Int)]:=by simp[zaY,zeb,zb4]
   unfold zbu;rw[e,List.length_append,zaK];have:=H1.out.2;rw[zaK,Nat.add_assoc] at this;exact this
  ·obtain rfl:k=4:=by omega
   have hltd:decide (((4:Nat):Int)<4)=false:=by decide
   go_wp2;go_ret;exact⟨_,rfl,H1.out⟩
theorem zpn (v:Value)(l:List UInt8)(n:Nat)(hn:n<65536)(hl:l.length≤1000000)(F:zsi)(w:World)(hS:Sat w (zbu v l*F)):
  Calls prog 135 #[v,.int .u16 (n:Int)] w fun e w'=>∃ v',e = .returned v'∧Hid (Same w w'∧Sat w' (zbu v' (l++leL n 2)*F)):=by
 obtain⟨ti,hti,hz0,hts,hz2⟩:=info_parts zdz;have HS:=zh hS;clear hS;go_enter func135,ntmps135;go_wp2_with (go_at_call 151;refine (zqI _).mono ?_;rintro e w' ⟨rfl,rfl⟩)
 go_loopw [0,1,6] (fun b x i wr=>zqW w .u16 l n 2 F b x i wr) (fun _ _ i _=>2 - (intOf i).toNat)
 case atStart=>exact⟨⟨0,by omega,rfl,by simp,Same.refl w,by simpa [leL] using HS.out⟩⟩
 case round =>
  obtain⟨k,hk,rfl,rfl,hsm,hs⟩:=hrel.st;clear hrel HS;have H1:=(zd hsm hs);obtain⟨ao,cap,rfl⟩:=zal hs;clear hsm hs
  by_cases hlt:k<2
  ·have hltd:decide ((k:Int)<2)=true:=decide_eq_true (by omega)
   have hk1:(k:Int)≤2:=by omega
   have hml:n / 256 ^ k<65536:=Nat.lt_of_le_of_lt (Nat.div_le_self _ _) hn;have hlb:=zgT n k
   have hsucc:n / 256 ^ k / 256=n / 256 ^ (k+1):=by rw[Nat.div_div_eq_div_mul,Nat.pow_succ]
   have HLB:=zh hlb;have HSU:=zh hsucc;have HLEN:=zh (show (l++leL n k).length≤1000004 by rw[List.length_append,zaK];omega);clear hlb hsucc hl;generalize n / 256 ^ k=m at hml HLB HSU ⊢
   have hm0:(0:Int)≤(m:Int):=by omega
   have hm1:(m:Int)<65536:=by omega
   go_wp2_with (at_builtin;rw[HLB.out];refine zaq (F:=F) rfl _ _ 69 zaM rfl ti _ underlying69 hti hz0 hts hz2 rfl (H1.out.2.allocKeep _) [.int .u8 ((leB n k).toNat:Int)] rfl rfl rfl ?_ (by simp[Value.oneCell']) (by have:=HLEN.out;unfold maxLen;omega) (by have:=HLEN.out;omega) ?_)
   ·intro j u hu
    match j,hu with
    | 0,hu=>rw[Addr.add_mid,zab (heap_alloc_new _ _)];simpa using hu
   intro v' w2 h2;replace H1:=(zd ((H1.out.1.alloc _).trans h2.out.1) h2.out.2);clear h2;go_wp2;refine⟨⟨k+1,by omega,rfl,by rw[← HSU.out];congr 1,H1.out.1,?_⟩,by simp only[intOf];omega⟩
   have e:zaY (l++leL n (k+1))=zaY (l++leL n k)++[.int .u8 ((leB n k).toNat:Int)]:=by simp[zaY,zeb,zb4]
   unfold zbu;rw[e,List.length_append,zaK];have:=H1.out.2;rw[zaK,Nat.add_assoc] at this;exact this
  ·obtain rfl:k=2:=by omega
   have hltd:decide (((2:Nat):Int)<2)=false:=by decide
   go_wp2;go_ret;exact⟨_,rfl,H1.out⟩
theorem zlL (a b:Nat)(ha:a<4611686018427387904)(hb:b<4611686018427387904):bits .or .i64 (a:Int) (b:Int)=((a ||| b:Nat):Int):=by
 have hx:a ||| b<2 ^ 62:=Nat.or_lt_two_pow (by omega) (by omega)
 have h1:(BitVec.ofInt 64 (a:Int)).toNat=a:=by
  rw[BitVec.ofInt_natCast,BitVec.toNat_ofNat];exact Nat.mod_eq_of_lt (by omega)
 have h2:(BitVec.ofInt 64 (b:Int)).toNat=b:=by
  rw[BitVec.ofInt_natCast,BitVec.toNat_ofNat];exact Nat.mod_eq_of_lt (by omega)
 show IntKind.i64.wrap ((BitVec.ofInt 64 (a:Int) ||| BitVec.ofInt 64 (b:Int)).toNat:Int)=_;rw[BitVec.toNat_or,h1,h2];exact IntWalk.i64_in _ (by omega)
def zaN:List UInt8→Nat
 | []=>0
 | b::r=>b.toNat+256*zaN r
theorem zie:∀ l:List UInt8,zaN l<256 ^ l.length
 | []=>by simp[zaN]
 | b::r=>by
  have h1:=zie r;have h2:=b.toNat_lt;show b.toNat+256*zaN r<256 ^ (r.length+1);rw[Nat.pow_succ];omega
theorem zgO:∀ (l:List UInt8) (b:UInt8),zaN (l++[b])=zaN l+b.toNat*256 ^ l.length
 | [],b=>by simp[zaN]
 | c::r,b=>by
  show c.toNat+256*zaN (r++[b])=c.toNat+256*zaN r+b.toNat*256 ^ (r.length+1);rw[zgO r b,Nat.pow_succ,Nat.mul_add,Nat.mul_comm (256 ^ r.length) 256,Nat.mul_left_comm,Nat.add_assoc]
theorem zoY {g x k:Nat}(hg:g<256 ^ k)(hx:x<256)(hk:k<4):bits .or .i64 (g:Int) (wrap64 (wrap64 (x:Int)*2 ^ (8*k)))=((g+x*256 ^ k:Nat):Int):=by
 have h1:x*256 ^ k<4611686018427387904:=by rcases (show k=0∨k=1∨k=2∨k=3 by omega) with rfl|rfl|rfl|rfl <;> omega
 have h2:g<4611686018427387904:=by rcases (show k=0∨k=1∨k=2∨k=3 by omega) with rfl|rfl|rfl|rfl <;> omega
 have h3:wrap64 (wrap64 (x:Int)*2 ^ (8*k))=((x*256 ^ k:Nat):Int):=by
  unfold wrap64
  rcases (show k=0∨k=1∨k=2∨k=3 by omega) with rfl|rfl|rfl|rfl <;> (try simp only[Nat.mul_zero,Int.pow_zero,Nat.pow_zero,Nat.mul_one]) <;> omega
 rw[h3,zlL _ _ h2 h1];congr 1
 have h4:x*256 ^ k=x <<< (8*k):=by rw[Nat.shiftLeft_eq,show (256:Nat)=2 ^ 8 from rfl,← Nat.pow_mul]
 rw[h4,Nat.or_comm,← Nat.shiftLeft_add_eq_or_of_lt (by rw[Nat.pow_mul];exact hg),Nat.add_comm]
structure zrA (w:World)(l:List UInt8)(n i:Value)(wr:World):Prop where
 st:wr=w∧∃ k:Nat,k≤l.length∧i = .int .i64 k∧n = .int .i64 (zaN (l.take k):Int)
theorem zif (l:List UInt8)(hl:l.length≤4)(w:World):
  Calls prog 147 #[.string (zae l)] w fun e w'=>e = .returned (.int .i64 (zaN l:Int))∧w=w':=by
 have hsz:(zae l).size=l.length:=zap l
 have HL:=zh (show ∀ s,s=zae l→∀ (k:Nat) (x:UInt8),l[k]?=some x→∀ h:k<s.size,s[k]'h=x from fun s hs k x hk h=>by
  subst hs
  exact (List.getElem?_eq_some_iff.1 hk).2)
 obtain⟨s,hs⟩:∃ s,zae l=s:=⟨_,rfl⟩;replace HL:=zh (HL.out s hs.symm);rw[hs] at hsz ⊢;have HSZ:=zh hsz;clear hs;go_enter func147,ntmps147;go_wp2
 go_loopw [3,4,7] (fun n _ i wr=>zrA w l n i wr) (fun _ _ i _=>4 - (intOf i).toNat)
 case atStart=>exact⟨rfl,0,by omega,rfl,rfl⟩
 case round =>
  obtain⟨rfl,k,hk,rfl,rfl⟩:=hrel.st;clear hrel
  by_cases hlt:k<l.length
  ·have hks:k<s.size:=by omega
   have hgl:=zie (l.take k);rw[List.length_take,Nat.min_eq_left (by omega)] at hgl
   have hsn:zaN (l.take (k+1))=zaN (l.take k)+(l[k]).toNat*256 ^ k:=by
    rw[List.take_succ_eq_append_getElem hlt,zgO,List.length_take,Nat.min_eq_left (by omega)]
   have hb:=HL.out k _ (List.getElem?_eq_getElem hlt) hks;have hxl:=(l[k]).toNat_lt;generalize l[k]=x at hsn hb hxl;have HSN:=zh hsn;have HB:=zh hb;have hltd:decide ((k:Int)<(s.size:Int))=true:=decide_eq_true (by omega)
   have hk4:(k:Int)≤4:=by omega
   clear hsn hb hsz;go_wp2;rw[HB.out,zoY hgl hxl (by omega)];exact⟨⟨rfl,k+1,by omega,rfl,by rw[HSN.out]⟩,by simp only[intOf];omega⟩
  ·obtain rfl:k=l.length:=by omega
   rw[List.take_length];have hltd:decide ((l.length:Int)<(s.size:Int))=false:=decide_eq_false (by omega);clear hsz;go_wp2;go_ret;exact⟨rfl,rfl⟩
structure GenM where
 epoch:Int
 count:Int
 deriving DecidableEq
abbrev zam:TypeId:=42
abbrev zcH (g:GenM):Array Value:=#[.int .i64 g.epoch,.int .i64 g.count]
def g0:GenM:=⟨0,0⟩
def zcm (a b:GenM):Bool:=decide (b.epoch<a.epoch) || (decide (a.epoch=b.epoch)&&decide (b.count<a.count))
def zbk (a:zsj):Bool:=decide (0≤a.disk)&&decide (a.disk<64)&&decide (1≤a.area)&&decide (a.area≤4)&&decide (0≤a.index)&&decide (a.index<65536)
theorem zeJ (a:zsj)(w:World):Calls prog 121 #[.agg (plA a)] w fun e w'=>e = .returned (.bool (zbk a))∧Below w.heap.size w w':=by
 have he:zbk a=(decide (0≤a.disk)&&decide (a.disk<64)&&decide (1≤a.area)&&decide (a.area≤4)&&decide (0≤a.index)&&decide (a.index<65536)):=rfl;cases h0:decide (0≤a.disk)
 ·rw[he,h0];clear he
  go_enter func121,ntmps121;go_wp2;go_ret;exact⟨rfl,(Below.refl _ _).alloc (Nat.le_refl _) _⟩
 cases h1:decide (a.disk<64)
 ·rw[he,h0,h1];clear he
  go_enter func121,ntmps121;go_wp2;go_ret;exact⟨rfl,(Below.refl _ _).alloc (Nat.le_refl _) _⟩
 cases h2:decide (1≤a.area)
 ·rw[he,h0,h1,h2];clear he
  go_enter func121,ntmps121;go_wp2;go_ret;exact⟨rfl,(Below.refl _ _).alloc (Nat.le_refl _) _⟩
 cases h3:decide (a.area≤4)
 ·rw[he,h0,h1,h2,h3];clear he
  go_enter func121,ntmps121;go_wp2;go_ret;exact⟨rfl,(Below.refl _ _).alloc (Nat.le_refl _) _⟩
 cases h4:decide (0≤a.index)
 ·rw[he,h0,h1,h2,h3,h4];clear he
  go_enter func121,ntmps121;go_wp2;go_ret;exact⟨rfl,(Below.refl _ _).alloc (Nat.le_refl _) _⟩
 cases h5:decide (a.index<65536)
 ·rw[he,h0,h1,h2,h3,h4,h5];clear he
  go_enter func121,ntmps121;go_wp2;go_ret;exact⟨rfl,(Below.refl _ _).alloc (Nat.le_refl _) _⟩
 rw[he,h0,h1,h2,h3,h4,h5];clear he;go_enter func121,ntmps121;go_wp2;go_ret;exact⟨rfl,(Below.refl _ _).alloc (Nat.le_refl _) _⟩
def zcQ (g:GenM):Bool:=decide (0≤min g.epoch g.count)&&decide (max g.epoch g.count<4294967296)&&decide (g≠g0)
theorem zgq (g:GenM)(w:World):Calls prog 134 #[.agg (zcH g)] w fun e w'=>e = .returned (.bool (zcQ g))∧Below w.heap.size w w':=by
 have he:zcQ g=(decide (0≤min g.epoch g.count)&&decide (max g.epoch g.count<4294967296)&&decide (g≠g0)):=rfl;cases h0:decide (0≤min g.epoch g.count)
 ·rw[he,h0];clear he
  go_enter func134,ntmps134;go_wp2;go_ret;exact⟨rfl,(Below.refl _ _).alloc (Nat.le_refl _) _⟩
 cases h1:decide (max g.epoch g.count<4294967296)
 ·rw[he,h0,h1];clear he
  go_enter func134,ntmps134;go_wp2;go_ret;exact⟨rfl,(Below.refl _ _).alloc (Nat.le_refl _) _⟩
 rw[he,h0,h1];clear he;obtain⟨e,c⟩:=g;simp only at h0 h1
 by_cases e0:e=0
 ·subst e0
  by_cases c0:c=0
  ·subst c0
   go_enter func134,ntmps134;go_wp2;go_ret;exact⟨by simp[g0],(Below.refl _ _).alloc (Nat.le_refl _) _⟩
  ·have cb:(c==0)=false:=by simp[c0]
   rw[show (true&&true&&decide ((⟨0,c⟩:GenM)≠g0))=true by simp[g0,c0]];clear c0;go_enter func134,ntmps134;go_wp2;go_ret;exact⟨by rfl,(Below.refl _ _).alloc (Nat.le_refl _) _⟩
 ·have eb:(e==0)=false:=by simp[e0]
  rw[show (true&&true&&decide ((⟨e,c⟩:GenM)≠g0))=true by simp[g0,e0]];clear e0;go_enter func134,ntmps134;go_wp2;go_ret;exact⟨by rfl,(Below.refl _ _).alloc (Nat.le_refl _) _⟩
end Go.Proofs.YtmcclbiaoeilkaaGreat
end
section
namespace Go.Sl
open Go Go.RowKit
namespace zsg
theorem new_bay (c:zsl){d:Int}(h0:0≤d)(h1:d<c.disks):(new c).bay d=some ⟨zsh.new c.sectors,1⟩:=by
 rw[bay_some];refine⟨h0,?_⟩;show (List.replicate c.disks.toNat _)[d.toNat]?=_;rw[List.getElem?_replicate,if_pos (by omega)]
theorem bay_state {S:zsg}{d:Int}{b:zsk}(h:S.bay d=some b):S.state d=b.state:=by unfold state;rw[h]
theorem bay_disk {S:zsg}{d:Int}{b:zsk}(h:S.bay d=some b):S.disk d=b.disk:=by unfold disk;rw[h]
theorem zhh {S:zsg}{d e:Int}{D:zsh}(h1:0≤d)(h2:d<(S.bays.length:Int)):(S.setDisk d D).bay e=if e=d then some ⟨D,S.state d⟩ else S.bay e:=zjx h1 h2
theorem setDisk_state {S:zsg}{d e:Int}{D:zsh}(h1:0≤d)(h2:d<(S.bays.length:Int)):(S.setDisk d D).state e=S.state e:=by
 unfold state;rw[zhh h1 h2]
 by_cases he:e=d
 ·subst he;rw[if_pos rfl];rfl
 ·rw[if_neg he]
theorem setDisk_disk {S:zsg}{d e:Int}{D:zsh}(h1:0≤d)(h2:d<(S.bays.length:Int)):(S.setDisk d D).disk e=if e=d then D else S.disk e:=by
 unfold disk;rw[zhh h1 h2]
 by_cases he:e=d
 ·subst he;rw[if_pos rfl,if_pos rfl]
 ·rw[if_neg he,if_neg he]
theorem step_run {S:zsg}{d:Int}{f:zsh→zsh}(h1:S.off=false)(h2:S.state d=1)(h3:S.fused=false):S.step d f=(S.setDisk d (f (S.disk d)),0):=by
 unfold step;rw[if_neg (by simp[h1]),if_neg (by simp[h2]),if_neg (by simp[h3])]
end zsg
namespace zsh
theorem has_of {D:zsh}{n:Int}(h0:0≤n)(h1:n<(D.n:Int)):D.has n=true:=has_iff.2 ⟨h0,h1⟩
theorem write_ok {D:zsh}{n:Nat}{s:List UInt8}(h:n<D.n)(hs:s.length=64)(ha:D.armed n=none):D.write (n:Int) s=({ D with cache:=za7 D.cache n (some s) },0):=by
 unfold write;rw[if_pos ⟨has_of (by omega) (by omega),hs⟩];unfold put;rw[Int.toNat_natCast,ha]
end zsh
namespace zsg
theorem zd4:∀ (l:List zsk) (p:List Int) (j:Nat),((cutBays l p)[j]?).map zsk.state=(l[j]?).map zsk.state
 | [],_,_=>rfl
 | b::r,p,0=>by
  show ((if b.state=1 then _ else _)[0]?).map zsk.state=_;split
  ·rename_i h;simp[h]
  ·rfl
 | b::r,p,j+1=>by
  show ((if b.state=1 then _ else _)[j+1]?).map zsk.state=_;split
  ·rw[List.getElem?_cons_succ,List.getElem?_cons_succ];exact zd4 r _ j
  ·rw[List.getElem?_cons_succ,List.getElem?_cons_succ];exact zd4 r _ j
theorem zld (S:zsg)(d:Int):S.state d=if 0≤d then ((S.bays[d.toNat]?).map zsk.state).getD 0 else 0:=by
 unfold state bay
 by_cases h:0≤d
 ·rw[if_pos h,if_pos h]
  cases S.bays[d.toNat]? <;> rfl
 ·rw[if_neg h,if_neg h]
theorem mount_state (S:zsg)(p:List Int)(d:Int):(S.mount p).state d=S.state d:=by
 rw[zld,zld];show (if 0≤d then (((cutBays S.bays p)[d.toNat]?).map zsk.state).getD 0 else 0)=_;rw[zd4]
end zsg
end Go.Sl
end
