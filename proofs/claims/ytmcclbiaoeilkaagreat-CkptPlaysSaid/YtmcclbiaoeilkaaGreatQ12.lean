import Derived.Lib.Strings
import Derived.Lib.BufferWrite
import Derived.Lib.UnsafeStr
import Derived.Laws.MakeOwn
import Derived.Lib.AppendStr
import Derived.Lib.AppendZerosOnto
import Derived.Test.YtmcclbiaoeilkaaGreatQ11
set_option maxHeartbeats 1000000
set_option maxRecDepth 20000
/- Part 12 of a proof;the last part says what is proved. -/
section
namespace Go.Proofs.YtmcclbiaoeilkaaGreat
open Go.Proofs.Tryz Go.RowKit Go.Sl Go.ChangeMaps
def zp9 (x y:Int):Int:=if x<y then -1 else if y<x then 1 else 0
theorem zgR (x:Int)(w:World):Calls prog 146 #[x] w fun e w'=>e = .returned (.bool false)∧w=w':=by
 go_enter func146,ntmps146;go_wp2;go_ret;simp
theorem zgH (x y:Int)(w:World):Calls prog 117 #[x,y] w fun e w'=>e = .returned (.int .i64 (zp9 x y))∧w=w':=by
 unfold zp9
 by_cases h1:x<y
 ·rw[if_pos h1]
  have h1d:decide (x<y)=true:=decide_eq_true h1;clear h1;go_enter func117,ntmps117;go_wp2_with (go_at_call 146;refine (zgR _ _).mono ?_;rintro e w1 ⟨rfl,rfl⟩);go_ret;exact⟨rfl,rfl⟩
 rw[if_neg h1];have h1d:decide (x<y)=false:=decide_eq_false h1
 by_cases h2:y<x
 ·rw[if_pos h2]
  have h2d:decide (y<x)=true:=decide_eq_true h2;clear h1 h2;go_enter func117,ntmps117;go_wp2_with (go_at_call 146;refine (zgR _ _).mono ?_;rintro e w1 ⟨rfl,rfl⟩);go_ret;exact⟨rfl,rfl⟩
 ·rw[if_neg h2]
  have h2d:decide (y<x)=false:=decide_eq_false h2;clear h1 h2;go_enter func117,ntmps117;go_wp2_with (go_at_call 146;refine (zgR _ _).mono ?_;rintro e w1 ⟨rfl,rfl⟩);go_ret;exact⟨rfl,rfl⟩
def orI (a b:Int):Int:=if a=0 then b else a
structure zr6 (w:World)(a b:Int)(i:Value)(wr:World):Prop where
 st:wr=w∧∃ k:Nat,i = .int .i64 k∧(k=0∨(k=1∧a=0)∨(k=2∧a=0∧b=0))
theorem zrh (a b:Int)(B:Nat)(w:World)(c0:w.cell? ⟨B,0,none⟩=some (.int .i64 a))(c1:w.cell? ⟨B,1,none⟩=some (.int .i64 b)):
  Calls prog 116 #[.slice (some ⟨B,0,none⟩) 2 2] w fun e w'=>e = .returned (.int .i64 (orI a b))∧w=w':=by
 go_enter func116,ntmps116;go_wp2
 go_loopw [8] (fun i wr=>zr6 w a b i wr) (fun i _=>2 - (intOf i).toNat)
 case atStart=>exact⟨rfl,0,rfl,.inl rfl⟩
 case round =>
  obtain⟨rfl,k,rfl,hk⟩:=hrel.st;clear hrel;rcases hk with rfl|⟨rfl,ha⟩|⟨rfl,ha,hb⟩
  ·by_cases ha:a=0
   ·have hab:(a != 0)=false:=by simp[ha]
    have HA:=zh ha;clear ha;go_wp2;exact⟨⟨rfl,1,rfl,.inr (.inl ⟨rfl,HA.out⟩)⟩,by simp[intOf]⟩
   ·have hab:(a != 0)=true:=by simp[ha]
    have HA:=zh (show orI a b=a from if_neg ha);clear ha;go_wp2;go_ret;exact⟨by rw[HA.out];rfl,rfl⟩
  ·have HA:=zh ha
   have HO:=zh (show orI a b=b from if_pos ha);clear ha c0
   by_cases hb:b=0
   ·have hbb:(b != 0)=false:=by simp[hb]
    have HB:=zh hb;clear hb;go_wp2;exact⟨⟨rfl,2,rfl,.inr (.inr ⟨rfl,HA.out,HB.out⟩)⟩,by simp[intOf]⟩
   ·have hbb:(b != 0)=true:=by simp[hb]
    clear hb;go_wp2;go_ret;exact⟨by rw[HO.out];rfl,rfl⟩
  ·subst ha hb
   go_wp2;go_ret;exact⟨rfl,rfl⟩
theorem zja (a b:GenM)(w:World):Calls prog 69 #[.agg (zcH a),.agg (zcH b)] w fun e w'=>e = .returned (.bool (zcm a b))∧Below w.heap.size w w':=by
 obtain⟨ae,ac⟩:=a;obtain⟨be,bc⟩:=b
 have hnew:zcm ⟨ae,ac⟩ ⟨be,bc⟩=decide (0<orI (zp9 ae be) (zp9 ac bc)):=by
  unfold zcm orI zp9
  by_cases h1:ae<be
  ·rw[if_pos h1];simp;omega
  ·rw[if_neg h1]
   by_cases h2:be<ae
   ·rw[if_pos h2];simp[h2]
   ·rw[if_neg h2]
    have:ae=be:=by omega
    subst this
    by_cases h3:ac<bc
    ·rw[if_pos h3];simp;omega
    ·rw[if_neg h3]
     by_cases h4:bc<ac
     ·rw[if_pos h4];simp[h4]
     ·rw[if_neg h4];simp[h4]
 rw[hnew]
 have hca:=fun W=>zgH ae be W
 have hcc:=fun W=>zgH ac bc W
 generalize zp9 ae be=x at hca ⊢;generalize zp9 ac bc=y at hcc ⊢;have HCA:=zh hca;have HCC:=zh hcc;clear hca hcc hnew;go_enter func69,ntmps69;go_upto_region 1 with (fail)
 have hb0:Below w.heap.size w ((w.alloc (.cells #[ae,ac] zam)).alloc (.cells #[be,bc] zam)):=((Below.refl _ w).alloc (Nat.le_refl _) _).alloc (by simp) _;have hA:=(heap_alloc_new w (.cells #[ae,ac] zam));have hB:=(heap_alloc_new (w.alloc (.cells #[ae,ac] zam)) (.cells #[be,bc] zam));rw[World.size_alloc] at hB;have hA2:((w.alloc (.cells #[ae,ac] zam)).alloc (.cells #[be,bc] zam)).heap[w.heap.size]?=some (.cells #[ae,ac] zam (0,0)):=(Below.heap_alloc _ _ _ (by simp)).trans hA;generalize (w.alloc (.cells #[ae,ac] zam)).alloc (.cells #[be,bc] zam)=w1 at hb0 hA2 hB ⊢
 have hlt1:w.heap.size<w1.heap.size:=(Array.getElem?_eq_some_iff.1 hA2).1;have hlt2:w.heap.size+1<w1.heap.size:=(Array.getElem?_eq_some_iff.1 hB).1;have HB0:=zh hb0;clear hb0 hA;generalize hg0:w.heap.size=g at hA2 hB hlt1 hlt2 HB0 ⊢;have hS0:w1.drew.cell? ⟨g,0,none⟩=some (.int .i64 ae)∧w1.drew.cell? ⟨g,1,none⟩=some (.int .i64 ac)∧w1.drew.cell? ⟨g+1,0,none⟩=some (.int .i64 be)∧w1.drew.cell? ⟨g+1,1,none⟩=some (.int .i64 bc):=⟨zab hA2 0,zab hA2 1,zab hB 0,zab hB 1⟩;refine zah (fun w'=>w'.cell? ⟨g,0,none⟩=some (.int .i64 ae)∧w'.cell? ⟨g,1,none⟩=some (.int .i64 ac)∧w'.cell? ⟨g+1,0,none⟩=some (.int .i64 be)∧w'.cell? ⟨g+1,1,none⟩=some (.int .i64 bc)) (by kernel_rfl) ?_
 (apply zaa 0 rfl rfl (by kernel_rfl) rfl);(rintro w' ⟨h1,h2,h3,h4⟩;go_simp;rfl);exact hS0;simp only[zq];(apply zaa 1 rfl rfl (by kernel_rfl) rfl);(rintro w' ⟨h1,h2,h3,h4⟩;go_simp;rfl);exact hS0;simp only[zq];(apply zaa 2 rfl rfl (by kernel_rfl) rfl);(rintro w' ⟨h1,h2,h3,h4⟩;go_simp;rfl);exact hS0;simp only[zq];(apply zaa 3 rfl rfl (by kernel_rfl) rfl);(rintro w' ⟨h1,h2,h3,h4⟩;go_simp;rfl);exact hS0;simp only[zq];(apply zaa 5 rfl rfl (by kernel_rfl) rfl);(rintro w' ⟨h1,h2,h3,h4⟩;go_simp;rfl);exact hS0;simp only[zq]
 (apply zaa 6 rfl rfl (by kernel_rfl) rfl);(rintro w' ⟨h1,h2,h3,h4⟩;go_simp;rfl);exact hS0;simp only[zq];(apply zaa 7 rfl rfl (by kernel_rfl) rfl);(rintro w' ⟨h1,h2,h3,h4⟩;go_simp;rfl);exact hS0;simp only[zq];(apply zaa 8 rfl rfl (by kernel_rfl) rfl);(rintro w' ⟨h1,h2,h3,h4⟩;go_simp;rfl);exact hS0;simp only[zq];refine zan 4 rfl rfl (by kernel_rfl) rfl (f:=117) (args:=#[.int .i64 ae,.int .i64 be]) (R:=fun v w'=>v = .int .i64 x∧w1.drew=w') (by kernel_rfl) ((HCA.out _).mono fun e w' h=>⟨_,h.1,rfl,h.2⟩) ?_
 rintro _ _ ⟨rfl,rfl⟩;refine⟨hS0,?_⟩;simp only[zq];refine zan 9 rfl rfl (by kernel_rfl) rfl (f:=117) (args:=#[.int .i64 ac,.int .i64 bc]) (R:=fun v w'=>v = .int .i64 y∧w1.drew=w') (by kernel_rfl) ((HCC.out _).mono fun e w' h=>⟨_,h.1,rfl,h.2⟩) ?_;rintro _ _ ⟨rfl,rfl⟩;refine⟨hS0,?_⟩;simp only[zq]
 have hS1:(w1.drew.alloc (.cells #[x,y] zbP)).cell? ⟨g,0,none⟩=some (.int .i64 ae)∧(w1.drew.alloc (.cells #[x,y] zbP)).cell? ⟨g,1,none⟩=some (.int .i64 ac)∧(w1.drew.alloc (.cells #[x,y] zbP)).cell? ⟨g+1,0,none⟩=some (.int .i64 be)∧(w1.drew.alloc (.cells #[x,y] zbP)).cell? ⟨g+1,1,none⟩=some (.int .i64 bc):=
  ⟨(World.cell?_alloc_lt _ _ _ hlt1).trans hS0.1,(World.cell?_alloc_lt _ _ _ hlt1).trans hS0.2.1,(World.cell?_alloc_lt _ _ _ hlt2).trans hS0.2.2.1,(World.cell?_alloc_lt _ _ _ hlt2).trans hS0.2.2.2⟩
 refine zaV 10 (.slice (some ⟨w1.drew.heap.size,0,none⟩) 2 2) (w1.drew.alloc (.cells #[x,y] zbP)) rfl rfl (by kernel_rfl) rfl (by go_simp) (hS1) ?_;simp only[zq];have hN:=heap_alloc_new w1.drew (.cells #[x,y] zbP);have hor:=zrh x y w1.drew.heap.size (w1.drew.alloc (.cells #[x,y] zbP)) (zab hN 0) (zab hN 1);have HBF:=zh (show Below g w (w1.drew.alloc (.cells #[x,y] zbP)) from HB0.out.drew.alloc (by show g≤w1.heap.size;omega) _);clear hN;generalize w1.drew.alloc (.cells #[x,y] zbP)=w3 at hS1 hor HBF ⊢
 refine zan 11 rfl rfl (by kernel_rfl) rfl (f:=116) (args:=#[.slice (some ⟨w1.drew.heap.size,0,none⟩) 2 2]) (R:=fun v w'=>v = .int .i64 (orI x y)∧w3=w') (by kernel_rfl) (hor.mono fun e w' h=>⟨_,h.1,rfl,h.2⟩) ?_;rintro _ _ ⟨rfl,rfl⟩;refine⟨hS1,?_⟩;simp only[zq];(apply zaa 12 rfl rfl (by kernel_rfl) rfl);(rintro w' ⟨h1,h2,h3,h4⟩;go_simp;rfl);exact hS1;simp only[zq];(apply zaa 13 rfl rfl (by kernel_rfl) rfl);(rintro w' ⟨h1,h2,h3,h4⟩;go_simp;rfl);exact hS1;simp only[zq];refine zar (by kernel_rfl) ?_;go_wp2
 go_ret;exact⟨rfl,by rw[hg0];exact HBF.out⟩
theorem zkp (s:ByteArray)(w:World)(hlim:s.size≤281474976710656):Calls prog 148 #[.string s] w fun e w'=>e = .returned (.string s)∧Below w.heap.size w w':=by
 by_cases h0:s.size=0
 ·have hs:s=⟨#[]⟩:=by
   apply ByteArray.ext;exact Array.eq_empty_of_size_eq_zero h0
  subst hs;go_enter func148,ntmps148;go_wp2;go_ret;exact⟨rfl,Below.refl _ _⟩
 ·obtain⟨i0,hi,hz0,hz1,hz2⟩:=info_parts zdz
  have hinfo:(prog.info? 5).map (·.size)=some 1:=by rw[hi];simp[hz1]
  have hco:prog.cellsOf 5=1:=by simp[Program.cellsOf,hi,hz1]
  obtain⟨M,hM⟩:∃ M,M=madeCells (Value.int .u8 0).cells (((s.size:Nat):Int).toNat*i0.size):=⟨_,rfl⟩
  have hMs:M.size=s.size:=by rw[hM,size_madeCells,hz1];simp
  have hmk:∀ W:World,(Instr.makeSlice 69 (.int .i64 (s.size:Int)) (.int .i64 (s.size:Int))).run prog W = .ok (.slice (some ⟨W.heap.size,0,none⟩) s.size s.size) (W.alloc (.cells M 5)):=fun W=>by
   have h:=run_make (P:=prog) W 69 5 i0 (.int .u8 0) underlying69 hi hz0 .i64 .i64 (s.size:Int) (s.size:Int) (by omega) (by omega) (by rw[hz2];omega) (by omega);rw[← hM] at h;simpa using h
  clear hM;have hcp:=Lib.run_copy_row_string (P:=prog) (w.alloc (.cells M 5)) 69 9 3 5 w.heap.size 0 s.size s.size s M 5 underlying69 hinfo (heap_alloc_new w _) (Nat.le_refl _) (by omega);obtain⟨Y,hY⟩:∃ Y,Y=(M.toList.take 0++Lib.byteCells s.data.toList++M.toList.drop (0+s.size)).toArray:=⟨_,rfl⟩;rw[← hY] at hcp
  have hYl:Y.toList=Lib.byteCells s.data.toList:=by
   rw[hY,List.toList_toArray,List.take_zero,List.nil_append,List.drop_of_length_le (by rw[Array.length_toList];omega),List.append_nil]
  have hYs:Y.size=s.size:=by rw[← Array.length_toList,hYl,Lib.byteCells_length,← Lib.size_eq]
  have hgY:((w.alloc (.cells M 5)).setRow w.heap.size Y).heap[w.heap.size]?=some (.cells Y 5 (0,0)):=setRow_heap _ _ M _ 5 (0,0) (heap_alloc_new w _)
  have hne:s.data.toList≠[]:=fun e=>h0 (by rw[Lib.size_eq,e];rfl)
  have hUS:=Lib.run_unsafeString_row (P:=prog) ((w.alloc (.cells M 5)).setRow w.heap.size Y) 180 3 9 5 underlying180 hco w.heap.size Y.size (by unfold World.shape?;rw[hgY]) s.data.toList hne (by rw[← Lib.size_eq];omega) (by rw[← Lib.size_eq];omega)
   (fun j x hx=>Lib.cells_of_row hgY Y.size j _ (by rw[List.take_of_length_le (by rw[Array.length_toList];exact Nat.le_refl _),hYl];simp[Lib.byteCells,hx]))
  rw[← Lib.size_eq] at hUS;clear hY
  have h0b:((s.size:Int)==0)=false:=by simp[h0]
  go_enter func148,ntmps148;go_wp2;go_ret;have hb1:Below w.heap.size w (w.alloc (.cells M 5)):=(Below.refl _ w).alloc (Nat.le_refl _) _;have hb2:Below w.heap.size (w.alloc (.cells M 5)) ((w.alloc (.cells M 5)).setRow w.heap.size Y):=⟨rfl,rfl,rfl,by simp,fun k hk=>setRow_other _ _ _ _ (by omega)⟩;exact⟨rfl,Lib.below_freeze (hb1.trans hb2) (p:=⟨w.heap.size,0,none⟩) (Nat.le_refl _) _⟩
theorem zmJ (s:ByteArray)(w:World)(hlim:s.size≤281474976710656):Calls prog 123 #[.string s] w fun e w'=>e = .returned (.string s)∧Below w.heap.size w w':=by
 go_enter func123,ntmps123;go_wp2_with (go_at_call 148;refine (zkp s w hlim).mono ?_;rintro e w1 ⟨rfl,hb⟩);go_ret;exact⟨rfl,hb⟩
theorem zfQ (c:zsl)(w:World):(Instr.field 23 (.agg (za8 c)) 0).run prog w = .ok (.int .i64 c.disks) w:=by kernel_rfl
end Go.Proofs.YtmcclbiaoeilkaaGreat
namespace Go.Proofs.YtmcclbiaoeilkaaGreat
open Go.Proofs.Tryz Go.RowKit Go.Sl Go.ChangeMaps
theorem zao (l:List UInt8):(zaY l).length=l.length:=by simp[zaY]
theorem ziA (l:List UInt8):Lib.strCells (zae l)=zaY l:=by
 simp[Lib.strCells,zae,zaY,zb4]
theorem zjg {w:World}{F:zsi}(l:List UInt8)(c:Array Value)(hc:c.toList=zaY l)(hl:l.length≤maxLen)(hF:Sat w F):Sat (w.alloc (.cells c zaM)) (zbu (.slice (some ⟨w.heap.size,0,none⟩) l.length l.length) l*F):=by
 have h1:c.size=l.length:=by rw[← Array.length_toList,hc,zao]
 refine za4.2 (.inr ⟨w.heap.size,l.length,c,⟨rfl,Nat.le_refl _,hl,by omega,?_,by rw[zao];omega⟩,hF.alloc _⟩);rw[hc,List.take_of_length_le (by rw[zao];omega)]
theorem ziG (n:Nat):(Builtin.zeroCells (Value.int .u8 0).cells n).toList=List.replicate n (.int .u8 0):=by
 have h:(Value.int .u8 0).cells=#[Value.int .u8 0]:=rfl;rw[h];unfold Builtin.zeroCells;apply List.ext_getElem?;intro j;simp[Nat.mod_one,List.getElem?_replicate]
 split <;> simp_all
section
variable {w:World} {F:zsi} {v:Value} {l:List UInt8}
theorem zeX (h0:0<l.length):Sat w (zbu v l*F)→∃ g cap cur,v = .slice (some ⟨g,0,none⟩) l.length cap∧l.length≤cap∧cap≤maxLen∧cur.size=cap∧cur.toList.take l.length=zaY l∧Sat w (pts g (.cells cur zaM (0,0))*F):=by
 intro h;rcases za4.1 h with ⟨_,h2,_⟩|⟨g,cap,cur,⟨h1,h2,h3,h4,h5,_⟩,hs⟩
 ·omega
 ·exact⟨g,cap,cur,h1,h2,h3,by omega,by rw[Nat.mul_one] at h5;exact h5,hs⟩
theorem zdR {g:Nat}{cur:Array Value}(ht:cur.toList.take l.length=zaY l)(hb:w.heap[g]?=some (.cells cur zaM (0,0))):∀ j u,(zaY l)[j]?=some u→w.cell? ((⟨g,0,none⟩:Addr).add j)=some u:=by
 intro j u hu;rw[Addr.add_mid,zab hb,Nat.zero_add];rw[← ht,List.getElem?_take] at hu;split at hu
 ·rw[Array.getElem?_toList] at hu;exact hu
 ·cases hu
theorem zjh (m:List UInt8)(old:Nat)(hF:Sat w F)(h63:l.length+m.length≤maxLen)(c:Array Value)(k:Nat)(hk:k=grownCap w (l.length+m.length) old zaM)(hc:c.toList=zaY l++zaY m++List.replicate (k - (l.length+m.length)) (.int .u8 0)):
  Sat (w.drew.alloc (.cells c zaM)) (zbu (.slice (some ⟨w.heap.size,0,none⟩) (l.length+m.length) k) (l++m)*F):=by
 have hge:=grownCap_ge w (l.length+m.length) old zaM;have hcm:grownCap w (l.length+m.length) old zaM≤maxLen:=grownCap_le_maxLen w (l.length+m.length) old zaM h63;rw[← hk] at hge hcm;have e:(l++m).length=l.length+m.length:=List.length_append
 have e2:zaY (l++m)=zaY l++zaY m:=by simp[zaY]
 unfold zbu;rw[e,e2];refine za4.2 (.inr ⟨w.heap.size,k,c,⟨rfl,hge,hcm,?_,?_,by rw[List.length_append,zao,zao,Nat.mul_one]⟩,hF.drew.alloc _⟩)
 ·rw[← Array.length_toList,hc]
  simp only[List.length_append,zao,List.length_replicate];omega
 ·rw[hc,List.take_left' (by rw[List.length_append,zao,zao,Nat.mul_one])]
theorem zkW (m:List UInt8){g cap:Nat}{cur:Array Value}(ht:cur.toList.take l.length=zaY l)(hsz:cur.size=cap)(hcm:cap≤maxLen)(hr:l.length+m.length≤cap)(hs:Sat w (pts g (.cells cur zaM (0,0))*F))(c:Array Value)(hc:c.toList=cur.toList.take l.length++zaY m++cur.toList.drop (l.length+m.length)):
  Sat (w.setRow g c) (zbu (.slice (some ⟨g,0,none⟩) (l.length+m.length) cap) (l++m)*F):=by
 have e:(l++m).length=l.length+m.length:=List.length_append
 have e2:zaY (l++m)=zaY l++zaY m:=by simp[zaY]
 have hlen:cur.toList.length=cap:=by rw[Array.length_toList];exact hsz
 unfold zbu;rw[e,e2];refine za4.2 (.inr ⟨g,cap,c,⟨rfl,hr,hcm,?_,?_,by rw[List.length_append,zao,zao,Nat.mul_one]⟩,hs.setRow⟩)
 ·rw[← Array.length_toList,hc]
  simp only[List.length_append,List.length_take,List.length_drop,zao];omega
 ·rw[hc,ht,List.take_left' (by rw[List.length_append,zao,zao,Nat.mul_one])]
theorem zfd (h0:0<l.length)(h:Sat w (zbu v l*F))(m:List UInt8)(hs:l.length+m.length≤1000000)(ty:TypeId):
  ∃ v' w',(Builtin.append_ #[69,9] ty #[v,.string (zae m)]).run prog w = .ok v' w'∧Same w w'∧Sat w' (zbu v' (l++m)*F):=by
 obtain⟨i,hi,hz,hsz,hby⟩:=info_parts zdz;obtain⟨g,cap,cur,rfl,hn,hcm,hcs,ht,hS⟩:=zeX h0 h;have hms:(zae m).size=m.length:=zap m;have hsc:=ziA m
 by_cases hr:l.length+m.length≤cap
 ·have hrun:=Lib.run_append_room_string (P:=prog) w 69 9 ty zaM i underlying69 underlying9 hi hsz g l.length cap cur hS.block (zae m) (by rw[hms];exact hr) (by rw[hms,hcs];exact hr)
  rw[hms,hsc] at hrun;exact⟨_,_,hrun,Same.setRow (Same.refl w) _ _,zkW m ht hcs hcm hr hS _ (by simp)⟩
 ·have hrun:=Lib.run_append_grow_string (P:=prog) w 69 9 ty zaM i _ underlying69 underlying9 hi hz ⟨g,0,none⟩ l.length cap (zaY l) (by rw[zao,hsz];omega) (zdR ht hS.block) (zae m) (by rw[hms];omega) (by rw[hms];omega) (by rw[hms];exact growslice_fits (by omega) (by rw[hby];omega))
  rw[hms,hsc] at hrun
  exact⟨_,_,hrun,((Same.refl w).drew).alloc _,zjh m cap hS.right (by unfold maxLen;omega) _ _ rfl (by
   simp only[Array.toList_append,List.append_assoc]
   rw[ziG])⟩
theorem zgt (h0:0<l.length)(h:Sat w (zbu v l*F))(m:Nat)(hs:l.length+m≤1000000)(ty:TypeId):
  ∃ v' w',(Builtin.append_ #[69,3] ty #[v,(m:Int)]).run prog w = .ok v' w'∧Same w w'∧Sat w' (zbu v' (l++zba m)*F):=by
 obtain⟨i,hi,hz,hsz,hby⟩:=info_parts zdz;obtain⟨g,cap,cur,rfl,hn,hcm,hcs,ht,hS⟩:=zeX h0 h
 have hzl:(zba m).length=m:=by simp[zba]
 by_cases hr:l.length+m≤cap
 ·have hst:=run_storeCells_at prog g l.length zaM (zaY (zba m)) 0 cur w hS.block (by rw[zao,hzl,hcs];omega) (fun u hu=>by
   obtain⟨x,_,rfl⟩:=List.mem_map.1 hu
   rfl)
  have hz0:zaY (zba m)=List.replicate m (.int .u8 0):=by simp[zaY,zba,zb4]
  have hw:IntKind.i64.wrap (m:Int)=m:=by rw[IntKind.wrap_i64];omega
  have hneg:¬ ((m:Int)<0):=by omega
  have h48:¬ (281474976710656<(m:Int)):=by omega
  have hzc:(if m=0 then #[] else Builtin.zeroCells (Value.int .u8 0).cells m)=(List.replicate m (.int .u8 0)).toArray:=by
   apply Array.ext';split
   ·next h=>subst h;rfl
   ·rw[ziG]
  have hrun:(Builtin.append_ #[69,3] ty #[.slice (some ⟨g,0,none⟩) l.length cap,(m:Int)]).run prog w = .ok (.slice (some ⟨g,0,none⟩) (l.length+m) cap) (w.setRow g (cur.toList.take l.length++zaY (zba m)++cur.toList.drop (l.length+m)).toArray):=by
   have hst':(storeCells ⟨g,l.length,none⟩ (List.replicate m (.int .u8 0)) 0).run prog w = .ok () (w.setRow g (cur.toList.take l.length++zaY (zba m)++cur.toList.drop (l.length+m)).toArray):=by
    rw[hz0] at hst ⊢;simpa using hst
   by_cases hm:m=0
   ·subst hm
    have hw0:IntKind.i64.wrap 0=0:=by decide
    simp[Builtin.append_,run_underlying underlying69,run_underlying underlying3,sizeOf,typeInfo,hi,hsz,asInt,asIntOf,hn,hw0,Addr.add_lit] at hst' ⊢
    first|done|simp[hst']
   ·simp[Builtin.append_,run_underlying underlying69,run_underlying underlying3,sizeOf,typeInfo,zeroValue,hi,hz,hsz,hby,asInt,asIntOf,hw,hneg,h48,hr,hm,Addr.add_lit,ziG]
    simp[hst']
  exact⟨_,_,hrun,Same.setRow (Same.refl w) _ _,by
   have:=zkW (zba m) ht hcs hcm (by rw[hzl];exact hr) hS (cur.toList.take l.length++zaY (zba m)++cur.toList.drop (l.length+m)).toArray (by simp[hzl])
   rwa [hzl] at this⟩
 ·have hrun:=Lib.run_append_grow_zeros (P:=prog) w 69 3 ty zaM i _ .i64 .i64 underlying69 underlying3 hi hz (some ⟨g,0,none⟩) l.length cap (zaY l) (by rw[hsz];exact run_firstCells_some w.drew 1 l.length ⟨g,0,none⟩ l.length cap (zaY l) (by rw[zao];omega) (zdR ht hS.drew.block)) m (by omega) (by omega) (by omega) (by omega) (by rw[hby];omega) (growslice_fits (by omega) (by rw[hby];omega))
  have:=zjh (l:=l) (zba m) cap hS.right (by rw[hzl];unfold maxLen;omega) ((zaY l).toArray++Builtin.zeroCells (Value.int .u8 0).cells m++Builtin.zeroCells (Value.int .u8 0).cells (grownCap w (l.length+m) cap zaM - (l.length+m))) _ (by rw[hzl]) (by
   rw[hzl];simp only[Array.toList_append,ziG]
   simp[zaY,zba,zb4])
  rw[hzl] at this;exact⟨_,_,hrun,((Same.refl w).drew).alloc _,this⟩
end
end Go.Proofs.YtmcclbiaoeilkaaGreat
end
section
namespace Go.Sl
open Go Go.RowKit
section
variable {P:Program} {ops:Array Oper} {Q:Exit→Act→World→Prop} {S:World→Prop}
def CallsQ (P:Program)(ops:Array Oper)(S:World→Prop)(o:Oper)(v:Value)(a:Act):Prop:=
 Region.wanted o (yielded ops a.tmps)=true∧∀ w,S w→∃ f args,(execOp a.eval o).run P w = .ok (.enter f args) w∧Calls P f args w fun e w'=>e = .returned v∧w=w'
theorem CallsQ.wpOp {i:Nat}{o:Oper}{v:Value}{a:Act}(hi:ops[i]?=some o)(hy:CallsQ P ops S o v a){K:Act→World→Prop}{w:World}(hS:S w)(h:K (a.put o.dst v) w):wpOp P ops Q i K a w:=by
 obtain⟨hw,hv⟩:=hy;obtain⟨f,args,hr,hc⟩:=hv w hS;unfold Go.wpOp;simp only[hi,hw,if_true]
 left
 unfold Oper.wp;rw[hr];refine hc.mono ?_;rintro e w' ⟨rfl,rfl⟩;exact h
theorem CallsQ.of_same {o:Oper}{v:Value}{a a':Act}(hy:CallsQ P ops S o v a)(he:execOp a'.eval o=execOp a.eval o)
  (hw:Region.wanted o (yielded ops a'.tmps)=Region.wanted o (yielded ops a.tmps)):CallsQ P ops S o v a':=by
 unfold CallsQ at *
 rw[he,hw];exact hy
theorem zol {j:Nat}{oi oj:Oper}{v:Value}(hj:ops[j]?=some oj)(hap:oi.apart ops oj=true)(hsi:∀ cs b,oi.op ≠ .select cs b)(hsj:∀ cs b,oj.op ≠ .select cs b)
  (hQ:∀ c a w,Q (.panic c) (a.put oi.dst v) w→Q (.panic c) a w) {K:Act→World→Prop} {a:Act} {w:World} (hy:CallsQ P ops S oi v a) (h:wpOp P ops Q j K (a.put oi.dst v) w):
  wpOp P ops Q j (fun a' w'=>CallsQ P ops S oi v a'∧K (a'.put oi.dst v) w') a w:=by
 obtain⟨h1,h2,h3⟩:=Oper.apart_spec hap
 have keep:∀ b:Act,CallsQ P ops S oi v b→∀ u,CallsQ P ops S oi v (b.put oj.dst u):=fun b hb u=>hb.of_same (execOp_put oi hsi b oj.dst u h3) (wanted_put oi b oj.dst u h3)
 unfold wpOp at *
 simp only[hj] at *
 rw[wanted_put oj a oi.dst v h1] at h
 cases hw:Region.wanted oj (yielded ops a.tmps) with
 | false =>
  simp only[hw,Bool.false_eq_true,if_false] at h ⊢;exact⟨keep a hy _,by rw[← Act.put_comm a v undef h2];exact h⟩
 | true =>
  simp only[hw,if_true] at h ⊢;rcases h with h|⟨ha,hl⟩
  ·left
   unfold Oper.wp at *
   rw[execOp_put oj hsj a oi.dst v h1] at h
   cases hr:(execOp a.eval oj).run P w with
   | ok n w' =>
    rw[hr] at h
    cases n <;> simp only[Oper.upon] at h ⊢
    case value u=>exact⟨keep a hy u,by rw[← Act.put_comm a v u h2];exact h⟩
    case skip=>exact⟨keep a hy _,by rw[← Act.put_comm a v undef h2];exact h⟩
    case defer d =>
     refine⟨keep ⟨a.tmps,d::a.defers⟩ (hy.of_same rfl rfl) _,?_⟩;rw[← Act.put_comm _ v undef h2,← Act.put_defers];exact h
    case enter f args =>
     refine Calls.mono h fun e w'' he=>?_
     cases e with
     | returned u=>exact⟨keep a hy u,by rw[← Act.put_comm a v u h2];exact he⟩
     | panicked c=>exact hQ _ _ _ he
     | outgrown=>exact he
    case row row args=>exact Rows.mono h fun u w'' he=>⟨keep a hy u,by rw[← Act.put_comm a v u h2];exact he⟩
   | halt x w' =>
    rw[hr] at h
    cases x <;> simp only[Oper.upon] at h ⊢
    exact hQ _ _ _ h
  ·right
   exact⟨by unfold Oper.asks at *;rw[execOp_put oj hsj a oi.dst v h1] at ha;exact ha,hl⟩
theorem ziC {i:Nat}{oi:Oper}{v:Value}(hi:ops[i]?=some oi)(hsel:∀ (j:Nat) (o:Oper) cs b,ops[j]?=some o→o.op ≠ .select cs b)
  (hQ:∀ c a w,Q (.panic c) (a.put oi.dst v) w→Q (.panic c) a w):
  ∀ (fuel:Nat) (listed:Array Bool) (a:Act) (w:World),Closed ops listed →
   (∀ j oj,ops[j]?=some oj→j≠i→listed.getD j true=false→(∀ e ∈ oj.after,Region.binds .any e=true→e.on≠i)→oi.apart ops oj=true) →
   i ∈ Region.ready .any ops listed→CallsQ P ops S oi v a→S w →
   zfT P ops Q S fuel (listed.setIfInBounds i true) (a.put oi.dst v) w→zfT P ops Q S (fuel+1) listed a w:=by
 intro fuel
 induction fuel with
 | zero =>
  intro listed a w _ _ hr hy hS H;refine⟨fun h=>(by rw[h] at hr;cases hr),fun j hj=>?_⟩
  by_cases hji:j=i
  ·subst hji;exact hy.wpOp hi hS ⟨.inr hS,H⟩
  ·have:=ready_mono hj hji
   rw[H.1] at this;cases this
 | succ fuel ih =>
  intro listed a w hc hfree hr hy hS H;refine⟨fun h=>(by rw[h] at hr;cases hr),fun j hj=>?_⟩
  by_cases hji:j=i
  ·subst hji;exact hy.wpOp hi hS ⟨.inr hS,H⟩
  ·have h1:=H.2 j (ready_mono hj hji)
   obtain⟨hjun,oj,hoj,hall⟩:=mem_ready.1 hj
   have hnot:∀ e ∈ oj.after,Region.binds .any e=true→e.on≠i:=fun e he hb heq=>by
    have h1:=hall e he hb;have h0:=(mem_ready.1 hr).1;rw[heq] at h1;rcases Nat.lt_or_ge i listed.size with h'|h'
    ·simp[h'] at h0 h1;rw[h0] at h1;cases h1
    ·simp[Array.getElem?_eq_none h'] at h1
   have h2:=zol hoj (hfree j oj hoj hji hjun hnot) (fun cs b=>hsel i oi cs b hi) (fun cs b=>hsel j oj cs b hoj) hQ hy h1
   have hfree':∀ k ok,ops[k]?=some ok→k≠i→(listed.setIfInBounds j true).getD k true=false →
     (∀ e ∈ ok.after,Region.binds .any e=true→e.on≠i)→oi.apart ops ok=true:=fun k ok hk hki hun hno=>by
    refine hfree k ok hk hki ?_ hno
    by_cases hjk:j=k
    ·subst hjk;exact hjun
    ·rw[getD_set_ne true hjk] at hun;exact hun
   have hnt:=zkS hc hr hj hji;refine wpOp_mono (fun a' w' h3=>?_) h2
   have hS':S w':=by
    rcases h3.2.1 with h|h
    ·rw[hnt] at h;cases h
    ·exact h
   refine⟨.inr hS',ih (listed.setIfInBounds j true) a' w' (hc.set hj) hfree' (ready_mono hr (Ne.symm hji)) h3.1 hS' ?_⟩;rw[Array.setIfInBounds_comm _ _ hji];exact h3.2.2
end
section
variable {P:Program} {ops:Array Oper} {Q:Exit→Act→World→Prop} {S:World→Prop} {fuel:Nat} {listed:Array Bool} {t:Array Value} {df:List Deferred} {w:World}
theorem zcZ (i:Nat){o:Oper}{d:Tmp}{v:Value}{f:FuncId}{args:Array Value}(ho:ops[i]?=some o)(hd:o.dst=some d)(hck:zgp ops listed i=true)(hw:Region.wanted o (yielded ops t)=true)
  (hr:∀ w',(execOp (Act.eval ⟨t,df⟩) o).run P w' = .ok (.enter f args) w') (hcl:∀ w',S w'→Calls P f args w' fun e w''=>e = .returned v∧w'=w'') (hS:S w)
  (k:Reg P ops Q S fuel (listed.setIfInBounds i true) (t.setIfInBounds d v) df w):Reg P ops Q S (fuel+1) listed t df w:=by
 simp only[zgp,Bool.and_eq_true] at hck
 exact⟨fun hc=>ziC ho (Region.noSelect_spec hck.1.1) (fun _ _ _ h=>h) _ _ _ _ hc (Region.free_spec ho hck.1.2) (by simpa using hck.2) ⟨hw,fun w' hS'=>⟨f,args,hr w',hcl w' hS'⟩⟩ hS (by rw[hd];exact k.out (hc.set (by simpa using hck.2)))⟩
end
end Go.Sl
end
section
namespace Go.Sl
open Go Go.RowKit
section
variable {P:Program} {tmps:Array Value} {w:World}
inductive ResIs (P:Program) (tmps:Array Value) (w:World):ResultVar→Value→Prop
 | tmp {t:Tmp} {v:Value} (h:tmps.getD t undef=v):ResIs P tmps w (.tmp t) v
 | cell {p:Tmp} {ty:TypeId} {ad:Addr} {v:Value} (h:tmps.getD p undef = .pointer (some ad)) (hl:(loadVar ty ad).run P w = .ok v w):ResIs P tmps w (.cell p ty) v
theorem ResIs.row {p:Tmp}{ty T:TypeId}{g:Nat}{cs:Array Value}{fr:Nat×Nat}{d:TypeDesc}(h:tmps.getD p undef = .pointer (some ⟨g,0,none⟩))(hg:w.heap[g]?=some (.cells cs T fr))
  (hu:P.underlying ty=some d) (hd:(match d with | .struct _ | .array _ _=>true|_=>false)=true) (hi:(P.info? ty).map (·.size)=some cs.size):ResIs P tmps w (.cell p ty) (.agg cs):=
 .cell h (run_loadVar_row w g T ty cs fr d hg hu hd hi)
theorem zaA {fn:Func}{r1 r2:ResultVar}{v1 v2:Value}(h:fn.results=#[r1,r2])(h1:ResIs P tmps w r1 v1)(h2:ResIs P tmps w r2 v2):(results fn tmps).run P w = .ok (.tuple #[v1,v2]) w:=by
 cases h1 <;> cases h2 <;> simp_all [results,asAddr]
theorem zaz {fn:Func}{r1 r2 r3:ResultVar}{v1 v2 v3:Value}(h:fn.results=#[r1,r2,r3])(h1:ResIs P tmps w r1 v1)(h2:ResIs P tmps w r2 v2)(h3:ResIs P tmps w r3 v3):
  (results fn tmps).run P w = .ok (.tuple #[v1,v2,v3]) w:=by
 cases h1 <;> cases h2 <;> cases h3 <;> simp_all [results,asAddr]
end
section
variable {P:Program} {ops:Array Oper} {rest:List Oper} {o:Oper} {a:Act} {w:World} {Q:Exit→Act→World→Prop}
theorem zpo {c:Array Value}{vs:List Value}(h:vs.length=c.size):zl2 c 0 vs=vs.toArray:=by
 apply Array.ext_getElem?;intro j;rw[zim vs c 0 j (by omega)]
 by_cases hj:j<vs.length
 ·rw[if_pos (by omega)];simp
 ·rw[if_neg (by omega),Array.getElem?_eq_none (by omega)];simp;omega
theorem zhx {ty T:TypeId}{x y:Operand}{b:Nat}{old new:Array Value}{X:zsi}(ho:o.op = .store ty x y)(hx:a.eval x = .pointer (some ⟨b,0,none⟩))(hy:a.eval y = .agg new)(hS:Sat w (pts b (.cells old T (0,0))*X))
  (hi:(P.info? ty).map (·.size)=some new.size) (hs:new.size=old.size) (h1:∀ v ∈ new.toList,v.oneCell'=true):
  ∃ w',(execOp a.eval o).run P w = .ok .skip w'∧Same w w'∧Sat w' (pts b (.cells new T (0,0))*X):=by
 refine⟨w.setCells b 0 new.toList,zdN ho hx hy (run_storeAt_mid w b 0 ty new ?_ hi (Array.all_eq_true_iff_forall_mem.2 (fun v hv=>h1 v (by simpa using hv)))),Same.setCells _ (Same.refl w),?_⟩
 ·intro j hj
  rw[Nat.zero_add];refine⟨?_,zaj hS.block j⟩;rw[zab hS.block j];simp;omega
 ·have h:=hS.setCells new.toList (o:=0)
  rw[zpo (by rw[Array.length_toList];exact hs)] at h;exact h
end
section
variable {P:Program} {ops:Array Oper} {Q:Exit→Act→World→Prop} {S:World→Prop} {fuel:Nat} {listed:Array Bool} {t:Array Value} {df:List Deferred} {w:World}
theorem zbG (i:Nat){o:Oper}{ty T:TypeId}{x y:Operand}{b:Nat}{old new:Array Value}{X:zsi}(ho:ops[i]?=some o)(hd:o.dst=none)(hck:zcD ops listed i=true)(hw:Region.wanted o (yielded ops t)=true)
  (hop:o.op = .store ty x y) (hx:Act.eval ⟨t,df⟩ x = .pointer (some ⟨b,0,none⟩)) (hy:Act.eval ⟨t,df⟩ y = .agg new) (hS:Sat w (pts b (.cells old T (0,0))*X))
  (hi:(P.info? ty).map (·.size)=some new.size) (hs:new.size=old.size) (h1:∀ v ∈ new.toList,v.oneCell'=true)
  (k:∀ w',Hid (Same w w'∧Sat w' (pts b (.cells new T (0,0))*X))→S w'∧Reg P ops Q S fuel (listed.setIfInBounds i true) t df w'):Reg P ops Q S (fuel+1) listed t df w:=by
 obtain⟨w',hr,h2,h3⟩:=zhx (P:=P) hop hx hy hS hi hs h1;obtain⟨h4,h5⟩:=k w' ⟨h2,h3⟩;exact zfP i w' ho hd hck hw hr h4 h5
end
end Go.Sl
end
