import Derived.Test.YtmcclbiaoeilkaaGreatQ10
/- Part 11 of a proof;the last part says what is proved. -/
section
namespace Go.Proofs.YtmcclbiaoeilkaaGreat
open Go.Proofs.Tryz Go.RowKit Go.Sl Go.ChangeMaps
def zav (s:List UInt8)(i j:Nat):List UInt8:=(s.drop i).take (j - i)
def zlK (a:zsj)(g:GenM):List UInt8:=[UInt8.ofNat a.area.toNat,UInt8.ofNat a.disk.toNat]++leL a.index.toNat 2++leL g.epoch.toNat 4++leL g.count.toNat 4
def zba (n:Nat):List UInt8:=List.replicate n 0
def zdv (a:zsj)(g:GenM)(p:List UInt8):List UInt8:=zlK a g++p++zba (40 - p.length)++leL g.epoch.toNat 4++leL g.count.toNat 4
def zbX (a:zsj)(g:GenM)(p:List UInt8):List UInt8:=leL (zfX (zdv a g p)).toNat 4++zdv a g p
def zdr (a:zsj)(g:GenM)(p:List UInt8):Bool:=zbk a&&zcQ g&&decide (p.length≤40)
def zex (s:List UInt8)(i:Nat):GenM:=⟨(zaN (zav s i (i+4)):Int),(zaN (zav s (i+4) (i+8)):Int)⟩
def zcv (s:List UInt8):zsj:=⟨((s.getD 5 0).toNat:Int),((s.getD 4 0).toNat:Int),(zaN (zav s 6 8):Int)⟩
def zbB (s:List UInt8):Bool:=decide (zaN (zav s 0 4)=(zfX (s.drop 4)).toNat)&&zbk (zcv s)&&zcQ (zex s 8)&&decide (zav s 8 16=s.drop 56)
def zbj (a:zsj)(s:List UInt8):Option (GenM×List UInt8):=
 if zbk a=true∧s.length=64∧zbB s=true∧zcv s=a then some (zex s 8,zav s 16 56) else none
theorem zkL:∀ (m n:Nat),zaN (leL n m)=n%256 ^ m
 | 0,n=>by simp[leL,zaN,Nat.mod_one]
 | m+1,n=>by
  have h:(leB n m).toNat=n / 256 ^ m%256:=by unfold leB;rw[UInt8.toNat_ofNat']
  rw[zeb,zgO,zkL m,zaK,h,Nat.pow_succ,Nat.mod_mul,Nat.mul_comm (256 ^ m)]
theorem zd9 {m n:Nat}(h:n<256 ^ m):zaN (leL n m)=n:=by rw[zkL,Nat.mod_eq_of_lt h]
theorem zi1 (a:zsj)(g:GenM):(zlK a g).length=12:=by simp[zlK,zaK]
theorem zeu {a:zsj}{g:GenM}{p:List UInt8}(h:p.length≤40):(zdv a g p).length=60:=by
 simp[zdv,zi1,zaK,zba];omega
theorem zgn {a:zsj}{g:GenM}{p:List UInt8}(h:p.length≤40):(zbX a g p).length=64:=by
 simp[zbX,zaK,zeu h]
theorem ze6 {x y z:List UInt8}{i j:Nat}(hx:x.length=i)(hy:y.length=j - i):zav (x++(y++z)) i j=y:=by
 unfold zav;rw[← hx,List.drop_left,hx,← hy,List.take_left]
theorem zkH {x y:List UInt8}{i:Nat}(hx:x.length=i):(x++y).drop i=y:=by rw[← hx,List.drop_left]
theorem zdO {g:GenM}:zcQ g=true↔0≤g.epoch∧0≤g.count∧g.epoch<4294967296∧g.count<4294967296∧g≠g0:=by
 unfold zcQ;simp only[Bool.and_eq_true,decide_eq_true_eq]
 constructor
 ·rintro⟨⟨h1,h2⟩,h3⟩;exact⟨by omega,by omega,by omega,by omega,h3⟩
 ·rintro⟨h1,h2,h3,h4,h5⟩;exact⟨⟨by omega,by omega⟩,h5⟩
theorem zcw {a:zsj}:zbk a=true↔0≤a.disk∧a.disk<64∧1≤a.area∧a.area≤4∧0≤a.index∧a.index<65536:=by
 unfold zbk;simp only[Bool.and_eq_true,decide_eq_true_eq]
 constructor
 ·rintro⟨⟨⟨⟨⟨h1,h2⟩,h3⟩,h4⟩,h5⟩,h6⟩;exact⟨h1,h2,h3,h4,h5,h6⟩
 ·rintro⟨h1,h2,h3,h4,h5,h6⟩;exact⟨⟨⟨⟨⟨h1,h2⟩,h3⟩,h4⟩,h5⟩,h6⟩
theorem zqg {g:GenM}(h:zcQ g=true):(⟨(zaN (leL g.epoch.toNat 4):Int),(zaN (leL g.count.toNat 4):Int)⟩:GenM)=g:=by
 obtain⟨h1,h2,h3,h4,_⟩:=zdO.1 h;rw[zd9 (by omega),zd9 (by omega)];obtain⟨e,c⟩:=g;simp only at h1 h2 ⊢;rw[Int.toNat_of_nonneg h1,Int.toNat_of_nonneg h2]
theorem zb3 {n:Nat}(h:n<256):(UInt8.ofNat n).toNat=n:=by rw[UInt8.toNat_ofNat'];exact Nat.mod_eq_of_lt h
theorem zkm (a:zsj)(g:GenM){p:List UInt8}(h:p.length≤40):
  zav (zbX a g p) 0 4=leL (zfX (zdv a g p)).toNat 4∧(zbX a g p).drop 4=zdv a g p∧(zbX a g p).getD 4 0=UInt8.ofNat a.area.toNat∧(zbX a g p).getD 5 0=UInt8.ofNat a.disk.toNat∧
  zav (zbX a g p) 6 8=leL a.index.toNat 2∧zav (zbX a g p) 8 12=leL g.epoch.toNat 4∧zav (zbX a g p) 12 16=leL g.count.toNat 4∧
  zav (zbX a g p) 8 16=leL g.epoch.toNat 4++leL g.count.toNat 4∧(zbX a g p).drop 56=leL g.epoch.toNat 4++leL g.count.toNat 4∧zav (zbX a g p) 16 56=p++zba (40 - p.length):=by
 have hl4:∀ n,(leL n 4).length=4:=fun n=>zaK n 4
 have hl2:∀ n,(leL n 2).length=2:=fun n=>zaK n 2
 have hz:(zba (40 - p.length)).length=40 - p.length:=by simp[zba]
 generalize hc:leL (zfX (zdv a g p)).toNat 4=c
 have hcl:c.length=4:=by rw[← hc,hl4]
 have he:zbX a g p=c++zdv a g p:=by rw[zbX,hc]
 have h2:(leL g.epoch.toNat 4).length=4:=hl4 _;have h3:(leL g.count.toNat 4).length=4:=hl4 _;have h4:(leL a.index.toNat 2).length=2:=hl2 _;rw[he];refine⟨?_,zkH hcl,?_,?_,?_⟩
 ·have:=ze6 (x:=[]) (y:=c) (z:=zdv a g p) (i:=0) (j:=4) rfl hcl
  simpa using this
 ·unfold zdv zlK
  rw[List.getD_eq_getElem?_getD,List.getElem?_append_right (by omega)];simp[hcl]
 ·unfold zdv zlK
  rw[List.getD_eq_getElem?_getD,List.getElem?_append_right (by omega)];simp[hcl]
 unfold zdv zlK
 generalize leL g.epoch.toNat 4=e at *
 generalize leL g.count.toNat 4=k at *
 generalize leL a.index.toNat 2=x at *
 generalize zba (40 - p.length)=z at *
 generalize UInt8.ofNat a.area.toNat=u;generalize UInt8.ofNat a.disk.toNat=v;refine⟨?_,?_,?_,?_,?_,?_⟩
 ·exact (congrArg (fun t=>zav t 6 8) (by simp[List.append_assoc]:_=(c++[u,v])++(x++(e++k++p++z++e++k)))).trans (ze6 (by simp[hcl]) (by simp[h4]))
 ·exact (congrArg (fun t=>zav t 8 12) (by simp[List.append_assoc]:_=(c++[u,v]++x)++(e++(k++p++z++e++k)))).trans (ze6 (by simp[hcl,h4]) (by simp[h2]))
 ·exact (congrArg (fun t=>zav t 12 16) (by simp[List.append_assoc]:_=(c++[u,v]++x++e)++(k++(p++z++e++k)))).trans (ze6 (by simp[hcl,h4,h2]) (by simp[h3]))
 ·exact (congrArg (fun t=>zav t 8 16) (by simp[List.append_assoc]:_=(c++[u,v]++x)++((e++k)++(p++z++e++k)))).trans (ze6 (by simp[hcl,h4]) (by simp[h2,h3]))
 ·exact (congrArg (fun t=>List.drop 56 t) (by simp[List.append_assoc]:_=(c++[u,v]++x++e++k++p++z)++(e++k))).trans (zkH (by simp[hcl,h4,h2,h3,hz];omega))
 ·exact (congrArg (fun t=>zav t 16 56) (by simp[List.append_assoc]:_=(c++[u,v]++x++e++k)++((p++z)++(e++k)))).trans (ze6 (by simp[hcl,h4,h2,h3]) (by simp[hz];omega))
theorem znv {a:zsj}{g:GenM}{p:List UInt8}(h:zdr a g p=true):zbj a (zbX a g p)=some (g,p++zba (40 - p.length)):=by
 unfold zdr at h;simp only[Bool.and_eq_true,decide_eq_true_eq] at h;obtain⟨⟨ha,hg⟩,hp⟩:=h;obtain⟨e1,e2,e3,e4,e5,e6,e7,e8,e9,e10⟩:=zkm a g hp
 have hgen:zex (zbX a g p) 8=g:=by
  show (⟨(zaN (zav (zbX a g p) 8 12):Int),(zaN (zav (zbX a g p) 12 16):Int)⟩:GenM)=g;rw[e6,e7];exact zqg hg
 have hpl:zcv (zbX a g p)=a:=by
  obtain⟨h1,h2,h3,h4,h5,h6⟩:=zcw.1 ha;unfold zcv;rw[e3,e4,e5,zd9 (by omega),zb3 (by omega),zb3 (by omega),Int.toNat_of_nonneg h1,Int.toNat_of_nonneg (by omega),Int.toNat_of_nonneg h5]
 have hcrc:zaN (leL (zfX (zdv a g p)).toNat 4)=(zfX (zdv a g p)).toNat:=zd9 (zfX (zdv a g p)).toNat_lt
 have hlab:zbB (zbX a g p)=true:=by
  unfold zbB;rw[e1,e2,e8,e9,hgen,hpl,ha,hg,hcrc];simp
 unfold zbj;rw[if_pos ⟨ha,zgn hp,hlab,hpl⟩,hgen,e10]
structure zsm where
 next:Int
 number:Int
 gen:GenM
 deriving DecidableEq
def t0:zsm:=⟨0,0,g0⟩
def zrb (g:GenM):Bool:=decide (0≤min g.epoch g.count)&&decide (max g.epoch g.count<4294967296)
def zn9 (t:zsm):Bool:=decide (0≤min t.next t.number)&&decide (max t.next t.number≤2147483647)&&zrb t.gen
def ziw (n:Int):Int:=if n<0 then 0 else max 1 ((n+25) / 26)
structure PartM where
 gen:GenM
 before:GenM
 number:Int
 left:Int
 bytes:List UInt8
 deriving DecidableEq
def zrj (x:GenM×List UInt8):PartM:=
 ⟨x.1,⟨(zaN (zav x.2 6 10):Int),(zaN (zav x.2 10 14):Int)⟩,(zaN (zav x.2 0 4):Int),(zaN (zav x.2 4 6):Int),zav x.2 14 (14+min 26 (zaN (zav x.2 4 6)))⟩
def zcY (f:Nat→List UInt8)(N:Nat)(d:Int)(i:Nat):Option PartM:=if N≤i then none else (zbj ⟨d,1,(i:Int)⟩ (f i)).map zrj
def zg5 (f:Nat→List UInt8)(N:Nat)(d:Int)(t:Nat)(x:PartM):Nat→Nat→Option (List UInt8)
 | _,0=>some []
 | i,k+1=>match zcY f N d (t+i) with
  | none=>none
  | some p=>if p.gen≠x.gen∨p.number≠x.number∨p.before≠x.before∨p.left≠x.left - 26*(i:Int) then none else (zg5 f N d t x (i+1) k).map (p.bytes++·)
def zgM (t:zsm)(x:PartM):Prop:=zcm x.gen t.gen=true∧x.number=t.number+1∧x.before=t.gen∧x.left≤4096
instance (t:zsm) (x:PartM):Decidable (zgM t x):=by unfold zgM;infer_instance
def zdJ (f:Nat→List UInt8)(N:Nat)(d:Int)(t:zsm):Option (List UInt8×zsm):=
 match zcY f N d t.next.toNat with
 | none=>none
 | some x=>if zgM t x then (zg5 f N d t.next.toNat x 1 ((ziw x.left).toNat - 1)).map fun r=>(x.bytes++r,⟨t.next+ziw x.left,x.number,x.gen⟩) else none
inductive ChainL (f:Nat→List UInt8) (N:Nat) (d:Int):zsm→List (List UInt8)→zsm→Prop
 | nil (t:zsm):ChainL f N d t [] t
 | cons {t t1 t2:zsm} {r:List UInt8} {l:List (List UInt8)} (h:zdJ f N d t=some (r,t1)) (hr:ChainL f N d t1 l t2):ChainL f N d t (r::l) t2
def zq0 (f:Nat→List UInt8)(N:Nat)(d:Int)(t:zsm)(l:List (List UInt8))(t':zsm):Prop:=ChainL f N d t l t'∧zdJ f N d t'=none
theorem ChainL.snoc {f:Nat→List UInt8}{N:Nat}{d:Int}{t t1 t2:zsm}{l:List (List UInt8)}{r:List UInt8}(h:ChainL f N d t l t1)(hn:zdJ f N d t1=some (r,t2)):ChainL f N d t (l++[r]) t2:=by
 induction h with
 | nil t=>exact .cons hn (.nil _)
 | cons h _ ih=>exact .cons h (ih hn)
theorem ChainL.end_eq {f:Nat→List UInt8}{N:Nat}{d:Int}{t t1 t2:zsm}{l:List (List UInt8)}(h:ChainL f N d t l t1)(h2:ChainL f N d t l t2):t1=t2:=by
 induction h with
 | nil t=>cases h2;rfl
 | cons h _ ih =>
  cases h2 with
  | cons h' hr' =>
   rw[h] at h';cases h';exact ih hr'
theorem zg2 {f f':Nat→List UInt8}{N:Nat}{d:Int}{i:Nat}(h:f i=f' i):zcY f N d i=zcY f' N d i:=by unfold zcY;rw[h]
theorem zg6 {f f':Nat→List UInt8}{N:Nat}{d:Int}{t:Nat}{x:PartM}:∀ (k i:Nat),(∀ j,t+i≤j→j<t+i+k→f j=f' j)→zg5 f N d t x i k=zg5 f' N d t x i k
 | 0,_,_=>rfl
 | k+1,i,h=>by
  unfold zg5
  rw[zg2 (h (t+i) (Nat.le_refl _) (by omega)),zg6 k (i+1) fun j h1 h2=>h j (by omega) (by omega)]
theorem zix {n:Int}(h:0≤n):1≤ziw n:=by unfold ziw;rw[if_neg (by omega)];omega
theorem zj5 {f f':Nat→List UInt8}{N:Nat}{d:Int}{t t1:zsm}{r:List UInt8}(h:zdJ f N d t=some (r,t1))(h0:0≤t.next)(hf:∀ j:Nat,t.next≤(j:Int)→(j:Int)<t1.next→f j=f' j):zdJ f' N d t=some (r,t1):=by
 unfold zdJ at h ⊢
 cases hx:zcY f N d t.next.toNat with
 | none=>rw[hx] at h;cases h
 | some x =>
  rw[hx] at h;simp only at h
  by_cases hc:zgM t x
  ·rw[if_pos hc] at h
   cases hr:zg5 f N d t.next.toNat x 1 ((ziw x.left).toNat - 1) with
   | none=>rw[hr] at h;cases h
   | some y =>
    rw[hr] at h;simp only[Option.map_some,Option.some.injEq,Prod.mk.injEq] at h;obtain⟨h1,h2⟩:=h
    have hl:0≤x.left:=by
     unfold zcY at hx;split at hx
     ·cases hx
     ·cases ho:zbj ⟨d,1,(t.next.toNat:Int)⟩ (f t.next.toNat) with
      | none=>rw[ho] at hx;cases hx
      | some z =>
       rw[ho] at hx;simp only[Option.map_some,Option.some.injEq] at hx;rw[← hx];exact Int.natCast_nonneg _
    have hs:=zix hl
    have hn:t1.next=t.next+ziw x.left:=by rw[← h2]
    rw[← zg2 (hf _ (by omega) (by omega)),hx];simp only
    rw[if_pos hc,← zg6 _ _ fun j h3 h4=>hf j (by omega) (by omega),hr]
    simp only[Option.map_some,Option.some.injEq,Prod.mk.injEq];exact⟨h1,h2⟩
  ·rw[if_neg hc] at h;cases h
end Go.Proofs.YtmcclbiaoeilkaaGreat
end
section
namespace Go.Proofs.YtmcclbiaoeilkaaGreat
open Go.Proofs.Tryz Go.RowKit Go.Sl Go.ChangeMaps
theorem zoX {g:GenM}:zrb g=true↔0≤g.epoch∧0≤g.count∧g.epoch<4294967296∧g.count<4294967296:=by
 unfold zrb;simp only[Bool.and_eq_true,decide_eq_true_eq]
 constructor
 ·rintro⟨h1,h2⟩;exact⟨by omega,by omega,by omega,by omega⟩
 ·rintro⟨h1,h2,h3,h4⟩;exact⟨by omega,by omega⟩
theorem zhn {t:zsm}:zn9 t=true↔0≤t.next∧0≤t.number∧t.next≤2147483647∧t.number≤2147483647∧zrb t.gen=true:=by
 unfold zn9;simp only[Bool.and_eq_true,decide_eq_true_eq]
 constructor
 ·rintro⟨⟨h1,h2⟩,h3⟩;exact⟨by omega,by omega,by omega,by omega,h3⟩
 ·rintro⟨h1,h2,h3,h4,h5⟩;exact⟨⟨by omega,by omega⟩,h5⟩
def OldL (f:Nat→List UInt8)(d:Int)(i:Int)(g:GenM):Prop:=∀ j:Nat,i≤(j:Int)→∀ x,zbj ⟨d,1,(j:Int)⟩ (f j)=some x→zcm x.1 g=false
theorem OldL.none {f:Nat→List UInt8}{N:Nat}{d:Int}{t:zsm}(h:OldL f d t.next t.gen)(h0:0≤t.next):zdJ f N d t=none:=by
 unfold zdJ
 cases hx:zcY f N d t.next.toNat with
 | none=>rfl
 | some x =>
  simp only;rw[if_neg];rintro⟨h1,_⟩;unfold zcY at hx;split at hx
  ·cases hx
  ·cases ho:zbj ⟨d,1,(t.next.toNat:Int)⟩ (f t.next.toNat) with
   | none=>rw[ho] at hx;cases hx
   | some z =>
    rw[ho] at hx;simp only[Option.map_some,Option.some.injEq] at hx
    have:=h t.next.toNat (by omega) z ho
    rw[← hx] at h1;rw[show (zrj z).gen=z.1 from rfl,this] at h1;cases h1
theorem zoo (a:zsj):zbj a zck=none:=by
 unfold zbj;rw[if_neg];rintro⟨_,_,h,_⟩;unfold zbB at h;simp only[Bool.and_eq_true] at h;exact absurd h.1.2 (by decide)
end Go.Proofs.YtmcclbiaoeilkaaGreat
namespace Go.Proofs.YtmcclbiaoeilkaaGreat
open Go.Proofs.Tryz Go.RowKit Go.Sl Go.ChangeMaps
def zpL (rs:List (List UInt8)):Int:=(rs.map fun r=>ziw (r.length:Int)).sum
theorem zfu:∀ rs:List (List UInt8),0≤zpL rs
 | []=>by simp[zpL]
 | r::l=>by
  have:=zfu l;have:=zix (n:=(r.length:Int)) (by omega)
  simp only[zpL,List.map_cons,List.sum_cons] at *
  omega
def zru (k:Nat):GenM:=if k=0 then g0 else ⟨1,(k:Int)⟩
def zc2 (rs:List (List UInt8))(k:Nat):zsm:=⟨zpL (rs.take k),(k:Int),zru k⟩
theorem zlJ {k:Nat}(h:k<4294967296):zrb (zru k)=true:=by
 unfold zru;split
 ·decide
 ·exact zoX.2 ⟨by simp,by simp only;omega,by simp,by simp only;omega⟩
theorem zkt {rs:List (List UInt8)}{k N:Nat}(h:zpL (rs.take k)≤(N:Int))(hN:N≤65536)(hk:k≤1000):zn9 (zc2 rs k)=true:=
 zhn.2 ⟨zfu _,by show (0:Int)≤(k:Int);omega,by show zpL (rs.take k)≤2147483647;omega,by show (k:Int)≤2147483647;omega,zlJ (by omega)⟩
theorem zhP {f:Nat→List UInt8}{N:Nat}{d:Int}{t t1:zsm}{r:List UInt8}(h:zdJ f N d t=some (r,t1)):t.next+1≤t1.next:=by
 unfold zdJ at h
 cases hx:zcY f N d t.next.toNat with
 | none=>rw[hx] at h;cases h
 | some x =>
  rw[hx] at h;simp only at h
  by_cases hc:zgM t x
  ·rw[if_pos hc] at h
   cases hr:zg5 f N d t.next.toNat x 1 ((ziw x.left).toNat - 1) with
   | none=>rw[hr] at h;cases h
   | some y =>
    rw[hr] at h;simp only[Option.map_some,Option.some.injEq,Prod.mk.injEq] at h
    have hl:0≤x.left:=by
     unfold zcY at hx;split at hx
     ·cases hx
     ·cases ho:zbj ⟨d,1,(t.next.toNat:Int)⟩ (f t.next.toNat) with
      | none=>rw[ho] at hx;cases hx
      | some z =>
       rw[ho] at hx;simp only[Option.map_some,Option.some.injEq] at hx;rw[← hx];exact Int.natCast_nonneg _
    have:=zix hl;rw[← h.2];simp only;omega
  ·rw[if_neg hc] at h;cases h
theorem ChainL.mono {f:Nat→List UInt8}{N:Nat}{d:Int}{t t1:zsm}{l:List (List UInt8)}(h:ChainL f N d t l t1):t.next≤t1.next:=by
 induction h with
 | nil t=>exact Int.le_refl _
 | cons h _ ih=>have:=zhP h;omega
theorem ChainL.congr {f f':Nat→List UInt8}{N:Nat}{d:Int}{t t1:zsm}{l:List (List UInt8)}(h:ChainL f N d t l t1)(h0:0≤t.next)(hf:∀ j:Nat,(j:Int)<t1.next→f j=f' j):ChainL f' N d t l t1:=by
 induction h with
 | nil t=>exact .nil t
 | cons h hr ih =>
  have h1:=zhP h;have h2:=hr.mono;exact .cons (zj5 h h0 fun j _ h4=>hf j (by omega)) (ih (by omega) hf)
structure LogL (f:Nat→List UInt8)(N:Nat)(d:Int)(t:zsm)(rs:List (List UInt8))(t':zsm):Prop where
 chain:ChainL f N d t rs t'
 old:OldL f d 0 t'.gen
 start:0≤t.next
 tail:zn9 t'=true
 fit:t'.next≤(N:Int)
theorem LogL.next0 {f:Nat→List UInt8}{N:Nat}{d:Int}{t t':zsm}{rs:List (List UInt8)}(h:LogL f N d t rs t'):0≤t'.next:=(zhn.1 h.tail).1
theorem LogL.none {f:Nat→List UInt8}{N:Nat}{d:Int}{t t':zsm}{rs:List (List UInt8)}(h:LogL f N d t rs t'):zdJ f N d t'=Option.none:=
 OldL.none (fun j _ x hx=>h.old j (Int.natCast_nonneg _) x hx) h.next0
theorem LogL.empty {f:Nat→List UInt8}{N:Nat}{d:Int}{t:zsm}(h:OldL f d 0 t.gen)(ht:zn9 t=true)(hf:t.next≤(N:Int)):LogL f N d t [] t:=⟨.nil t,h,(zhn.1 ht).1,ht,hf⟩
structure LogK (f:Nat→List UInt8)(N:Nat)(d:Int)(rs:List (List UInt8)):Prop where
 chain:∀ k,k≤rs.length→ChainL f N d (zc2 rs k) (rs.drop k) (zc2 rs rs.length)
 pre:∀ k,k≤rs.length→ChainL f N d t0 (rs.take k) (zc2 rs k)
 old:OldL f d 0 (zru rs.length)
 fit:zpL rs≤(N:Int)
theorem LogK.log {f:Nat→List UInt8}{N:Nat}{d:Int}{rs:List (List UInt8)}(h:LogK f N d rs)(hN:N≤65536)(hl:rs.length≤1000){k:Nat}(hk:k≤rs.length):LogL f N d (zc2 rs k) (rs.drop k) (zc2 rs rs.length):=
 ⟨h.chain k hk,h.old,zfu _,zkt (by rw[List.take_length];exact h.fit) hN hl,by show zpL (rs.take rs.length)≤_;rw[List.take_length];exact h.fit⟩
theorem LogK.nil {N:Nat}{d:Int}{f:Nat→List UInt8}(h:∀ j:Nat,zbj ⟨d,1,(j:Int)⟩ (f j)=none):LogK f N d []:=
 by
 refine⟨fun k hk=>?_,fun k hk=>?_,fun j _ x hx=>?_,?_⟩
 ·obtain rfl:k=0:=by simpa using hk
  exact .nil _
 ·obtain rfl:k=0:=by simpa using hk
  exact .nil _
 ·rw[h j] at hx;cases hx
 ·simp[zpL]
end Go.Proofs.YtmcclbiaoeilkaaGreat
namespace Go.Proofs.YtmcclbiaoeilkaaGreat
open Go.Proofs.Tryz Go.RowKit Go.Sl Go.ChangeMaps
structure FineS (c:zsl)(S:zsg):Prop where
 wf:S.WF
 cfg:S.cfg=c
 off:S.off=false
 fused:S.fused=false
 st:∀ d:Int,0≤d→d<c.disks→S.state d=1
 armed:∀ d:Int,0≤d→d<c.disks→∀ i,(S.disk d).armed i=none
def zc4 (S:zsg)(d:Int)(j:Nat):List UInt8:=(S.disk d).content j
theorem FineS.bays {c:zsl}{S:zsg}(h:FineS c S):(S.bays.length:Int)=c.disks:=by
 have h1:=h.wf.bays;have h2:=h.wf.cfg.disks;rw[h.cfg] at h1 h2;omega
theorem zhN {S:zsg}{d:Int}{i:Nat}(hd:S.state d≠0)(hi:(i:Int)<S.cfg.log):S.number ⟨d,1,(i:Int)⟩=(i:Int):=by
 unfold zsg.number
 have hs:S.cfg.size 1=S.cfg.log:=by simp[zsl.size]
 have hb:S.cfg.base 1=0:=by simp[zsl.base]
 simp only;rw[hs,hb,if_neg (by omega)];omega
theorem znk {S:zsg}(hw:S.WF){d:Int}{i:Nat}(hd:S.state d=1)(hi:(i:Int)<S.cfg.log):i<(S.disk d).n:=by
 have h1:=zsg.disk_n hw hd;have h2:=hw.cfg.image;have h3:=hw.cfg.rows;unfold zsl.sectors at h1;omega
theorem FineS.write {c:zsl}{S:zsg}(h:FineS c S){d:Int}(h0:0≤d)(h1:d<c.disks){i:Nat}(hi:(i:Int)<c.log){s:List UInt8}(hs:s.length=64):
  (S.write ⟨d,1,(i:Int)⟩ s).2=0∧FineS c (S.write ⟨d,1,(i:Int)⟩ s).1∧∀ e:Int,∀ j:Nat,zc4 (S.write ⟨d,1,(i:Int)⟩ s).1 e j=if e=d∧j=i then s else zc4 S e j:=by
 have hst:=h.st d h0 h1
 have hi':(i:Int)<S.cfg.log:=by rw[h.cfg];exact hi
 have hlt:=znk h.wf hst hi';have hwr:=zsh.write_ok hlt hs (h.armed d h0 h1 i)
 have hb:d<(S.bays.length:Int):=by rw[h.bays];exact h1
 have he:S.write ⟨d,1,(i:Int)⟩ s=(S.setDisk d { S.disk d with cache:=za7 (S.disk d).cache i (some s) },0):=by
  unfold zsg.write;rw[zhN (by omega) hi',if_neg (by omega),zsg.step_run h.off hst h.fused,hwr]
 rw[he]
 refine⟨rfl,⟨?_,h.cfg,h.off,h.fused,fun e e0 e1=>?_,fun e e0 e1 k=>?_⟩,fun e j=>?_⟩
 ·exact h.wf.setDisk (by omega) rfl
 ·simp only
  rw[zsg.setDisk_state h0 hb];exact h.st e e0 e1
 ·simp only
  rw[zsg.setDisk_disk h0 hb];split
  ·exact h.armed d h0 h1 k
  ·exact h.armed e e0 e1 k
 ·unfold zc4
  simp only;rw[zsg.setDisk_disk h0 hb]
  by_cases hed:e=d
  ·subst hed
   rw[if_pos rfl]
   by_cases hj:j=i
   ·subst hj;rw[if_pos ⟨rfl,rfl⟩];simp[zsh.content,za7]
   ·rw[if_neg (by simp[hj])];simp[zsh.content,za7,hj]
  ·rw[if_neg hed,if_neg (by simp[hed])]
end Go.Proofs.YtmcclbiaoeilkaaGreat
end
