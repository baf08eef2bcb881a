import Derived.WalkSmall
import Derived.Test.YtmcclbiaoeilkaaGreatQ06
set_option maxHeartbeats 400000
/- Part 7 of a proof;the last part says what is proved. -/
section
namespace Go.Sl
open Go Go.RowKit
structure zsl where
 disks:Int
 racks:Int
 rows:Int
 spare:Int
 log:Int
 image:Int
 deriving DecidableEq
structure zsj where
 disk:Int
 area:Int
 index:Int
 deriving DecidableEq
structure zsk where
 disk:zsh
 state:Int
structure zsg where
 cfg:zsl
 bays:List zsk
 images:List zsh
 off:Bool
 fused:Bool
 left:Int
def inB (n lo hi:Int):Bool:=decide (lo≤n)&&decide (n≤hi)
namespace zsl
def sectors (c:zsl):Int:=c.log+c.image+c.image+c.rows
def ok (c:zsl):Bool:=inB c.disks 1 64&&inB c.racks 1 8&&inB c.rows 1 4096&&inB c.spare 0 (c.disks - 1)&&inB c.log 1 65536&&inB c.image 1 65536&&decide (c.disks%c.racks=0)
def size (c:zsl)(a:Int):Int:=if a=1 then c.log else if a=2 then c.image else if a=3 then c.image else if a=4 then c.rows else 0
def base (c:zsl)(a:Int):Int:=if a=1 then 0 else if a=2 then c.log else if a=3 then c.log+c.image else if a=4 then c.log+c.image+c.image else 0
structure WF (c:zsl):Prop where
 disks:1≤c.disks∧c.disks≤64
 rows:1≤c.rows∧c.rows≤4096
 log:1≤c.log∧c.log≤65536
 image:1≤c.image∧c.image≤65536
 small:c.sectors≤65536
end zsl
namespace zsh
theorem write_n (D:zsh)(i:Int)(s:List UInt8):(D.write i s).1.n=D.n:=by
 unfold zsh.write;split
 ·unfold zsh.put
  cases D.armed i.toNat with
  | none=>rfl
  | some j=>simp only;split <;> rfl
 ·rfl
theorem rot_n (D:zsh)(i j:Int):(D.rot i j).1.n=D.n:=by unfold zsh.rot;split <;> rfl
theorem lose_n (D:zsh)(i:Int):(D.lose i).1.n=D.n:=by unfold zsh.lose;split <;> rfl
theorem misdirect_n (D:zsh)(i j:Int):(D.misdirect i j).1.n=D.n:=by unfold zsh.misdirect;split <;> rfl
theorem flush_n (D:zsh):D.flush.n=D.n:=rfl
theorem cut_n (D:zsh)(l:List Int):(D.cut l).n=D.n:=rfl
end zsh
namespace zsg
def d0:zsh:=zsh.new 0
def bay (S:zsg)(d:Int):Option zsk:=if 0≤d then S.bays[d.toNat]? else none
def state (S:zsg)(d:Int):Int:=match S.bay d with|some b=>b.state|none=>0
def disk (S:zsg)(d:Int):zsh:=match S.bay d with|some b=>b.disk|none=>d0
def setBay (S:zsg)(d:Int)(b:zsk):zsg:={ S with bays:=S.bays.set d.toNat b }
def setDisk (S:zsg)(d:Int)(D:zsh):zsg:=S.setBay d ⟨D,S.state d⟩
def number (S:zsg)(a:zsj):Int:=
 if S.state a.disk=0∨a.area<1∨4<a.area∨a.index<0∨S.cfg.size a.area≤a.index then -1 else a.index+S.cfg.base a.area
def access (S:zsg)(d:Int):Int:=if S.off then 14 else if S.state d=1 then 0 else 15
def step (S:zsg)(d:Int)(f:zsh→zsh):zsg×Int:=
 if S.off then (S,14) else if S.state d≠1 then (S,15)
 else if S.fused then (if S.left=0 then ({ S with off:=true,fused:=false },14) else (({ S with left:=S.left - 1 }:zsg).setDisk d (f (S.disk d)),0))
 else (S.setDisk d (f (S.disk d)),0)
def write (S:zsg)(a:zsj)(s:List UInt8):zsg×Int:=
 if S.number a<0∨s.length≠64 then (S,1) else S.step a.disk fun D=>(D.write (S.number a) s).1
def read (S:zsg)(a:zsj):List UInt8×Int:=
 if S.number a<0 then ([],1) else if S.access a.disk≠0 then ([],S.access a.disk) else (S.disk a.disk).read (S.number a)
def flush (S:zsg)(d:Int):zsg×Int:=if S.state d=0 then (S,1) else S.step d zsh.flush
def flushFrom (S:zsg)(d:Nat):Nat→zsg×Int
 | 0=>(S,0)
 | k+1=>if S.state d≠1 then flushFrom S (d+1) k else if (S.flush d).2≠0 then S.flush d else flushFrom (S.flush d).1 (d+1) k
def flushAll (S:zsg):zsg×Int:=if S.off then (S,14) else S.flushFrom 0 S.bays.length
def fuse (S:zsg)(n:Int):zsg:={ S with fused:=decide (0≤n),left:=n }
def cutBays:List zsk→List Int→List zsk
 | [],_=>[]
 | b::r,picks=>if b.state=1 then ⟨b.disk.cut (picks.take b.disk.pending.length),1⟩::cutBays r (picks.drop b.disk.pending.length) else b::cutBays r picks
def mount (S:zsg)(picks:List Int):zsg:={ S with bays:=cutBays S.bays picks,off:=false,fused:=false }
def want (S:zsg)(d:Int)(inn:Bool)(e:Int):Int:=if S.state d=0 then 1 else if decide (S.state d=1)≠inn then e else 0
def kill (S:zsg)(d:Int):zsg×Int:=if S.want d true 15=0 then (S.setBay d ⟨S.disk d,3⟩,0) else (S,S.want d true 15)
def remove (S:zsg)(d:Int):zsg×Int×Int:=
 if S.want d true 15=0 then ({ S.setBay d ⟨d0,2⟩ with images:=S.images++[(S.disk d).cut []] },(S.images.length:Int),0) else (S,0,S.want d true 15)
def insert (S:zsg)(d image:Int):zsg×Int:=
 if S.state d=0 then (S,1) else if image<0∨(S.images.length:Int)≤image then (S,12)
 else if S.state d=1 then (S,19) else (S.setBay d ⟨S.images.getD image.toNat d0,1⟩,0)
def replace (S:zsg)(d:Int):zsg×Int:=if S.want d false 19=0 then (S.setBay d ⟨zsh.new S.cfg.sectors,1⟩,0) else (S,S.want d false 19)
def arm (S:zsg)(a:zsj)(valid:Bool)(f:zsh→Int→zsh×Int):zsg×Int:=
 if S.number a<0∨valid=false then (S,1) else if S.state a.disk=1 then (S.setDisk a.disk (f (S.disk a.disk) (S.number a)).1,(f (S.disk a.disk) (S.number a)).2) else (S,15)
def rot (S:zsg)(a:zsj)(bit:Int):zsg×Int:=S.arm a (decide (0≤bit)&&decide (bit<512)) fun D n=>D.rot n bit
def lose (S:zsg)(a:zsj):zsg×Int:=S.arm a true fun D n=>D.lose n
def misdirect (S:zsg)(a to:zsj):zsg×Int:=S.arm a (decide (0≤S.number to)&&decide (a.disk=to.disk)) fun D n=>D.misdirect n (S.number to)
def peek (S:zsg)(a:zsj):List UInt8×Bool:=
 if S.number a<0 then ([],false) else if S.state a.disk=1 then (((S.disk a.disk).read (S.number a)).1,decide (((S.disk a.disk).read (S.number a)).2=0)) else ([],false)
def new (c:zsl):zsg:={ cfg:=c,bays:=List.replicate c.disks.toNat ⟨zsh.new c.sectors,1⟩,images:=[],off:=false,fused:=false,left:=0 }
structure WF (S:zsg):Prop where
 cfg:S.cfg.WF
 bays:S.bays.length=S.cfg.disks.toNat
 st:∀ b ∈ S.bays,(b.state=1∨b.state=2∨b.state=3)∧(b.state=1→(b.disk.n:Int)=S.cfg.sectors)
 images:∀ D ∈ S.images,(D.n:Int)=S.cfg.sectors
 left:S.fused=true→0≤S.left∧S.left<9223372036854775808
theorem step_const (S:zsg)(d:Int)(f:zsh→zsh):S.step d f=S.step d fun _=>f (S.disk d):=rfl
theorem arm_eq (S:zsg)(a:zsj)(f:zsh→Int→zsh×Int)(h:0≤S.number a)(valid:Bool)(hv:valid=true):S.arm a valid f=if S.state a.disk=1 then (S.setDisk a.disk (f (S.disk a.disk) (S.number a)).1,(f (S.disk a.disk) (S.number a)).2) else (S,15):=by
 unfold arm;rw[if_neg (by rw[hv];simp;omega)]
theorem arm_eq_bad (S:zsg)(a:zsj)(f:zsh→Int→zsh×Int)(valid:Bool)(h:S.number a<0∨valid=false):S.arm a valid f=(S,1):=by
 unfold arm;rw[if_pos h]
theorem zhi (S:zsg)(d:Int)(D:zsh):(S.setDisk d D).bays.length=S.bays.length:=by simp[setDisk,setBay]
theorem zpK (S:zsg)(d:Int)(f:zsh→zsh):(S.step d f).1.bays.length=S.bays.length:=by
 unfold step;split;rfl;split;rfl;split
 ·split
  ·rfl
  ·exact zhi _ _ _
 ·exact zhi _ _ _
theorem flush_len (S:zsg)(d:Int):(S.flush d).1.bays.length=S.bays.length:=by
 unfold flush;split
 ·rfl
 ·exact zpK S d _
theorem flushFrom_lt (S:zsg)(k n:Nat)(h:k<n):S.flushFrom k (n - k)=if S.state k≠1 then S.flushFrom (k+1) (n - (k+1)) else if (S.flush k).2≠0 then S.flush k else (S.flush k).1.flushFrom (k+1) (n - (k+1)):=by
 obtain⟨m,hm⟩:∃ m,n - k=m+1:=⟨n - k - 1,by omega⟩;rw[hm,show n - (k+1)=m by omega];rfl
theorem bay_some {S:zsg}{d:Int}{b:zsk}:S.bay d=some b↔0≤d∧S.bays[d.toNat]?=some b:=by
 unfold bay
 by_cases h:0≤d
 ·simp[h]
 ·simp[h]
theorem state_pos {S:zsg}(h:S.WF){d:Int}:S.state d=0↔¬ (0≤d∧d<(S.bays.length:Int)):=by
 unfold state
 cases hb:S.bay d with
 | none =>
  simp only[true_iff];intro ⟨h1,h2⟩;unfold bay at hb;rw[if_pos h1,List.getElem?_eq_none_iff] at hb;omega
 | some b =>
  obtain⟨h1,h2⟩:=bay_some.1 hb;have hm:=(h.st b (List.mem_of_getElem? h2)).1;have h3:=(List.getElem?_eq_some_iff.1 h2).1;simp only
  constructor
  ·intro h4;omega
  ·intro h4;exact absurd ⟨h1,by omega⟩ h4
theorem bay_of {S:zsg}{d:Int}(h1:0≤d)(h2:d<(S.bays.length:Int)):S.bays[d.toNat]?=some ⟨S.disk d,S.state d⟩:=by
 have h3:d.toNat<S.bays.length:=by omega
 have hb:S.bay d=some S.bays[d.toNat]:=bay_some.2 ⟨h1,List.getElem?_eq_getElem h3⟩;unfold disk state;rw[hb,List.getElem?_eq_getElem h3]
theorem setDisk_self {S:zsg}{d:Int}(h1:0≤d)(h2:d<(S.bays.length:Int)):S.setDisk d (S.disk d)=S:=by
 have h:=bay_of h1 h2
 have:S.bays.set d.toNat ⟨S.disk d,S.state d⟩=S.bays:=by
  apply List.ext_getElem?;intro i;rw[List.getElem?_set];split
  ·subst i;rw[h];simp only[ite_eq_left_iff];intro h3;omega
  ·rfl
 unfold setDisk setBay;rw[this]
theorem zjx {S:zsg}{d e:Int}{b:zsk}(h1:0≤d)(h2:d<(S.bays.length:Int)):(S.setBay d b).bay e=if e=d then some b else S.bay e:=by
 unfold bay setBay
 by_cases he:0≤e
 ·simp only[he,if_true]
  rw[List.getElem?_set]
  by_cases hed:e=d
  ·subst hed;simp;omega
  ·rw[if_neg (by omega),if_neg hed]
 ·rw[if_neg he,if_neg (by omega),if_neg he]
theorem WF.setBay {S:zsg}(h:S.WF)(d:Int){b:zsk}(hb:(b.state=1∨b.state=2∨b.state=3)∧(b.state=1→(b.disk.n:Int)=S.cfg.sectors)):(S.setBay d b).WF:=
 ⟨h.cfg,by simp only[zsg.setBay,List.length_set];exact h.bays,fun x hx=>by
  rcases List.mem_or_eq_of_mem_set hx with h1|rfl
  ·exact h.st x h1
  ·exact hb,h.images,h.left⟩
theorem zle {S:zsg}{d:Int}(h1:0≤d)(h2:d<(S.bays.length:Int)):(⟨S.disk d,S.state d⟩:zsk) ∈ S.bays:=List.mem_of_getElem? (bay_of h1 h2)
theorem state_in {S:zsg}(h:S.WF){d:Int}(h1:S.state d≠0):0≤d∧d<(S.bays.length:Int):=by
 by_cases h2:0≤d∧d<(S.bays.length:Int)
 ·exact h2
 ·exact absurd ((state_pos h).2 h2) h1
theorem WF.setDisk {S:zsg}(h:S.WF){d:Int}(h0:S.state d≠0){D:zsh}(hD:D.n=(S.disk d).n):(S.setDisk d D).WF:=by
 obtain⟨h1,h2⟩:=state_in h h0;have h3:=h.st _ (zle h1 h2);exact h.setBay d ⟨h3.1,fun h4=>by rw[hD];exact h3.2 h4⟩
theorem disk_n {S:zsg}(h:S.WF){d:Int}(h1:S.state d=1):((S.disk d).n:Int)=S.cfg.sectors:=by
 obtain⟨h2,h3⟩:=state_in h (d:=d) (by omega);exact (h.st _ (zle h2 h3)).2 h1
theorem number_lt {S:zsg}(h:S.WF){a:zsj}(h0:0≤S.number a):S.state a.disk≠0∧1≤a.area∧a.area≤4∧0≤a.index∧a.index<S.cfg.size a.area∧S.number a=a.index+S.cfg.base a.area∧S.number a<S.cfg.sectors:=by
 unfold number at h0 ⊢;split at h0
 ·omega
 ·rename_i hn
  rw[if_neg hn];have:=h.cfg.log;have:=h.cfg.image;have:=h.cfg.rows;refine⟨by omega,by omega,by omega,by omega,by omega,rfl,?_⟩
  have h1:1≤a.area∧a.area≤4∧a.index<S.cfg.size a.area:=by omega
  unfold zsl.size at h1;unfold zsl.base zsl.sectors
  rcases (show a.area=1∨a.area=2∨a.area=3∨a.area=4 by omega) with e|e|e|e <;> simp[e] at h1 ⊢ <;> omega
end zsg
def zaB (p:Nat):Value:=.pointer (some ⟨p,0,none⟩)
def zfa (c:zsl):List Value:=[.int .i64 c.disks,.int .i64 c.racks,.int .i64 c.rows,.int .i64 c.spare,.int .i64 c.log,.int .i64 c.image]
def zbq:List Nat→List zsk→List Value
 | p::ps,b::bs=>zaB p :: .int .i64 b.state::zbq ps bs
 | _,_=>[]
def zaF (TD TS:TypeId):List Nat→List zsh→zsi
 | p::ps,D::Ds=>zak TD TS p D*zaF TD TS ps Ds
 | _,_=>emp
def zaJ (c:zsl)(vb vi:Value)(off fused:Bool)(left:Int):Array Value:=
 #[c.disks,c.racks,c.rows,c.spare,c.log,c.image,vb,vi,.bool off,.bool fused,left]
structure zsn where
 sh:TypeId
 bay:TypeId
 ptr:TypeId
 disk:TypeId
 sec:TypeId
def zc1 (T:zsn)(p:Nat)(S:zsg)(vb:Value):zsi:=
 ex fun vi:Value=>ex fun ps:List Nat=>ex fun qs:List Nat=>lift (S.WF∧ps.length=S.bays.length∧qs.length=S.images.length) *
  (pts p (.cells (zaJ S.cfg vb vi S.off S.fused S.left) T.sh (0,0))*(zaf T.bay 2 vb S.bays.length (zbq ps S.bays)*(zaf T.ptr 1 vi S.images.length (qs.map zaB) *
   (zaF T.disk T.sec ps (S.bays.map zsk.disk)*zaF T.disk T.sec qs S.images))))
def zac (T:zsn)(p:Nat)(S:zsg):zsi:=ex fun vb:Value=>zc1 T p S vb
theorem zdX {T:zsn}{p:Nat}{S:zsg}{vb:Value}{w:World}{F:zsi}:Sat w (zc1 T p S vb*F)↔∃ vi ps qs,(S.WF∧ps.length=S.bays.length∧qs.length=S.images.length)∧
  Sat w (pts p (.cells (zaJ S.cfg vb vi S.off S.fused S.left) T.sh (0,0))*(zaf T.bay 2 vb S.bays.length (zbq ps S.bays)*(zaf T.ptr 1 vi S.images.length (qs.map zaB) *
   (zaF T.disk T.sec ps (S.bays.map zsk.disk)*(zaF T.disk T.sec qs S.images*F))))):=by
 simp only[zc1,Sat.ex,zax,Sat.lift]
theorem zbf {T:zsn}{p:Nat}{S:zsg}{w:World}{F:zsi}:Sat w (zac T p S*F)↔∃ vb,Sat w (zc1 T p S vb*F):=by
 simp only[zac,Sat.ex]
theorem zbJ {T:zsn}{p:Nat}{S:zsg}{w:World}{F:zsi}:Sat w (zac T p S*F)↔∃ vb vi ps qs,(S.WF∧ps.length=S.bays.length∧qs.length=S.images.length)∧
  Sat w (pts p (.cells (zaJ S.cfg vb vi S.off S.fused S.left) T.sh (0,0))*(zaf T.bay 2 vb S.bays.length (zbq ps S.bays)*(zaf T.ptr 1 vi S.images.length (qs.map zaB) *
   (zaF T.disk T.sec ps (S.bays.map zsk.disk)*(zaF T.disk T.sec qs S.images*F))))):=by
 simp only[zac,zc1,Sat.ex,zax,Sat.lift]
theorem zaE {T:zsn}{p:Nat}{S:zsg}{w:World}{F:zsi}(h:Sat w (zac T p S*F)):S.WF:=by
 obtain⟨_,_,_,_,h,_⟩:=zbJ.1 h;exact h.1
theorem zd6 {TD TS:TypeId}:∀ (ps:List Nat) (Ds:List zsh) (k:Nat),k<ps.length→k<Ds.length→∃ R,∀ q D,zaF TD TS (ps.set k q) (Ds.set k D)=zak TD TS q D*R
 | p::ps,D::Ds,0,_,_=>⟨zaF TD TS ps Ds,fun q D=>rfl⟩
 | p::ps,D::Ds,k+1,h1,h2=>by
  obtain⟨R,hR⟩:=zd6 ps Ds k (by simpa using h1) (by simpa using h2);refine⟨zak TD TS p D*R,fun q D'=>?_⟩;show zak TD TS p D*zaF TD TS (ps.set k q) (Ds.set k D')=_;rw[hR];ac_rfl
theorem zfk {TD TS:TypeId}:∀ (ps:List Nat) (Ds:List zsh) (q:Nat) (D:zsh),ps.length=Ds.length→zaF TD TS (ps++[q]) (Ds++[D])=zaF TD TS ps Ds*zak TD TS q D
 | [],[],q,D,_=>by show zak TD TS q D*emp=emp*zak TD TS q D;rw[zgy,zaL]
 | p::ps,E::Ds,q,D,h=>by
  show zak TD TS p E*zaF TD TS (ps++[q]) (Ds++[D])=zak TD TS p E*zaF TD TS ps Ds*zak TD TS q D;rw[zfk ps Ds q D (by simpa using h),zax]
 | [],_::_,_,_,h=>by simp at h
 | _::_,[],_,_,h=>by simp at h
theorem zbn {α:Type}{l:List α}{k:Nat}{x:α}(h:l[k]?=some x):l.set k x=l:=by
 apply List.ext_getElem?;intro i;rw[List.getElem?_set];split
 ·subst i;rw[h];split
  ·rfl
  ·rename_i h2;have:=(List.getElem?_eq_some_iff.1 h).1;omega
 ·rfl
theorem zeL:∀ (ps:List Nat) (bs:List zsk) (k:Nat) (q:Nat) (b:zsk),ps[k]?=some q→bs[k]?=some b→(zbq ps bs)[k*2]?=some (zaB q)∧(zbq ps bs)[k*2+1]?=some (.int .i64 b.state)
 | p::ps,c::bs,0,q,b,h1,h2=>by simp at h1 h2;subst h1 h2;exact⟨rfl,rfl⟩
 | p::ps,c::bs,k+1,q,b,h1,h2=>by
  have:=zeL ps bs k q b (by simpa using h1) (by simpa using h2);rw[show (k+1)*2=k*2+1+1 by omega];simp only[zbq,List.getElem?_cons_succ];exact this
 | [],_,_,_,_,h,_=>by simp at h
 | _::_,[],_,_,_,_,h=>by simp at h
theorem zfy:∀ (ps:List Nat) (bs:List zsk) (k:Nat) (q:Nat) (b:zsk),ps.length=bs.length→zbq (ps.set k q) (bs.set k b)=((zbq ps bs).set (k*2) (zaB q)).set (k*2+1) (.int .i64 b.state)
 | [],[],_,_,_,_=>rfl
 | p::ps,c::bs,0,q,b,_=>rfl
 | p::ps,c::bs,k+1,q,b,h=>by
  have:=zfy ps bs k q b (by simpa using h);rw[show (k+1)*2=k*2+1+1 by omega];simp only[List.set_cons_succ,zbq];rw[this]
 | [],_::_,_,_,_,h=>by simp at h
 | _::_,[],_,_,_,h=>by simp at h
theorem ziO:∀ (ps:List Nat) (bs:List zsk) (q:Nat) (b:zsk),ps.length=bs.length→zbq (ps++[q]) (bs++[b])=zbq ps bs++[zaB q,.int .i64 b.state]
 | [],[],_,_,_=>rfl
 | p::ps,c::bs,q,b,h=>by simp only[List.cons_append,zbq];rw[ziO ps bs q b (by simpa using h)]
 | [],_::_,_,_,h=>by simp at h
 | _::_,[],_,_,h=>by simp at h
theorem Sat.drewN {w:World}{P:zsi}(h:Sat w P)(n:Nat):Sat (w.drewN n) P:=h
theorem Same.drewN {w w':World}(h:Same w w')(n:Nat):Same w (w'.drewN n):=h.trans ⟨rfl,rfl,rfl,Nat.le_refl _⟩
section
variable {w:World} {T:TypeId} {sz n:Nat} {v:Value} {xs:List Value} {F:zsi}
theorem zaO (h:Sat w (zaf T sz v n xs*F))(hn:0<n):∃ g cap cur,v = .slice (some ⟨g,0,none⟩) n cap∧g<w.heap.size∧(∀ j u,xs[j]?=some u→w.cell? ⟨g,j,none⟩=some u)∧(∀ j,w.frozen? ⟨g,j,none⟩=false)∧
  Sat w (pts g (.cells cur T (0,0))*F)∧∀ (w':World) (G:zsi) (c':Array Value),c'.size=cur.size→Sat w' (pts g (.cells c' T (0,0))*G)→Sat w' (zaf T sz v n (c'.toList.take (n*sz))*G)∧cur.toList.take (n*sz)=xs:=by
 rcases za4.1 h with ⟨_,rfl,_⟩|⟨g,cap,cur,⟨rfl,h1,h2,h3,h4,h5⟩,hs⟩
 ·omega
 ·refine⟨g,cap,cur,rfl,hs.lt,fun j u hu=>?_,zaj hs.block,hs,fun w' G c' hc hG=>⟨za4.2 (.inr ⟨g,cap,c',⟨rfl,h1,h2,by rw[hc,h3],rfl,?_⟩,hG⟩),h4⟩⟩
  ·rw[zab hs.block]
   rw[← h4,List.getElem?_take] at hu;split at hu
   ·rw[Array.getElem?_toList] at hu;exact hu
   ·cases hu
  ·rw[List.length_take,Array.length_toList,hc,h3]
   exact Nat.min_eq_left (Nat.mul_le_mul_right _ h1)
theorem zby (h:Sat w (zaf T sz v n xs*F))(hn:0<n){g cap:Nat}(hv:v = .slice (some ⟨g,0,none⟩) n cap){j:Nat}(u:Value):
  Sat (w.setCell ⟨g,j,none⟩ u) (zaf T sz v n (xs.set j u)*F):=by
 obtain⟨g',cap',cur,hv',_,_,_,hs,hk⟩:=zaO h hn;rw[hv] at hv';simp only[Value.slice.injEq,Option.some.injEq,Addr.mk.injEq,and_true,true_and] at hv';obtain⟨rfl,rfl⟩:=hv';obtain⟨h1,h2⟩:=hk _ F _ (Array.size_setIfInBounds) (hs.setCell (i:=j) u);rw[Array.toList_setIfInBounds] at h1
 have e:List.take (n*sz) (cur.toList.set j u)=xs.set j u:=by
  rw[← h2,List.take_set]
 rw[e] at h1;exact h1
end
section
variable {T:zsn} {p:Nat} {S:zsg} {w:World} {F:zsi}
theorem zaU {c:zsl}{vb vi:Value}{off fused:Bool}{left:Int}{TH:TypeId}(h:Sat w (pts p (.cells (zaJ c vb vi off fused left) TH (0,0))*F)):
  (w.cell? ⟨p,6,none⟩=some vb∧w.cell? ⟨p,7,none⟩=some vi∧w.cell? ⟨p,8,none⟩=some (.bool off)∧w.cell? ⟨p,9,none⟩=some (.bool fused)∧w.cell? ⟨p,10,none⟩=some (.int .i64 left))∧
  p<w.heap.size∧(∀ j,w.frozen? ⟨p,j,none⟩=false)∧w.rangeAt p 0 (zfa c):=by
 refine⟨⟨zab h.block 6,zab h.block 7,zab h.block 8,zab h.block 9,zab h.block 10⟩,h.lt,zaj h.block,fun j u hu=>?_⟩
 rw[zab h.block,Nat.zero_add];have hj:j<6:=(List.getElem?_eq_some_iff.1 hu).1;rw[← hu]
 match j,hj with
 | 0,_=>rfl
 | 1,_=>rfl
 | 2,_=>rfl
 | 3,_=>rfl
 | 4,_=>rfl
 | 5,_=>rfl
theorem zi7 (l:List zsk)(k:Nat)(b:zsk):(l.set k b).map zsk.disk=(l.map zsk.disk).set k b.disk:=by rw[List.map_set]
theorem zhk {vb:Value}(h:Sat w (zc1 T p S vb*F)){d:Nat}(hd:d<S.bays.length):
  ∃ (vi:Value) (ps qs:List Nat) (q:Nat) (R:zsi),(S.WF∧ps.length=S.bays.length∧qs.length=S.images.length)∧ps[d]?=some q∧
   Sat w (pts p (.cells (zaJ S.cfg vb vi S.off S.fused S.left) T.sh (0,0))*(zaf T.bay 2 vb S.bays.length (zbq ps S.bays)*(zaf T.ptr 1 vi S.images.length (qs.map zaB) *
    (zak T.disk T.sec q (S.disk d)*(R*(zaF T.disk T.sec qs S.images*F))))))∧
   ∀ (q':Nat) (b:zsk),zaF T.disk T.sec (ps.set d q') ((S.bays.set d b).map zsk.disk)=zak T.disk T.sec q' b.disk*R:=by
 obtain⟨vi,ps,qs,⟨hwf,h1,h2⟩,hs⟩:=zdX.1 h;obtain⟨q,hq⟩:∃ q,ps[d]?=some q:=⟨_,List.getElem?_eq_getElem (by omega)⟩;obtain⟨R,hR⟩:=zd6 (TD:=T.disk) (TS:=T.sec) ps (S.bays.map zsk.disk) d (by omega) (by simpa using hd)
 have hb:S.bays[d]?=some ⟨S.disk d,S.state d⟩:=by have:=zsg.bay_of (S:=S) (d:=(d:Int)) (by omega) (by omega);simpa using this
 refine⟨vi,ps,qs,q,R,⟨hwf,h1,h2⟩,hq,?_,fun q' b=>by rw[zi7];exact hR q' b.disk⟩
 have e:=hR q (S.disk d);rw[zbn hq,zbn (show (S.bays.map zsk.disk)[d]?=some (S.disk d) by rw[List.getElem?_map,hb];rfl)] at e;rw[e] at hs;exact hs.perm (by ac_rfl)
theorem ze4 (h:Sat w (zac T p S*F)){d:Nat}(hd:d<S.bays.length):
  ∃ (vb vi:Value) (ps qs:List Nat) (q:Nat) (R:zsi),(S.WF∧ps.length=S.bays.length∧qs.length=S.images.length)∧ps[d]?=some q∧
   Sat w (pts p (.cells (zaJ S.cfg vb vi S.off S.fused S.left) T.sh (0,0))*(zaf T.bay 2 vb S.bays.length (zbq ps S.bays)*(zaf T.ptr 1 vi S.images.length (qs.map zaB) *
    (zak T.disk T.sec q (S.disk d)*(R*(zaF T.disk T.sec qs S.images*F))))))∧
   ∀ (q':Nat) (b:zsk),zaF T.disk T.sec (ps.set d q') ((S.bays.set d b).map zsk.disk)=zak T.disk T.sec q' b.disk*R:=by
 obtain⟨vb,h⟩:=zbf.1 h;exact⟨vb,zhk h hd⟩
theorem zhl (vb vi:Value){ps qs:List Nat}{q' d:Nat}{R F':zsi}{b:zsk}{S':zsg}{w':World}(hl:ps.length=S.bays.length)(hl2:qs.length=S.images.length)
  (hR:∀ (q':Nat) (b:zsk),zaF T.disk T.sec (ps.set d q') ((S.bays.set d b).map zsk.disk)=zak T.disk T.sec q' b.disk*R)
  (hw:S'.WF) (h1:S'.cfg=S.cfg) (h2:S'.images=S.images) (h3:S'.bays=S.bays.set d b)
  (hS:Sat w' (pts p (.cells (zaJ S.cfg vb vi S'.off S'.fused S'.left) T.sh (0,0))*(zaf T.bay 2 vb S.bays.length (((zbq ps S.bays).set (d*2) (zaB q')).set (d*2+1) (.int .i64 b.state))*(zaf T.ptr 1 vi S.images.length (qs.map zaB) *
    (zak T.disk T.sec q' b.disk*(R*(zaF T.disk T.sec qs S.images*F'))))))):Sat w' (zac T p S'*F'):=by
 refine zbJ.2 ⟨vb,vi,ps.set d q',qs,⟨hw,by rw[h3,List.length_set,List.length_set];exact hl,by rw[h2];exact hl2⟩,?_⟩;rw[h1,h2,h3,hR,zfy _ _ _ _ _ hl,List.length_set];exact hS.perm (by ac_rfl)
theorem zdh {vb:Value}(h:Sat w (zc1 T p S vb*F)){d:Nat}(hd:d<S.bays.length):
  ∃ (g cap q:Nat) (vi:Value) (G:zsi),vb = .slice (some ⟨g,0,none⟩) S.bays.length cap∧Sat w (pts p (.cells (zaJ S.cfg (.slice (some ⟨g,0,none⟩) S.bays.length cap) vi S.off S.fused S.left) T.sh (0,0))*(zak T.disk T.sec q (S.disk d)*(F*G)))∧
   (p≠g∧g<w.heap.size)∧w.cell? ⟨g,d*2,none⟩=some (zaB q)∧w.cell? ⟨g,d*2+1,none⟩=some (.int .i64 (S.state d))∧(∀ j,w.frozen? ⟨g,j,none⟩=false)∧
   (∀ (w':World) (S':zsg) (D:zsh) (F':zsi),S'.WF→S'.cfg=S.cfg→S'.images=S.images→S'.bays=S.bays.set d ⟨D,S.state d⟩ →
    Sat w' (pts p (.cells (zaJ S.cfg (.slice (some ⟨g,0,none⟩) S.bays.length cap) vi S'.off S'.fused S'.left) T.sh (0,0))*(zak T.disk T.sec q D*(F'*G)))→Sat w' (zc1 T p S' vb*F'))∧
   (∀ (w':World) (x:Array Value) (D:zsh) (F':zsi),Sat w' (pts p (.cells x T.sh (0,0))*(zak T.disk T.sec q D*(F'*G)))→(∀ j u,j=d*2→u=zaB q→w'.cell? ⟨g,j,none⟩=some u)∧w'.cell? ⟨g,d*2+1,none⟩=some (.int .i64 (S.state d))):=by
 obtain⟨vi,ps,qs,q,R,⟨hwf,h1,h2⟩,hq,hs,hR⟩:=zhk h hd
 have hs2:=hs.perm (show _=zaf T.bay 2 vb S.bays.length (zbq ps S.bays)*(pts p (.cells (zaJ S.cfg vb vi S.off S.fused S.left) T.sh (0,0))*(zaf T.ptr 1 vi S.images.length (qs.map zaB) *
    (zak T.disk T.sec q (S.disk d)*(R*(zaF T.disk T.sec qs S.images*F))))) from by ac_rfl)
 obtain⟨g,cap,cur,rfl,hg,hc,hf,hgs,_⟩:=zaO hs2 (by omega)
 have hb:S.bays[d]?=some ⟨S.disk d,S.state d⟩:=by have:=zsg.bay_of (S:=S) (d:=(d:Int)) (by omega) (by omega);simpa using this
 have hcell:=zeL ps S.bays d q _ hq hb;refine⟨g,cap,q,vi,zaf T.bay 2 (.slice (some ⟨g,0,none⟩) S.bays.length cap) S.bays.length (zbq ps S.bays)*(zaf T.ptr 1 vi S.images.length (qs.map zaB)*(R*zaF T.disk T.sec qs S.images)),rfl,hs.perm (by ac_rfl),⟨hgs.ne.symm,hg⟩,hc _ _ hcell.1,hc _ _ hcell.2,hf,?_,?_⟩
 ·intro w' S' D F' hw hcfg him hbs hS
  have e:=hR q ⟨D,S.state d⟩;rw[zbn hq] at e
  have eb:zbq ps S'.bays=zbq ps S.bays:=by
   have:=zfy ps S.bays d q ⟨D,S.state d⟩ h1;rw[zbn hq] at this;rw[hbs,this,zbn hcell.1,zbn hcell.2]
  refine zdX.2 ⟨vi,ps,qs,⟨hw,by rw[hbs,List.length_set];exact h1,by rw[him];exact h2⟩,?_⟩;rw[eb,him,hbs,e,hcfg,List.length_set];exact hS.perm (by ac_rfl)
 ·intro w' x D F' hS
  have hs3:=hS.perm (show _=zaf T.bay 2 (.slice (some ⟨g,0,none⟩) S.bays.length cap) S.bays.length (zbq ps S.bays)*(pts p (.cells x T.sh (0,0))*(zak T.disk T.sec q D*(zaf T.ptr 1 vi S.images.length (qs.map zaB)*(R*(zaF T.disk T.sec qs S.images*F'))))) from by ac_rfl);obtain⟨g',cap',cur',hv,_,hc',_⟩:=zaO hs3 (by omega);simp only[Value.slice.injEq,Option.some.injEq,Addr.mk.injEq,and_true,true_and] at hv;obtain⟨rfl,rfl⟩:=hv;exact⟨fun j u hj hu=>by rw[hj,hu];exact hc' _ _ hcell.1,hc' _ _ hcell.2⟩
theorem zeH (h:Sat w (zac T p S*F)){d:Nat}(hd:d<S.bays.length):
  ∃ (g cap q:Nat) (vi:Value) (G:zsi),Sat w (pts p (.cells (zaJ S.cfg (.slice (some ⟨g,0,none⟩) S.bays.length cap) vi S.off S.fused S.left) T.sh (0,0))*(zak T.disk T.sec q (S.disk d)*(F*G)))∧
   (p≠g∧g<w.heap.size)∧w.cell? ⟨g,d*2,none⟩=some (zaB q)∧w.cell? ⟨g,d*2+1,none⟩=some (.int .i64 (S.state d))∧(∀ j,w.frozen? ⟨g,j,none⟩=false)∧
   (∀ (w':World) (S':zsg) (D:zsh) (F':zsi),S'.WF→S'.cfg=S.cfg→S'.images=S.images→S'.bays=S.bays.set d ⟨D,S.state d⟩ →
    Sat w' (pts p (.cells (zaJ S.cfg (.slice (some ⟨g,0,none⟩) S.bays.length cap) vi S'.off S'.fused S'.left) T.sh (0,0))*(zak T.disk T.sec q D*(F'*G)))→Sat w' (zac T p S'*F'))∧
   (∀ (w':World) (x:Array Value) (D:zsh) (F':zsi),Sat w' (pts p (.cells x T.sh (0,0))*(zak T.disk T.sec q D*(F'*G)))→(∀ j u,j=d*2→u=zaB q→w'.cell? ⟨g,j,none⟩=some u)∧w'.cell? ⟨g,d*2+1,none⟩=some (.int .i64 (S.state d))):=by
 obtain⟨vb,h⟩:=zbf.1 h;obtain⟨g,cap,q,vi,G,hv,hs,hpg,b0,b1,hf,hcl,hbc⟩:=zdh h hd
 exact⟨g,cap,q,vi,G,hs,hpg,b0,b1,hf,fun w' S' D F' k1 k2 k3 k4 k5=>zbf.2 ⟨vb,hcl w' S' D F' k1 k2 k3 k4 k5⟩,hbc⟩
end
end Go.Sl
end
section
namespace Go.Proofs.YtmcclbiaoeilkaaGreat
open Go.Proofs.Tryz Go.RowKit Go.Sl Go.ChangeMaps
abbrev TSh:TypeId:=79
abbrev zct:TypeId:=83
abbrev zer:TypeId:=80
abbrev zcC:TypeId:=23
abbrev TPl:TypeId:=37
abbrev SH:zsn:=⟨TSh,zct,zer,TD,TS⟩
abbrev za8 (c:zsl):Array Value:=#[.int .i64 c.disks,.int .i64 c.racks,.int .i64 c.rows,.int .i64 c.spare,.int .i64 c.log,.int .i64 c.image]
abbrev plA (a:zsj):Array Value:=#[.int .i64 a.disk,.int .i64 a.area,.int .i64 a.index]
theorem zdY (p:Nat)(S:zsg)(F:zsi)(d:Int)(w:World)(hS:Sat w (zac SH p S*F)):
  Calls prog 36 #[.pointer (some ⟨p,0,none⟩),d] w fun e w'=>e = .returned (.int .i64 (S.state d))∧w=w':=by
 have hwf:=zaE hS
 by_cases h:0≤d∧d<(S.bays.length:Int)
 ·obtain⟨k,rfl⟩:=Int.eq_ofNat_of_zero_le h.1
  obtain⟨g,cap,q,vi,G,hs,⟨hpg,hg⟩,c0,c1,hf,_,_⟩:=zeH hS (d:=k) (by omega);obtain⟨⟨q6,q7,q8,q9,q10⟩,hp,hfp,hra⟩:=zaU hs;have h2:=h.2;obtain⟨n,hn⟩:∃ n,S.bays.length=n:=⟨_,rfl⟩;rw[hn] at q6 h2;clear hs hS hwf h hf hfp hra hn;go_enter func36,ntmps36;go_wp2;go_ret;exact⟨rfl,rfl⟩
 ·have h0:=(zsg.state_pos hwf).2 h
  rw[h0];obtain⟨vb,vi,ps,qs,⟨_,h1,h2⟩,hs⟩:=zbJ.1 hS;obtain⟨⟨q6,q7,q8,q9,q10⟩,hp,hfp,hra⟩:=zaU hs;obtain⟨ao,cap,rfl⟩:=zal hs.right;obtain⟨n,hn⟩:∃ n,S.bays.length=n:=⟨_,rfl⟩;rw[hn] at q6 h;clear hs hS hwf h0 hfp hra hn h1 h2
  by_cases hd:d<0
  ·have hd':decide (d<0)=true:=decide_eq_true hd
   clear hd h;go_enter func36,ntmps36;go_wp2;go_ret;exact⟨rfl,rfl⟩
  ·have hd':decide (d<0)=false:=decide_eq_false hd
   have hd2:decide ((n:Int)≤d)=true:=decide_eq_true (by omega);clear hd h;go_enter func36,ntmps36;go_wp2;go_ret;exact⟨rfl,rfl⟩
theorem zoZ (c:zsl):(prog.info? zcC).map (·.size)=some (za8 c).size:=by
 show _=some 6
 kernel_rfl
theorem zbT (c:zsl)(w:World):Calls prog 84 #[.agg (za8 c)] w fun e w'=>e = .returned (.agg #[c.log,c.image,c.image,c.rows])∧Below w.heap.size w w':=by
 go_enter func84,ntmps84;go_wp2;refine bodyPost_ret (v:=.agg #[c.log,c.image,c.image,c.rows]) (by simp[results,results84,go_sem]) rfl ⟨rfl,?_⟩;exact ((Below.refl _ _).alloc (Nat.le_refl _) _).alloc (by simp) _
def zgi (c:zsl)(k:Nat):Int:=match k with|0=>0|1=>c.log|2=>c.log+c.image|3=>c.log+c.image+c.image|_=>c.sectors
structure zrJ (w1:World)(c:zsl)(n i:Value)(wr:World):Prop where
 st:wr=w1∧∃ k:Nat,k≤4∧i = .int .i64 k∧n = .int .i64 (zgi c k)
theorem zhg (c:zsl)(w:World)(h1:0≤c.log∧c.log≤65536)(h2:0≤c.image∧c.image≤65536)(h3:0≤c.rows∧c.rows≤65536):
  Calls prog 29 #[.agg (za8 c)] w fun e w'=>e = .returned (.int .i64 c.sectors)∧Below w.heap.size w w':=by
 obtain⟨l,hl⟩:∃ l,c.log=l:=⟨_,rfl⟩;obtain⟨i,hi⟩:∃ i,c.image=i:=⟨_,rfl⟩;obtain⟨r,hr⟩:∃ r,c.rows=r:=⟨_,rfl⟩;have HL:=zh hl;have HI:=zh hi;have HR:=zh hr;rw[hl] at h1;rw[hi] at h2;rw[hr] at h3
 have hps:∀ k,zgi c k=match k with|0=>0|1=>l|2=>l+i|3=>l+i+i|_=>l+i+i+r:=by
  intro k;rw[← hl,← hi,← hr];rfl
 have HPS:=zh hps;have HE:=zh (show c.sectors=l+i+i+r from HPS.out 4);clear hl hi hr hps
 have i0:∀ w,(Instr.index 125 (.agg #[l,i,i,r]) (.int .i64 0)).run prog w = .ok (.int .i64 l) w:=fun _=>by kernel_rfl
 have i1:∀ w,(Instr.index 125 (.agg #[l,i,i,r]) (.int .i64 1)).run prog w = .ok (.int .i64 i) w:=fun _=>by kernel_rfl
 have i2:∀ w,(Instr.index 125 (.agg #[l,i,i,r]) (.int .i64 2)).run prog w = .ok (.int .i64 i) w:=fun _=>by kernel_rfl
 have i3:∀ w,(Instr.index 125 (.agg #[l,i,i,r]) (.int .i64 3)).run prog w = .ok (.int .i64 r) w:=fun _=>by kernel_rfl
 go_enter func29,ntmps29;go_wp2_with (go_at_call 84;refine (zbT c _).mono ?_;rintro e w1 ⟨rfl,hb⟩;rw[HL.out,HI.out,HR.out];have HB:=zh hb;clear hb)
 go_loopw [3,5,8] (fun n _ i wr=>zrJ w1 c n i wr) (fun _ _ i _=>4 - (intOf i).toNat)
 case atStart=>exact⟨rfl,0,by omega,rfl,rfl⟩
 case round =>
  obtain⟨rfl,k,hk,rfl,rfl⟩:=hrel.st;clear hrel;have e:=HPS.out k;rcases (show k=0∨k=1∨k=2∨k=3∨k=4 by omega) with rfl|rfl|rfl|rfl|rfl
  all_goals (simp only at e;rw[e];clear e hk)
  ·go_wp2
   go_roundw
   case rel=>exact⟨rfl,1,by omega,rfl,by rw[HPS.out 1];simp⟩
   case measure=>simp[intOf]
  ·go_wp2
   go_roundw
   case rel=>exact⟨rfl,2,by omega,rfl,by rw[HPS.out 2];rfl⟩
   case measure=>simp[intOf]
  ·go_wp2
   go_roundw
   case rel=>exact⟨rfl,3,by omega,rfl,by rw[HPS.out 3];rfl⟩
   case measure=>simp[intOf]
  ·go_wp2
   go_roundw
   case rel=>exact⟨rfl,4,by omega,rfl,by rw[HPS.out 4];rfl⟩
   case measure=>simp[intOf]
  ·go_wp2
   go_ret;exact⟨by rw[HE.out];rfl,Below.trans ((Below.refl _ _).alloc (Nat.le_refl _) _) (HB.out.mono (by simp))⟩
theorem zeT {w':World}{p:Nat}{c:zsl}(h:w'.rangeAt p 0 (zfa c)):(Instr.loadAt zcC (.pointer (some ⟨p,0,none⟩))).run prog w' = .ok (.agg (za8 c)) w':=by
 have:=run_loadAt_mid w' p 0 zcC (zfa c) _ h underlying23 rfl (by rw[zoZ c];rfl);exact this
theorem zcM (p:Nat)(S:zsg)(F:zsi)(w:World)(hS:Sat w (zac SH p S*F)):
  Calls prog 26 #[.pointer (some ⟨p,0,none⟩)] w fun e w'=>e = .returned (.agg (za8 S.cfg))∧Below w.heap.size w w':=by
 obtain⟨vb,vi,ps,qs,⟨_,h1,h2⟩,hs⟩:=zbJ.1 hS;obtain⟨⟨q6,q7,q8,q9,q10⟩,hp,hfp,hra⟩:=zaU hs;have c0:=hra 0 _ rfl;have c1:=hra 1 _ rfl;have c2:=hra 2 _ rfl;have c3:=hra 3 _ rfl;have c4:=hra 4 _ rfl;have c5:=hra 5 _ rfl;simp only[Nat.zero_add] at c0 c1 c2 c3 c4 c5
 generalize S.cfg=c at *
 clear hs hS hfp hra h1 h2;go_enter func26,ntmps26;go_wp2;refine bodyPost_ret (v:=.agg (za8 c)) (by simp[results,results26,go_sem]) rfl ⟨rfl,?_⟩;exact (Below.refl _ _).alloc (Nat.le_refl _) _
theorem zhE (p:Nat)(S:zsg)(F:zsi)(d:Int)(w:World)(hS:Sat w (zac SH p S*F))(hd:S.state d≠0):
  Calls prog 120 #[.pointer (some ⟨p,0,none⟩),d] w fun e w'=>e = .returned (.int .i64 (S.access d))∧w=w':=by
 have hwf:=zaE hS;have h:=zsg.state_in hwf hd;obtain⟨k,rfl⟩:=Int.eq_ofNat_of_zero_le h.1;obtain⟨g,cap,q,vi,G,hs,⟨hpg,hg⟩,c0,c1,hf,_,_⟩:=zeH hS (d:=k) (by omega);obtain⟨⟨q6,q7,q8,q9,q10⟩,hp,hfp,hra⟩:=zaU hs;have h2:=h.2;obtain⟨n,hn⟩:∃ n,S.bays.length=n:=⟨_,rfl⟩;rw[hn] at q6 h2
 have hacc:S.access (k:Int)=if S.off then 14 else if S.state k=1 then 0 else 15:=rfl
 rw[hacc]
 generalize S.state k=st at *
 clear hs hS hwf h hf hfp hra hn hacc hd;cases ho:S.off
 ·rw[ho] at q8
  clear ho
  by_cases h1:st=1
  ·subst h1
   go_enter func120,ntmps120;go_wp2;go_ret;exact⟨rfl,rfl⟩
  ·have hb:(st != 1)=true:=by simp[h1]
   rw[if_neg h1];clear h1;go_enter func120,ntmps120;go_wp2;go_ret;exact⟨rfl,rfl⟩
 ·rw[ho] at q8
  clear ho;go_enter func120,ntmps120;go_wp2;go_ret;exact⟨rfl,rfl⟩
theorem Sat.shelfSetV {p:Nat}{S S':zsg}{vb:Value}{F:zsi}{w w':World}(hS:Sat w (zc1 SH p S vb*F))(hwf:S'.WF)(h1:S'.cfg=S.cfg)(h2:S'.bays=S.bays)(h3:S'.images=S.images)
  (hk:∀ (c c':Array Value) (vb vi:Value) (G:zsi),c=zaJ S.cfg vb vi S.off S.fused S.left→c'=zaJ S.cfg vb vi S'.off S'.fused S'.left→Sat w (pts p (.cells c TSh (0,0))*G)→Sat w' (pts p (.cells c' TSh (0,0))*G)):
  Sat w' (zc1 SH p S' vb*F):=by
 obtain⟨vi,ps,qs,⟨_,h4,h5⟩,hs⟩:=zdX.1 hS;refine zdX.2 ⟨vi,ps,qs,⟨hwf,by rw[h2];exact h4,by rw[h3];exact h5⟩,?_⟩;rw[h1,h2,h3];exact hk _ _ _ _ _ rfl rfl hs
theorem Sat.shelfSet {p:Nat}{S S':zsg}{F:zsi}{w w':World}(hS:Sat w (zac SH p S*F))(hwf:S'.WF)(h1:S'.cfg=S.cfg)(h2:S'.bays=S.bays)(h3:S'.images=S.images)
  (hk:∀ (c c':Array Value) (vb vi:Value) (G:zsi),c=zaJ S.cfg vb vi S.off S.fused S.left→c'=zaJ S.cfg vb vi S'.off S'.fused S'.left→Sat w (pts p (.cells c TSh (0,0))*G)→Sat w' (pts p (.cells c' TSh (0,0))*G)):
  Sat w' (zac SH p S'*F):=by
 obtain⟨vb,hS⟩:=zbf.1 hS;exact zbf.2 ⟨vb,Sat.shelfSetV hS hwf h1 h2 h3 hk⟩
theorem zoV (p:Nat)(S:zsg)(F:zsi)(n:Int)(w:World)(hS:Sat w (zac SH p S*F))(hn:n<9223372036854775808):
  Calls prog 47 #[.pointer (some ⟨p,0,none⟩),n] w fun e w'=>e = .returned (.tuple #[])∧Hid (Same w w'∧Sat w' (zac SH p (S.fuse n)*F)):=by
 have hwf:=zaE hS
 have hfin:Sat ((w.setCell ⟨p,9,none⟩ (.bool (decide (0≤n)))).setCell ⟨p,10,none⟩ (.int .i64 n)) (zac SH p (S.fuse n)*F):=by
  refine Sat.shelfSet hS ⟨hwf.cfg,hwf.bays,hwf.st,hwf.images,fun h=>?_⟩ rfl rfl rfl ?_
  ·have:decide (0≤n)=true:=h
   exact⟨by show 0≤n;simpa using this,hn⟩
  ·rintro _ _ vb vi G rfl rfl h
   exact (h.setCell _).setCell _
 have HF:=zh hfin;obtain⟨vb,vi,ps,qs,⟨_,h1,h2⟩,hs⟩:=zbJ.1 hS;obtain⟨⟨q6,q7,q8,q9,q10⟩,hp,hfp,hra⟩:=zaU hs;clear hs hS hra h1 h2 hfin hwf;go_enter func47,ntmps47;go_wp2
 first|go_end0|go_ret
 exact⟨rfl,((Same.refl w).setCell _ _).setCell _ _,HF.out⟩
end Go.Proofs.YtmcclbiaoeilkaaGreat
end
