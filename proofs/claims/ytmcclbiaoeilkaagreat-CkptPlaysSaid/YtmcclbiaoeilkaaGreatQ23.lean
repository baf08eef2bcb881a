import Derived.Test.YtmcclbiaoeilkaaGreatQ22
set_option maxHeartbeats 4000000
set_option maxRecDepth 20000
/- Part 23 of a proof;the last part says what is proved. -/
namespace Go.Proofs.YtmcclbiaoeilkaaGreat
open Go.Proofs.Tryz Go.RowKit Go.Sl Go.ChangeMaps
abbrev TCk:TypeId:=44
abbrev ckA (c:CkM):Array Value:=#[.int .i64 c.gen.epoch,.int .i64 c.gen.count,.int .i64 c.seq,.string (zae c.image)]
theorem zk3 {S:zsg}{a:zsj}(h:(S.read a).2≠0):(S.read a).1=[]:=by
 unfold zsg.read at h ⊢;split
 ·rfl
 rename_i hn;rw[if_neg hn] at h;split
 ·rfl
 rename_i ha;rw[if_neg ha] at h;unfold zsh.read at h ⊢;split
 ·rename_i hh;rw[if_pos hh] at h;exact absurd rfl h
 ·rfl
theorem zns (a:zsj):zbj a []=none:=by unfold zbj;rw[if_neg];rintro⟨_,h,_⟩;cases h
theorem zgW {a:zsj}{s:List UInt8}{g:GenM}{p:List UInt8}(h:zbj a s=some (g,p)):p.length=40:=by
 unfold zbj at h;split at h
 ·rename_i hh
  simp only[Option.some.injEq,Prod.mk.injEq] at h;rw[← h.2];unfold zav;rw[List.length_take,List.length_drop,hh.2.1];rfl
 ·cases h
theorem zkU {S:zsg}{d area i:Int}(h:zb5 S d area i=none):(zfY S d area i).2.2≠0∧(zfY S d area i).1=g0:=by
 unfold zfY;split
 ·rename_i h1;exact⟨h1,rfl⟩
 ·rw[h];exact⟨by simp,rfl⟩
theorem zkV {S:zsg}{d area i:Int}{g:GenM}{p:List UInt8}(h:zb5 S d area i=some (g,p)):zfY S d area i=(g,p,0):=by
 unfold zfY;split
 ·rename_i h1
  unfold zb5 at h;rw[zk3 h1,zns] at h;cases h
 ·rw[h]
theorem zrv {S:zsg}(hwf:S.WF){d area:Int}(hs:S.state d≠0)(ha:area=2∨area=3):¬ S.number ⟨d,area,0⟩<0:=by
 have him:=hwf.cfg.image;unfold zsg.number;have hlog:=hwf.cfg.log;have hrow:=hwf.cfg.rows;rw[if_neg]
 ·unfold zsl.base
  rcases ha with rfl|rfl <;> simp <;> omega
 ·unfold zsl.size
  rcases ha with rfl|rfl <;> simp[hs] <;> omega
theorem zq3 {S:zsg}{d:Int}(h:S.access d=0):S.state d=1:=by
 unfold zsg.access at h;split at h
 ·cases h
 ·split at h
  ·assumption
  ·cases h
theorem zkc {S:zsg}(hwf:S.WF){a:zsj}(hn:¬ S.number a<0)(h:S.access a.disk=0):S.read a=((S.disk a.disk).content (S.number a).toNat,0):=by
 unfold zsg.read;rw[if_neg hn,if_neg (by simp[h])];obtain⟨_,_,_,_,_,_,h7⟩:=zsg.number_lt hwf (a:=a) (by omega);have hd:=zsg.disk_n hwf (zq3 h);unfold zsh.read;rw[if_pos];unfold zsh.has;simp only[Bool.and_eq_true,decide_eq_true_eq];omega
theorem zqw {S:zsg}(hwf:S.WF){d area:Int}(hs:S.state d≠0)(ha:area=2∨area=3):(S.access d≠0→S.read ⟨d,area,0⟩=([],S.access d)):=by
 intro h;unfold zsg.read;rw[if_neg (zrv hwf hs ha),if_pos h]
theorem zlt {S:zsg}(hwf:S.WF){d area:Int}(hs:S.state d≠0)(ha:area=2∨area=3):zaS S d area=
  if (zfY S d area 0).2.2≠0 then (ck0,(zfY S d area 0).2.2) else match zdk (zfY S d area 0).2.1 (zda S.cfg) with
   | none=>(ck0,12)
   | some (s,n)=>match zeP S d area (zfY S d area 0).1 ((n+39) / 40) with
    | none=>(ck0,12)
    | some a=>(⟨(zfY S d area 0).1,s,a.take n⟩,0):=by
 unfold zaS;rw[if_neg (by omega)]
 by_cases hacc:S.access d=0
 ·rw[if_neg (by simp[hacc])]
  cases h:zb5 S d area 0 with
  | none =>
   have h1:=zkU h;rw[if_pos h1.1]
   have h2:(zfY S d area 0).2.2=12:=by
    unfold zfY at h1 ⊢;split
    ·rename_i hr
     rw[zkc hwf (zrv hwf hs ha) hacc] at hr;exact absurd rfl hr
    ·rw[h]
   rw[h2]
  | some gp =>
   obtain⟨g,p⟩:=gp;rw[zkV h];simp
   rfl
 ·rw[if_pos hacc]
  have hr:=zqw hwf hs ha hacc
  have ho:zfY S d area 0=(g0,[],S.access d):=by unfold zfY;rw[hr,if_pos hacc]
  rw[ho,if_pos hacc]
theorem zn3 (a b:List UInt8):zae a++zae b=zae (a++b):=by
 unfold zae;apply ByteArray.ext;simp[ByteArray.data_append]
theorem zfD {o:Oper}{a:Act}{w:World}{T t2:TypeId}{x y:Operand}{s t:List UInt8}(ho:o.op = .binOp .add T x y t2)(hx:a.eval x = .string (zae s))(hy:a.eval y = .string (zae t))(hg:eqGuard .add T x y (.string (zae s)) (.string (zae t))=pure ())(h:s.length+t.length≤1000000000):
  (execOp a.eval o).run prog w = .ok (.value (.string (zae (s++t)))) w:=by
 refine zau ho hx hy hg ?_;rw[binOp_string_add,run_string_add_sum _ _ _ (by rw[zap,zap];omega),zn3]
theorem zas {w:World}{B:Nat}{x y z u:Value}{X:zsi}(h:Sat w (pts B (.cells #[x,y,z,u] TCk (0,0))*X)):
  (w.cell? ⟨B,0,none⟩=some x∧w.cell? ⟨B,1,none⟩=some y∧w.cell? ⟨B,2,none⟩=some z∧w.cell? ⟨B,3,none⟩=some u)∧(w.frozen? ⟨B,0,none⟩=false∧w.frozen? ⟨B,1,none⟩=false∧w.frozen? ⟨B,2,none⟩=false∧w.frozen? ⟨B,3,none⟩=false)∧B<w.heap.size:=
 ⟨⟨zab h.block 0,zab h.block 1,zab h.block 2,zab h.block 3⟩,⟨zaj h.block 0,zaj h.block 1,zaj h.block 2,zaj h.block 3⟩,h.lt⟩
theorem zaX {c:Array Value}(h:c.size=4):(prog.info? TCk).map (·.size)=some c.size:=by rw[h];kernel_rfl
theorem zhu (w:World):(zeroValue TCk).run prog w = .ok (.agg #[.int .i64 0,.int .i64 0,.int .i64 0,.string ⟨#[]⟩]) w:=by kernel_rfl
def rdF (p:Nat)(S:zsg)(sB dB aB rB:Nat)(d area:Int)(X:zsi):zsi:=
 zac SH p S*(pts sB (.cells #[zaB p] ziH (0,0))*(pts dB (.cells #[d] zbP (0,0))*(pts aB (.cells #[area] zbP (0,0))*(pts rB (.cells #[.int .i64 0,.int .i64 0,.int .i64 0,.string ⟨#[]⟩] TCk (0,0))*X))))
theorem za5 {p:Nat}{S:zsg}{sB dB aB rB:Nat}{d area:Int}{X:zsi}{w:World}(h:Sat w (rdF p S sB dB aB rB d area X)):w.cell? ⟨sB,0,none⟩=some (.pointer (some ⟨p,0,none⟩))∧w.cell? ⟨dB,0,none⟩=some (.int .i64 d)∧w.cell? ⟨aB,0,none⟩=some (.int .i64 area)∧
  (w.frozen? ⟨rB,0,none⟩=false∧w.frozen? ⟨rB,1,none⟩=false∧w.frozen? ⟨rB,2,none⟩=false∧w.frozen? ⟨rB,3,none⟩=false)∧(w.cell? ⟨rB,0,none⟩=some (.int .i64 0)∧w.cell? ⟨rB,1,none⟩=some (.int .i64 0)∧w.cell? ⟨rB,2,none⟩=some (.int .i64 0)∧w.cell? ⟨rB,3,none⟩=some (.string ⟨#[]⟩)):=by
 unfold rdF at h;have h4:=h.right.right.right.right;exact⟨zab h.right.block 0,zab h.right.right.block 0,zab h.right.right.right.block 0,⟨zaj h4.block 0,zaj h4.block 1,zaj h4.block 2,zaj h4.block 3⟩,zab h4.block 0,zab h4.block 1,zab h4.block 2,zab h4.block 3⟩
theorem zcK {p:Nat}{S:zsg}{sB dB aB rB:Nat}{d area:Int}{X:zsi}{w:World}(h:Sat w (rdF p S sB dB aB rB d area X))(x y z u:Value):
  Sat ((((w.setCell ⟨rB,0,none⟩ x).setCell ⟨rB,1,none⟩ y).setCell ⟨rB,2,none⟩ z).setCell ⟨rB,3,none⟩ u) (pts rB (.cells #[x,y,z,u] TCk (0,0))*(zac SH p S*(pts sB (.cells #[zaB p] ziH (0,0))*(pts dB (.cells #[d] zbP (0,0))*(pts aB (.cells #[area] zbP (0,0))*X))))):=by
 unfold rdF at h;exact ((((h.perm (show _=pts rB (.cells #[.int .i64 0,.int .i64 0,.int .i64 0,.string ⟨#[]⟩] TCk (0,0))*(zac SH p S*(pts sB (.cells #[zaB p] ziH (0,0))*(pts dB (.cells #[d] zbP (0,0))*(pts aB (.cells #[area] zbP (0,0))*X)))) from by ac_rfl)).setCell (i:=0) x).setCell (i:=1) y).setCell (i:=2) z).setCell (i:=3) u
theorem zkT {S:zsg}{d area i ge gc er:Int}{pl:List UInt8}(this:zfY S d area i=(⟨ge,gc⟩,pl,er))(h:er=0):pl.length=40:=by
 unfold zfY at this;split at this
 ·rename_i h1;simp only[Prod.mk.injEq] at this;exact absurd (this.2.2.trans h) h1
 ·split at this
  ·simp only[Prod.mk.injEq] at this;rw[← this.2.2] at h;cases h
  ·rename_i g' p' ho
   simp only[Prod.mk.injEq] at this;rw[← this.2.1];exact zgW ho
theorem zdi (s:List UInt8)(W:World):∃ (c:Array Value) (fr:Nat×Nat) (cap:Nat),(convert 9 69 (.string (zae s))).run prog W = .ok (.slice (some ⟨W.heap.size,0,none⟩) s.length cap) (W.drew.alloc (.cells c zaM fr))∧(∀ (j:Nat) (u:Value),(zaY s)[j]?=some u→c[j]?=some u)∧s.length≤cap:=by
 have h:=run_bytes_of_string (P:=prog) W 9 69 5 (zae s) underlying9 underlying69 underlying5;rw[zap] at h;refine⟨_,_,_,h,?_,grownCap_ge _ _ _ _⟩;intro j u hu
 have hj:j<s.length:=by have:=(List.getElem?_eq_some_iff.1 hu).1;simpa [zaY] using this
 simp only[zaY,List.getElem?_map] at hu
 have hu':(s.map fun b=>Value.int .u8 b.toNat)[j]?=some u:=by simpa [zb4] using hu
 unfold bytesRow;rw[Array.getElem?_append_left (by simpa [zae] using hj)];simpa [zae] using hu'
theorem zkO {b:List UInt8}{most:Int}{s:Int}{n:Nat}(h:zdk b most=some (s,n)):(n:Int)≤most:=by
 rw[zfJ] at h;split at h
 ·cases h
 split at h
 ·cases h
 split at h
 ·simp only[Option.some.injEq,Prod.mk.injEq] at h;omega
 ·cases h
theorem zfK {S:zsg}{d area:Int}{g:GenM}:∀ {k:Nat} {a:List UInt8},zeP S d area g k=some a→a.length=40*k
 | 0,a,h=>by simp only[zeP,Option.some.injEq] at h;subst h;rfl
 | k+1,a,h=>by
  simp only[zeP] at h;split at h
  ·cases h
  rename_i b hb;split at h
  ·cases h
  rename_i g' q ho;split at h
  ·simp only[Option.some.injEq] at h
   subst h;rw[List.length_append,zfK hb,zgW ho];omega
  ·cases h
theorem zez {S:zsg}{d area:Int}{g:GenM}{k:Nat}(h:zeP S d area g k=none):∀ j,zeP S d area g (k+j)=none
 | 0=>h
 | j+1=>by rw[← Nat.add_assoc];simp only[zeP];rw[zez h j]
theorem znw {S:zsg}{d area:Int}{g g':GenM}{k:Nat}{a q:List UInt8}{er:Int}(ha:zeP S d area g k=some a)(h:zfY S d area ((k:Int)+1)=(g',q,er)):
  (er≠0∨g'≠g→zeP S d area g (k+1)=none)∧(er=0→g'=g→zeP S d area g (k+1)=some (a++q)∧q.length=40):=by
 cases ho:zb5 S d area ((k:Int)+1) with
 | none =>
  have h1:=(zkU ho).1;rw[h] at h1;exact⟨fun _=>by simp only[zeP];rw[ha,ho],fun e=>absurd e h1⟩
 | some gp =>
  obtain⟨g2,q2⟩:=gp;have h1:=zkV ho;rw[h,Prod.mk.injEq,Prod.mk.injEq] at h1;obtain⟨rfl,rfl,rfl⟩:=h1
  refine⟨fun hh=>?_,fun _ hg=>⟨?_,zgW ho⟩⟩
  ·simp only[zeP];rw[ha,ho];exact if_neg (hh.resolve_left (by simp))
  ·simp only[zeP];rw[ha,ho];exact if_pos hg
def ckF (p:Nat)(S:zsg)(sB dB aB rB kB gB:Nat)(d area ge gc:Int)(s:Value)(X:zsi):zsi:=
 rdF p S sB dB aB rB d area (pts kB (.cells #[ge,gc,.int .i64 0,s] TCk (0,0))*(pts gB (.cells #[ge,gc] zam (0,0))*X))
theorem zbY {p:Nat}{S:zsg}{sB dB aB rB kB gB:Nat}{d area ge gc:Int}{s:Value}{X:zsi}{w:World}(h:Sat w (ckF p S sB dB aB rB kB gB d area ge gc s X)):
  (w.cell? ⟨kB,0,none⟩=some (.int .i64 ge)∧w.cell? ⟨kB,1,none⟩=some (.int .i64 gc)∧w.cell? ⟨kB,2,none⟩=some (.int .i64 0)∧w.cell? ⟨kB,3,none⟩=some s)∧(w.frozen? ⟨kB,0,none⟩=false∧w.frozen? ⟨kB,1,none⟩=false∧w.frozen? ⟨kB,2,none⟩=false∧w.frozen? ⟨kB,3,none⟩=false)∧(w.cell? ⟨gB,0,none⟩=some (.int .i64 ge)∧w.cell? ⟨gB,1,none⟩=some (.int .i64 gc))∧kB<w.heap.size∧gB<w.heap.size:=by
 unfold ckF rdF at h;have h5:=h.right.right.right.right.right;have h6:=h5.right;exact⟨⟨zab h5.block 0,zab h5.block 1,zab h5.block 2,zab h5.block 3⟩,⟨zaj h5.block 0,zaj h5.block 1,zaj h5.block 2,zaj h5.block 3⟩,⟨zab h6.block 0,zab h6.block 1⟩,h5.lt,h6.lt⟩
theorem zmG {p:Nat}{S:zsg}{sB dB aB rB kB gB:Nat}{d area ge gc:Int}{s:Value}{X:zsi}{w:World}(h:Sat w (ckF p S sB dB aB rB kB gB d area ge gc s X))(t:Value):Sat (w.setCell ⟨kB,3,none⟩ t) (ckF p S sB dB aB rB kB gB d area ge gc t X):=by
 unfold ckF rdF at h ⊢;exact ((h.perm (show _=pts kB (.cells #[ge,gc,.int .i64 0,s] TCk (0,0))*(zac SH p S*(pts sB (.cells #[zaB p] ziH (0,0))*(pts dB (.cells #[d] zbP (0,0))*(pts aB (.cells #[area] zbP (0,0))*(pts rB (.cells #[.int .i64 0,.int .i64 0,.int .i64 0,.string ⟨#[]⟩] TCk (0,0))*(pts gB (.cells #[ge,gc] zam (0,0))*X)))))) from by ac_rfl)).setCell (i:=3) t).perm (by ac_rfl)
theorem zmF {p:Nat}{S:zsg}{sB dB aB rB kB gB:Nat}{d area ge gc:Int}{s:Value}{X:zsi}{w:World}(h:Sat w (ckF p S sB dB aB rB kB gB d area ge gc s X))(u t:Value):Sat ((w.setCell ⟨kB,2,none⟩ u).setCell ⟨kB,3,none⟩ t) (rdF p S sB dB aB rB d area (pts kB (.cells #[ge,gc,u,t] TCk (0,0))*(pts gB (.cells #[ge,gc] zam (0,0))*X))):=by
 unfold ckF rdF at h;unfold rdF;exact (((h.perm (show _=pts kB (.cells #[ge,gc,.int .i64 0,s] TCk (0,0))*(zac SH p S*(pts sB (.cells #[zaB p] ziH (0,0))*(pts dB (.cells #[d] zbP (0,0))*(pts aB (.cells #[area] zbP (0,0))*(pts rB (.cells #[.int .i64 0,.int .i64 0,.int .i64 0,.string ⟨#[]⟩] TCk (0,0))*(pts gB (.cells #[ge,gc] zam (0,0))*X)))))) from by ac_rfl)).setCell (i:=2) u).setCell (i:=3) t).perm (by ac_rfl)
theorem zrl {p:Nat}{S:zsg}{sB dB aB rB kB:Nat}{d area:Int}{x y u t:Value}{X:zsi}{w:World}(h:Sat w (rdF p S sB dB aB rB d area (pts kB (.cells #[x,y,u,t] TCk (0,0))*X))):w.cell? ⟨kB,0,none⟩=some x∧w.cell? ⟨kB,1,none⟩=some y∧w.cell? ⟨kB,2,none⟩=some u∧w.cell? ⟨kB,3,none⟩=some t:=by
 unfold rdF at h;have h5:=h.right.right.right.right.right;exact⟨zab h5.block 0,zab h5.block 1,zab h5.block 2,zab h5.block 3⟩
structure CkS (w:World)(p:Nat)(S:zsg)(sB dB aB rB kB gB:Nat)(d area ge gc:Int)(F:zsi)(n:Nat)(iv:Value)(wr:World):Prop where
 st:∃ (k:Nat) (a:List UInt8) (X:zsi),Hid (40*k<n+40∧zeP S d area ⟨ge,gc⟩ k=some a)∧iv = .int .i64 ((k:Int)+1)∧Hid (Same w wr∧Sat wr (ckF p S sB dB aB rB kB gB d area ge gc (.string (zae a)) (X*F)))
def zgC (p:Nat)(S:zsg)(F:zsi)(r:CkM×Int)(w:World)(e:Ending)(w':World):Prop:=e = .returned (.tuple #[.agg (ckA r.1),r.2])∧Same w w'∧Sat w' (zac SH p S*F)
theorem zeM (p:Nat)(S:zsg)(F:zsi)(d area:Int)(w:World)(hS:Sat w (zac SH p S*F)):
  Calls prog 20 #[.pointer (some ⟨p,0,none⟩),d,area] w (zgC p S F (zaS S d area) w):=by
 have hwf:=zaE hS;obtain⟨R,hR⟩:∃ R,zaS S d area=R:=⟨_,rfl⟩;rw[hR];have hA:=(((hS.alloc (.cells #[.pointer (some ⟨p,0,none⟩)] ziH)).alloc (.cells #[d] zbP)).alloc (.cells #[area] zbP)).alloc (.cells #[.int .i64 0,.int .i64 0,.int .i64 0,.string ⟨#[]⟩] TCk);simp only[World.size_alloc] at hA;have hsm:=((((Same.refl w).alloc (.cells #[.pointer (some ⟨p,0,none⟩)] ziH)).alloc (.cells #[d] zbP)).alloc (.cells #[area] zbP)).alloc (.cells #[.int .i64 0,.int .i64 0,.int .i64 0,.string ⟨#[]⟩] TCk)
 have HST:=zh (fun (W:World) (X:zsi) (h:Sat W (zac SH p S*X))=>zdY p S X d W h)
 go_enter func20,ntmps20;go_upto_region 1 with ((with_reducible (refine zai ?_ TCk ?_ _ (zhu _) ?_));rfl;rfl)
 generalize (((w.alloc (.cells #[.pointer (some ⟨p,0,none⟩)] ziH)).alloc (.cells #[d] zbP)).alloc (.cells #[area] zbP)).alloc (.cells #[.int .i64 0,.int .i64 0,.int .i64 0,.string ⟨#[]⟩] TCk)=w1 at hA hsm ⊢;generalize w.heap.size+1+1+1=rB at hA ⊢;generalize w.heap.size+1+1=aB at hA ⊢;generalize w.heap.size+1=dB at hA ⊢;generalize w.heap.size=sB at hA ⊢;have H1:=zh (show Same w w1∧Sat w1 (rdF p S sB dB aB rB d area F) from⟨hsm,hA.perm (by unfold rdF zaB;ac_rfl)⟩);have HWF:=zh hwf
 have HFIN:=zh (show ∀ (W:World) (r:CkM×Int) (X:zsi),Same w W→Sat W (pts rB (.cells (ckA r.1) TCk (0,0))*(zac SH p S*(pts sB (.cells #[zaB p] ziH (0,0))*(pts dB (.cells #[d] zbP (0,0))*(pts aB (.cells #[area] zbP (0,0))*(X*F))))))→R=r→zgC p S F R w (.returned (.tuple #[.agg (ckA r.1),r.2])) W from fun W r X h1 h2 h3=>by
  subst h3
  exact⟨rfl,h1,(h2.perm (show _=(pts rB (.cells (ckA R.1) TCk (0,0))*(pts sB (.cells #[zaB p] ziH (0,0))*(pts dB (.cells #[d] zbP (0,0))*(pts aB (.cells #[area] zbP (0,0))*X))))*(zac SH p S*F) from by ac_rfl)).right⟩)
 clear hA hsm hS hwf;obtain⟨c1,c2,c3,⟨f0,f1,f2,f3⟩,c4,c5,c6,c7⟩:=za5 H1.out.2;have HRv:=zh hR
 by_cases hb:S.state d=0∨(area≠2∧area≠3)
 case pos =>
  have hR2:R=(ck0,1):=by rw[← hR];unfold zaS;rw[if_pos hb]
  clear hR HRv HWF;rcases Classical.em (S.state d=0) with h0|h0
  ·have e0:(S.state d==0)=true:=by simp[h0]
   generalize S.state d=st at HST e0;clear hb h0;go_wp2_with (go_at_call 36;refine (HST.out w1 _ H1.out.2).mono ?_;rintro e w2 ⟨rfl,rfl⟩);have H2:=(zd ((((H1.out.1.setCell ⟨rB,0,none⟩ (.int .i64 0)).setCell ⟨rB,1,none⟩ (.int .i64 0)).setCell ⟨rB,2,none⟩ (.int .i64 0)).setCell ⟨rB,3,none⟩ (.string ⟨#[]⟩)) (zcK H1.out.2 (.int .i64 0) (.int .i64 0) (.int .i64 0) (.string ⟨#[]⟩)));refine bodyPost_ret (v:=.tuple #[.agg #[.int .i64 0,.int .i64 0,.int .i64 0,.string ⟨#[]⟩],.int .i64 1]) (zaA results20 (ResIs.row rfl H2.out.2.block underlying44 rfl (zaX rfl)) (.tmp rfl)) rfl ?_
   exact HFIN.out _ (ck0,1) emp H2.out.1 (H2.out.2.perm (by rw[zaL];rfl)) hR2
  ·have e0:(S.state d==0)=false:=by simp[h0]
   have e2:(area != 2)=true:=bne_iff_ne.2 (hb.resolve_left h0).1;have e3:(area != 3)=true:=bne_iff_ne.2 (hb.resolve_left h0).2;generalize S.state d=st at HST e0;clear hb h0;go_wp2_with (go_at_call 36;refine (HST.out w1 _ H1.out.2).mono ?_;rintro e w2 ⟨rfl,rfl⟩);have H2:=(zd ((((H1.out.1.setCell ⟨rB,0,none⟩ (.int .i64 0)).setCell ⟨rB,1,none⟩ (.int .i64 0)).setCell ⟨rB,2,none⟩ (.int .i64 0)).setCell ⟨rB,3,none⟩ (.string ⟨#[]⟩)) (zcK H1.out.2 (.int .i64 0) (.int .i64 0) (.int .i64 0) (.string ⟨#[]⟩)))
   refine bodyPost_ret (v:=.tuple #[.agg #[.int .i64 0,.int .i64 0,.int .i64 0,.string ⟨#[]⟩],.int .i64 1]) (zaA results20 (ResIs.row rfl H2.out.2.block underlying44 rfl (zaX rfl)) (.tmp rfl)) rfl ?_;exact HFIN.out _ (ck0,1) emp H2.out.1 (H2.out.2.perm (by rw[zaL];rfl)) hR2
 case neg =>
  have h0:S.state d≠0:=fun h=>hb (.inl h)
  have ha:area=2∨area=3:=by
   rcases Classical.em (area=2) with h|h
   ·exact .inl h
   ·rcases Classical.em (area=3) with h'|h'
    ·exact .inr h'
    ·exact absurd (.inr ⟨h,h'⟩) hb
  have hck:=zlt HWF.out h0 ha;rw[hR] at hck
  have e0:(S.state d==0)=false:=by simp[h0]
  have HOP:=zh (show ∀ (W:World) (i:Int) (X:zsi),Sat W (rdF p S sB dB aB rB d area X)→Calls prog 76 #[i,.pointer (some ⟨dB,0,none⟩),.pointer (some ⟨aB,0,none⟩),.pointer (some ⟨sB,0,none⟩)] W fun e w'=>e = .returned (.tuple #[.agg (zcH (zfY S d area i).1),.string (zae (zfY S d area i).2.1),.int .i64 (zfY S d area i).2.2])∧Hid (Same W w'∧Sat w' (rdF p S sB dB aB rB d area X)) from fun W i X h=>zlv p S _ dB aB sB d area i W h)
  have HCK:=zh hck;have hcf:=HWF.out.cfg;have HCAP:=zh (show ∀ (W:World),Calls prog 22 #[.agg (za8 S.cfg)] W _ from fun W=>zdM S.cfg hcf.image.1 hcf.image.2 W);generalize S.state d=st at HST e0;clear hb h0 hck hR hcf;rcases ha with rfl|rfl
  case inl =>
   go_upto_region 4 with (go_at_call 36;refine (HST.out w1 _ H1.out.2).mono ?_;rintro e w2 ⟨rfl,rfl⟩);clear HST e0;have hck:=HCK.out;obtain⟨⟨⟨ge,gc⟩,pl,er⟩,hr0⟩:∃ r,zfY S d 2 0=r:=⟨_,rfl⟩;have HOP0:=HOP.out w1 0 F H1.out.2;rw[hr0] at HOP0 hck;have HLEN:=zh (fun h=>zkT hr0 h);simp only at hck
   by_cases he:er=0
   case neg =>
    have hed:(er != 0)=true:=bne_iff_ne.2 he
    have hR2:R=(ck0,er):=by rw[hck,if_pos he]
    have HR2:=zh hR2;clear hck he HLEN hr0 hR2;go_wp2_with (go_at_call 76;refine HOP0.mono ?_;rintro e w3 ⟨rfl,h3⟩;replace H1:=(zt H1 h3);clear c1 c2 c3 f0 f1 f2 f3 c4 c5 c6 c7;obtain⟨c1,c2,c3,⟨f0,f1,f2,f3⟩,c4,c5,c6,c7⟩:=za5 H1.out.2;have lr:=World.block_lt_of_cell? _ _ c4;clear h3);have H2:=(zd ((((H1.out.1.setCell ⟨rB,0,none⟩ (.int .i64 0)).setCell ⟨rB,1,none⟩ (.int .i64 0)).setCell ⟨rB,2,none⟩ (.int .i64 0)).setCell ⟨rB,3,none⟩ (.string ⟨#[]⟩)) (zcK H1.out.2 (.int .i64 0) (.int .i64 0) (.int .i64 0) (.string ⟨#[]⟩)))
    replace H2:=(zd (H2.out.1.alloc (.cells #[ge,gc] zam)) (H2.out.2.allocKeep (.cells #[ge,gc] zam)));refine bodyPost_ret (v:=.tuple #[.agg #[.int .i64 0,.int .i64 0,.int .i64 0,.string ⟨#[]⟩],er]) (zaA results20 (ResIs.row rfl H2.out.2.block underlying44 rfl (zaX rfl)) (.tmp rfl)) rfl ?_;exact HFIN.out _ (ck0,er) emp H2.out.1 (H2.out.2.perm (by rw[zaL];rfl)) HR2.out
   case pos =>
    subst he;have hed:((0:Int) != 0)=false:=rfl;replace HCK:=zh (hck.trans (if_neg (by simp)));have HL40:=zh (HLEN.out rfl);clear hck hr0 HLEN;go_upto_region 8 with (go_at_call 76;refine HOP0.mono ?_;rintro e w3 ⟨rfl,h3⟩;replace H1:=(zt H1 h3);clear c1 c2 c3 f0 f1 f2 f3 c4 c5 c6 c7;obtain⟨c1,c2,c3,⟨f0,f1,f2,f3⟩,c4,c5,c6,c7⟩:=za5 H1.out.2;have lr:=World.block_lt_of_cell? _ _ c4;clear h3)
    have hA:=(H1.out.2.alloc (.cells #[ge,gc] zam)).alloc (.cells #[ge,gc,.int .i64 0,.string ⟨#[]⟩] TCk);rw[World.size_alloc] at hA;have hsm:=(H1.out.1.alloc (.cells #[ge,gc] zam)).alloc (.cells #[ge,gc,.int .i64 0,.string ⟨#[]⟩] TCk);clear HOP0 H1 c1 c2 c3 f0 f1 f2 f3 c4 c5 c6 c7 lr;generalize (w3.alloc (.cells #[ge,gc] zam)).alloc (.cells #[ge,gc,.int .i64 0,.string ⟨#[]⟩] TCk)=w4 at hA hsm ⊢;generalize w3.heap.size+1=kB at hA ⊢;generalize w3.heap.size=gB at hA ⊢;obtain⟨row,fr,cap,hrun,hrow,hcp⟩:=zdi pl w4
    have hA5:=hA.drew.alloc (.cells row zaM fr);have hsm5:=hsm.drew.alloc (.cells row zaM fr);generalize w4.drew.alloc (.cells row zaM fr)=w5 at hrun hA5 hsm5;rw[show w4.drew.heap.size=w4.heap.size from rfl] at hA5;generalize w4.heap.size=bB at hrun hA5
    have hbc:∀ (W:World) (Y:zsi),Sat W (pts bB (.cells row zaM fr)*Y)→BytesC W (.slice (some ⟨bB,0,none⟩) pl.length cap) pl:=fun W Y h=>⟨_,_,rfl,hcp,fun _=>⟨bB,0,rfl,fun j x hx=>by
     rw[Nat.zero_add,zab h.block]
     exact hrow j _ (by rw[zaY,List.getElem?_map,hx];rfl)⟩⟩
    have HHD:=zh (show ∀ (W:World) (Y:zsi),Sat W (pts bB (.cells row zaM fr)*Y)→Calls prog 79 #[.slice (some ⟨bB,0,none⟩) pl.length cap,.int .i64 (zda S.cfg)] W (zjO pl (zda S.cfg) W) from fun W Y h=>zhG _ pl (zda S.cfg) W (hbc W Y h) (by rw[HL40.out];decide))
    have HCFG:=zh (show ∀ (W:World) (X Y:zsi),Sat W (X*(rdF p S sB dB aB rB d 2 Y))→Calls prog 26 #[.pointer (some ⟨p,0,none⟩)] W fun e w'=>e = .returned (.agg (za8 S.cfg))∧Below W.heap.size W w' from fun W X Y h=>zcM p S _ W h.right)
    have H5:=zh (show Same w w5∧Sat w5 (pts bB (.cells row zaM fr)*(rdF p S sB dB aB rB d 2 (pts kB (.cells #[ge,gc,.int .i64 0,.string ⟨#[]⟩] TCk (0,0))*(pts gB (.cells #[ge,gc] zam (0,0))*F)))) from⟨hsm5,hA5.perm (by unfold rdF;ac_rfl)⟩);have HRUN:=zh hrun;clear hA hsm hA5 hsm5 hrun hrow hcp hbc;refine wp_region_lit ?_;(apply zag rfl);(go_simp;first|rfl|exact⟨rfl,rfl⟩);simp only[Act.put,zq];refine zag (v:=.slice (some ⟨bB,0,none⟩) pl.length cap) rfl (zaD rfl rfl HRUN.out) ?_;simp only[Act.put,zq];clear HRUN
    obtain⟨c1,-⟩:=za5 H5.out.2.right;obtain⟨mx,hmx⟩:∃ mx,zda S.cfg=mx:=⟨_,rfl⟩;rw[hmx] at HHD HCAP HCK;have HMX:=zh (show mx≤65536*40 from by rw[← hmx];have:=HWF.out.cfg.image;unfold zda;omega);clear hmx HL40;generalize pl.length=len at HHD ⊢
    go_upto_region 9 with (first
     | (go_at_call 26;refine (HCFG.out w5 _ _ H5.out.2).mono ?_;rintro e w6 ⟨rfl,hb⟩;replace H5:=(zd (H5.out.1.below hb) (H5.out.2.below hb));clear hb c1;obtain⟨c1,-⟩:=za5 H5.out.2.right)
     | (go_at_call 22;refine (HCAP.out w6).mono ?_;rintro e w7 ⟨rfl,hb⟩;replace H5:=(zd (H5.out.1.below hb) (H5.out.2.below hb));clear hb c1)
     | (go_at_call 79;refine (HHD.out w7 _ H5.out.2).mono ?_;rintro e w8 ⟨sv,nv,okv,rfl,rfl,hh⟩;have HH:=zh hh;clear hh))
    have H1:=zh (show Same w w7∧Sat w7 (ckF p S sB dB aB rB kB gB d 2 ge gc (.string (zae [])) (pts bB (.cells row zaM fr)*F)) from⟨H5.out.1,H5.out.2.perm (by unfold ckF rdF;ac_rfl)⟩);clear H5 HHD HCFG HCAP
    cases hm:zdk pl mx with
    | none =>
     have hok:okv=false:=by rw[HH.out.1,hm];rfl
     subst hok;have HR2:=zh (show R=(ck0,12) from by rw[HCK.out,hm]);obtain⟨c1,c2,c3,⟨f0,f1,f2,f3⟩,c4,c5,c6,c7⟩:=za5 (show Sat w7 (rdF p S sB dB aB rB d 2 _) from H1.out.2);clear hm;go_wp2;have H2:=(zd ((((H1.out.1.setCell ⟨rB,0,none⟩ (.int .i64 0)).setCell ⟨rB,1,none⟩ (.int .i64 0)).setCell ⟨rB,2,none⟩ (.int .i64 0)).setCell ⟨rB,3,none⟩ (.string ⟨#[]⟩)) (zcK (show Sat w7 (rdF p S sB dB aB rB d 2 _) from H1.out.2) (.int .i64 0) (.int .i64 0) (.int .i64 0) (.string ⟨#[]⟩)));refine bodyPost_ret (v:=.tuple #[.agg #[.int .i64 0,.int .i64 0,.int .i64 0,.string ⟨#[]⟩],.int .i64 12]) (zaA results20 (ResIs.row rfl H2.out.2.block underlying44 rfl (zaX rfl)) (.tmp rfl)) rfl ?_
     exact HFIN.out _ (ck0,12) (pts kB (.cells #[ge,gc,.int .i64 0,.string (zae [])] TCk (0,0))*(pts gB (.cells #[ge,gc] zam (0,0))*pts bB (.cells row zaM fr))) H2.out.1 (H2.out.2.perm (by ac_rfl)) HR2.out
    | some sn =>
     obtain⟨s,n⟩:=sn
     have hok:okv=true:=by rw[HH.out.1,hm];rfl
     subst hok;obtain⟨rfl,rfl⟩:=HH.out.2 s n hm;have HN:=zh (show (n:Int)≤65536*40 from Int.le_trans (zkO hm) HMX.out)
     replace HCK:=zh (show R=match zeP S d 2 ⟨ge,gc⟩ ((n+39) / 40) with
      | none=>(ck0,12)
      | some a=>(⟨⟨ge,gc⟩,sv,a.take n⟩,0) from by rw[HCK.out,hm])
     clear hm HH HMX;go_upto_region 12 with (fail)
     go_loopw [16] (fun iv wr=>CkS w p S sB dB aB rB kB gB d 2 ge gc F n iv wr) (fun iv _=>n+1 - (40*((intOf iv).toNat - 1)))
     case atStart=>exact⟨⟨0,[],_,zh ⟨by omega,rfl⟩,rfl,H1.out⟩⟩
     case round =>
      clear H1;obtain⟨k,a,X,HK,rfl,H1⟩:=hrel.st;clear hrel;obtain⟨⟨k0,k1,k2,k3⟩,⟨y0,y1,y2,y3⟩,⟨g0,g1⟩,lk,lg⟩:=zbY H1.out.2;have hka:=zfK HK.out.2;obtain⟨⟨⟨g',c'⟩,q,er⟩,hr⟩:∃ r,zfY S d 2 ((k:Int)+1)=r:=⟨_,rfl⟩;have HOP1:=HOP.out wr ((k:Int)+1) _ H1.out.2;rw[hr] at HOP1;have hoi:=znw HK.out.2 hr;have HOI:=zh hoi;have HK0:=zh HK.out.1;have hkn:=HK.out.1;have HN1:=HN.out;clear hr hoi
      by_cases hlt:40*k<n
      ·have hltd:decide (((zae a).size:Int)<(n:Int))=true:=decide_eq_true (by rw[zap,hka];omega)
       have hltd2:decide ((zae a).size<n)=true:=decide_eq_true (by rw[zap,hka];omega);have hw1:IntKind.i64.wrap ((k:Int)+1+1)=(k:Int)+1+1:=IntWalk.i64_in _ (by omega)
       have HKM:zeP S d 2 ⟨ge,gc⟩ (k+1)=none→R=(ck0,12):=fun h=>by
        obtain⟨j,hj⟩:∃ j,(n+39) / 40=k+1+j:=⟨(n+39) / 40 - (k+1),by omega⟩;rw[HCK.out,hj,zez h j]
       have HKM:=zh HKM;have HLT:=(zd hlt hkn);have HKA:=zh hka;have HW1:=zh hw1;clear hka hkn hlt hw1 HN1;simp only[zcH] at HOP1
       by_cases he:er=0
       case neg =>
        have hed2:(er != 0)=true:=bne_iff_ne.2 he;have HE:=zh he;clear he;go_wp2_with (go_at_call 76;refine HOP1.mono ?_;rintro e wq ⟨rfl,h3⟩;replace H1:=zh (show Same w wq∧Sat wq (ckF p S sB dB aB rB kB gB d 2 ge gc (.string (zae a)) (X*F)) from⟨H1.out.1.trans h3.out.1,h3.out.2⟩);clear h3 k0 k1 k2 k3 y0 y1 y2 y3 g0 g1 lk lg;obtain⟨⟨k0,k1,k2,k3⟩,⟨y0,y1,y2,y3⟩,⟨g0,g1⟩,lk,lg⟩:=zbY H1.out.2;obtain⟨c1,c2,c3,⟨f0,f1,f2,f3⟩,c4,c5,c6,c7⟩:=za5 (show Sat wq (rdF p S sB dB aB rB d 2 _) from H1.out.2);have lr:=World.block_lt_of_cell? _ _ c4)
        have HR2:=zh (HKM.out (HOI.out.1 (.inl HE.out)));have H2:=(zd ((((H1.out.1.setCell ⟨rB,0,none⟩ (.int .i64 0)).setCell ⟨rB,1,none⟩ (.int .i64 0)).setCell ⟨rB,2,none⟩ (.int .i64 0)).setCell ⟨rB,3,none⟩ (.string ⟨#[]⟩)) (zcK (show Sat wq (rdF p S sB dB aB rB d 2 _) from H1.out.2) (.int .i64 0) (.int .i64 0) (.int .i64 0) (.string ⟨#[]⟩)));replace H2:=(zd (H2.out.1.alloc (.cells #[g',c'] zam)) (H2.out.2.allocKeep (.cells #[g',c'] zam)));refine bodyPost_ret (v:=.tuple #[.agg #[.int .i64 0,.int .i64 0,.int .i64 0,.string ⟨#[]⟩],.int .i64 12]) (zaA results20 (ResIs.row rfl H2.out.2.block underlying44 rfl (zaX rfl)) (.tmp rfl)) rfl ?_
        exact HFIN.out _ (ck0,12) (pts kB (.cells #[ge,gc,.int .i64 0,.string (zae a)] TCk (0,0))*(pts gB (.cells #[ge,gc] zam (0,0))*X)) H2.out.1 (H2.out.2.perm (by ac_rfl)) HR2.out
       case pos =>
        subst he
        by_cases hge:g'=ge
        case neg =>
         have hg1:(g'==ge)=false:=by simp[hge]
         have HE:=zh hge;clear hge;go_wp2_with (go_at_call 76;refine HOP1.mono ?_;rintro e wq ⟨rfl,h3⟩;replace H1:=zh (show Same w wq∧Sat wq (ckF p S sB dB aB rB kB gB d 2 ge gc (.string (zae a)) (X*F)) from⟨H1.out.1.trans h3.out.1,h3.out.2⟩);clear h3 k0 k1 k2 k3 y0 y1 y2 y3 g0 g1 lk lg;obtain⟨⟨k0,k1,k2,k3⟩,⟨y0,y1,y2,y3⟩,⟨g0,g1⟩,lk,lg⟩:=zbY H1.out.2;obtain⟨c1,c2,c3,⟨f0,f1,f2,f3⟩,c4,c5,c6,c7⟩:=za5 (show Sat wq (rdF p S sB dB aB rB d 2 _) from H1.out.2);have lr:=World.block_lt_of_cell? _ _ c4);have HR2:=zh (HKM.out (HOI.out.1 (.inr (fun h=>HE.out (GenM.mk.inj h).1))))
         have H2:=(zd ((((H1.out.1.setCell ⟨rB,0,none⟩ (.int .i64 0)).setCell ⟨rB,1,none⟩ (.int .i64 0)).setCell ⟨rB,2,none⟩ (.int .i64 0)).setCell ⟨rB,3,none⟩ (.string ⟨#[]⟩)) (zcK (show Sat wq (rdF p S sB dB aB rB d 2 _) from H1.out.2) (.int .i64 0) (.int .i64 0) (.int .i64 0) (.string ⟨#[]⟩)));replace H2:=(zd (H2.out.1.alloc (.cells #[g',c'] zam)) (H2.out.2.allocKeep (.cells #[g',c'] zam)));refine bodyPost_ret (v:=.tuple #[.agg #[.int .i64 0,.int .i64 0,.int .i64 0,.string ⟨#[]⟩],.int .i64 12]) (zaA results20 (ResIs.row rfl H2.out.2.block underlying44 rfl (zaX rfl)) (.tmp rfl)) rfl ?_
         exact HFIN.out _ (ck0,12) (pts kB (.cells #[ge,gc,.int .i64 0,.string (zae a)] TCk (0,0))*(pts gB (.cells #[ge,gc] zam (0,0))*X)) H2.out.1 (H2.out.2.perm (by ac_rfl)) HR2.out
        case pos =>
         replace hge:=hge.symm;subst hge
         by_cases hgc:c'=gc
         case neg =>
          have hg1:(c'==gc)=false:=by simp[hgc]
          have HE:=zh hgc;clear hgc;go_wp2_with (go_at_call 76;refine HOP1.mono ?_;rintro e wq ⟨rfl,h3⟩;replace H1:=zh (show Same w wq∧Sat wq (ckF p S sB dB aB rB kB gB d 2 ge gc (.string (zae a)) (X*F)) from⟨H1.out.1.trans h3.out.1,h3.out.2⟩);clear h3 k0 k1 k2 k3 y0 y1 y2 y3 g0 g1 lk lg;obtain⟨⟨k0,k1,k2,k3⟩,⟨y0,y1,y2,y3⟩,⟨g0,g1⟩,lk,lg⟩:=zbY H1.out.2;obtain⟨c1,c2,c3,⟨f0,f1,f2,f3⟩,c4,c5,c6,c7⟩:=za5 (show Sat wq (rdF p S sB dB aB rB d 2 _) from H1.out.2);have lr:=World.block_lt_of_cell? _ _ c4);have HR2:=zh (HKM.out (HOI.out.1 (.inr (fun h=>HE.out (GenM.mk.inj h).2))))
          have H2:=(zd ((((H1.out.1.setCell ⟨rB,0,none⟩ (.int .i64 0)).setCell ⟨rB,1,none⟩ (.int .i64 0)).setCell ⟨rB,2,none⟩ (.int .i64 0)).setCell ⟨rB,3,none⟩ (.string ⟨#[]⟩)) (zcK (show Sat wq (rdF p S sB dB aB rB d 2 _) from H1.out.2) (.int .i64 0) (.int .i64 0) (.int .i64 0) (.string ⟨#[]⟩)));replace H2:=(zd (H2.out.1.alloc (.cells #[ge,c'] zam)) (H2.out.2.allocKeep (.cells #[ge,c'] zam)));refine bodyPost_ret (v:=.tuple #[.agg #[.int .i64 0,.int .i64 0,.int .i64 0,.string ⟨#[]⟩],.int .i64 12]) (zaA results20 (ResIs.row rfl H2.out.2.block underlying44 rfl (zaX rfl)) (.tmp rfl)) rfl ?_
          exact HFIN.out _ (ck0,12) (pts kB (.cells #[ge,gc,.int .i64 0,.string (zae a)] TCk (0,0))*(pts gB (.cells #[ge,gc] zam (0,0))*X)) H2.out.1 (H2.out.2.perm (by ac_rfl)) HR2.out
         case pos =>
          replace hgc:=hgc.symm;subst hgc;obtain⟨hi,hq⟩:=HOI.out.2 rfl rfl;have HI:=(zd hi hq);clear hi hq HOI;go_upto_region 17 with (go_at_call 76;refine HOP1.mono ?_;rintro e wq ⟨rfl,h3⟩;replace H1:=zh (show Same w wq∧Sat wq (ckF p S sB dB aB rB kB gB d 2 ge gc (.string (zae a)) (X*F)) from⟨H1.out.1.trans h3.out.1,h3.out.2⟩);clear h3 k0 k1 k2 k3 y0 y1 y2 y3 g0 g1 lk lg;obtain⟨⟨k0,k1,k2,k3⟩,⟨y0,y1,y2,y3⟩,⟨g0,g1⟩,lk,lg⟩:=zbY H1.out.2;obtain⟨c1,c2,c3,⟨f0,f1,f2,f3⟩,c4,c5,c6,c7⟩:=za5 (show Sat wq (rdF p S sB dB aB rB d 2 _) from H1.out.2);have lr:=World.block_lt_of_cell? _ _ c4)
          refine wp_region_lit ?_;(apply zag rfl);(go_simp;first|rfl|exact⟨rfl,rfl⟩);simp only[Act.put,zq];(apply zag rfl);(go_simp;first|rfl|exact⟨rfl,rfl⟩);simp only[Act.put,zq];(apply zag rfl);(go_simp;first|rfl|exact⟨rfl,rfl⟩);simp only[Act.put,zq];refine zag (v:=.string (zae (a++q))) rfl (zfD rfl rfl rfl rfl (by have:=HI.out.2;have:=HKA.out;have:=HLT.out;have:=HN.out;omega)) ?_;simp only[Act.put,zq];have hw1:=HW1.out;go_wp2
          go_roundw
          case rel=>exact⟨⟨k+1,a++q,X,zh ⟨by have:=HLT.out;omega,HI.out.1⟩,congrArg (Value.int .i64) (by omega),zh ⟨(H1.out.1.setCell _ _).alloc _,(zmG H1.out.2 (.string (zae (a++q)))).allocKeep _⟩⟩⟩
          case measure =>
           have:=HLT.out;simp[intOf];omega
      ·have hltd:decide (((zae a).size:Int)<(n:Int))=false:=decide_eq_false (by rw[zap,hka];omega)
       have hltd2:decide ((zae a).size<n)=false:=decide_eq_false (by rw[zap,hka];omega)
       have HR2:Hid (R=(⟨⟨ge,gc⟩,sv,a.take n⟩,0)):=zh (by
        rw[HCK.out,show (n+39) / 40=k by omega,HK.out.2])
       have HNA:=zh (show n≤a.length by rw[hka];omega);clear hka hkn hlt HOP1 HOI HN1;go_upto_region 18 with (fail)
       refine zah (fun w'=>w'.cell? ⟨kB,3,none⟩=some (.string (zae a))) (by kernel_rfl) ?_
       replace H1:=(zd H1.out.1.drew H1.out.2.drew);generalize wr.drew=wx at H1 ⊢;clear k0 k1 k2 k3 y0 y1 y2 y3 g0 g1 lk lg;obtain⟨⟨k0,k1,k2,k3⟩,⟨y0,y1,y2,y3⟩,⟨g0,g1⟩,lk,lg⟩:=zbY H1.out.2;have hS0:=k3;(apply zaa 0 rfl rfl (by kernel_rfl) rfl);(intro w' _;go_simp;rfl);exact hS0;simp only[zq];(apply zaa 1 rfl rfl (by kernel_rfl) rfl);(intro w' _;go_simp;rfl);exact hS0;simp only[zq];(apply zaa 2 rfl rfl (by kernel_rfl) rfl);(intro w' h3';go_simp;rfl);exact hS0;simp only[zq];(apply zaa 3 rfl rfl (by kernel_rfl) rfl);(intro w' _;go_simp;rfl);exact hS0;simp only[zq]
       refine zaa 4 (v:=.string (zae (a.take n))) rfl rfl (by kernel_rfl) rfl (fun w' _=>zcO (j:=n) rfl underlying9 rfl rfl HNA.out) hS0 ?_;simp only[zq];(apply zaa 5 rfl rfl (by kernel_rfl) rfl);(intro w' _;go_simp;rfl);exact hS0;simp only[zq];refine zfP 6 (wx.setCell ⟨kB,2,none⟩ (.int .i64 sv)) rfl rfl (by kernel_rfl) rfl (by go_simp) (by go_simp) ?_;(apply zaa 7 rfl rfl (by kernel_rfl) rfl);(intro w' _;go_simp;rfl);exact (show (wx.setCell ⟨kB,2,none⟩ (.int .i64 sv)).cell? ⟨kB,3,none⟩=some (.string (zae a)) from by go_simp);simp only[zq]
       refine zat 8 (((wx.setCell ⟨kB,2,none⟩ (.int .i64 sv)).setCell ⟨kB,3,none⟩ (.string (zae (a.take n))))) rfl rfl (by kernel_rfl) rfl (by go_simp) ?_;replace H1:=(zd ((H1.out.1.setCell ⟨kB,2,none⟩ (.int .i64 sv)).setCell ⟨kB,3,none⟩ (.string (zae (a.take n)))) (zmF H1.out.2 (.int .i64 sv) (.string (zae (a.take n)))));generalize (wx.setCell ⟨kB,2,none⟩ (.int .i64 sv)).setCell ⟨kB,3,none⟩ (.string (zae (a.take n)))=wy at H1 ⊢;clear hS0 k0 k1 k2 k3 y0 y1 y2 y3 g0 g1 lk lg;obtain⟨c1,c2,c3,⟨f0,f1,f2,f3⟩,c4,c5,c6,c7⟩:=za5 H1.out.2
       obtain⟨k0,k1,k2,k3⟩:=zrl H1.out.2;go_wp2;have H2:=(zd ((((H1.out.1.setCell ⟨rB,0,none⟩ (.int .i64 ge)).setCell ⟨rB,1,none⟩ (.int .i64 gc)).setCell ⟨rB,2,none⟩ (.int .i64 sv)).setCell ⟨rB,3,none⟩ (.string (zae (a.take n)))) (zcK H1.out.2 (.int .i64 ge) (.int .i64 gc) (.int .i64 sv) (.string (zae (a.take n)))));refine bodyPost_ret (v:=.tuple #[.agg #[ge,gc,sv,.string (zae (a.take n))],.int .i64 0]) (zaA results20 (ResIs.row rfl H2.out.2.block underlying44 rfl (zaX rfl)) (.tmp rfl)) rfl ?_;exact HFIN.out _ (⟨⟨ge,gc⟩,sv,a.take n⟩,0) (pts kB (.cells #[ge,gc,sv,.string (zae (a.take n))] TCk (0,0))*(pts gB (.cells #[ge,gc] zam (0,0))*X)) H2.out.1 (H2.out.2.perm (by ac_rfl)) HR2.out
  case inr =>
   go_upto_region 4 with (go_at_call 36;refine (HST.out w1 _ H1.out.2).mono ?_;rintro e w2 ⟨rfl,rfl⟩);clear HST e0;have hck:=HCK.out;obtain⟨⟨⟨ge,gc⟩,pl,er⟩,hr0⟩:∃ r,zfY S d 3 0=r:=⟨_,rfl⟩;have HOP0:=HOP.out w1 0 F H1.out.2;rw[hr0] at HOP0 hck;have HLEN:=zh (fun h=>zkT hr0 h);simp only at hck
   by_cases he:er=0
   case neg =>
    have hed:(er != 0)=true:=bne_iff_ne.2 he
    have hR2:R=(ck0,er):=by rw[hck,if_pos he]
    have HR2:=zh hR2;clear hck he HLEN hr0 hR2;go_wp2_with (go_at_call 76;refine HOP0.mono ?_;rintro e w3 ⟨rfl,h3⟩;replace H1:=(zt H1 h3);clear c1 c2 c3 f0 f1 f2 f3 c4 c5 c6 c7;obtain⟨c1,c2,c3,⟨f0,f1,f2,f3⟩,c4,c5,c6,c7⟩:=za5 H1.out.2;have lr:=World.block_lt_of_cell? _ _ c4;clear h3);have H2:=(zd ((((H1.out.1.setCell ⟨rB,0,none⟩ (.int .i64 0)).setCell ⟨rB,1,none⟩ (.int .i64 0)).setCell ⟨rB,2,none⟩ (.int .i64 0)).setCell ⟨rB,3,none⟩ (.string ⟨#[]⟩)) (zcK H1.out.2 (.int .i64 0) (.int .i64 0) (.int .i64 0) (.string ⟨#[]⟩)))
    replace H2:=(zd (H2.out.1.alloc (.cells #[ge,gc] zam)) (H2.out.2.allocKeep (.cells #[ge,gc] zam)));refine bodyPost_ret (v:=.tuple #[.agg #[.int .i64 0,.int .i64 0,.int .i64 0,.string ⟨#[]⟩],er]) (zaA results20 (ResIs.row rfl H2.out.2.block underlying44 rfl (zaX rfl)) (.tmp rfl)) rfl ?_;exact HFIN.out _ (ck0,er) emp H2.out.1 (H2.out.2.perm (by rw[zaL];rfl)) HR2.out
   case pos =>
    subst he;have hed:((0:Int) != 0)=false:=rfl;replace HCK:=zh (hck.trans (if_neg (by simp)));have HL40:=zh (HLEN.out rfl);clear hck hr0 HLEN;go_upto_region 8 with (go_at_call 76;refine HOP0.mono ?_;rintro e w3 ⟨rfl,h3⟩;replace H1:=(zt H1 h3);clear c1 c2 c3 f0 f1 f2 f3 c4 c5 c6 c7;obtain⟨c1,c2,c3,⟨f0,f1,f2,f3⟩,c4,c5,c6,c7⟩:=za5 H1.out.2;have lr:=World.block_lt_of_cell? _ _ c4;clear h3)
    have hA:=(H1.out.2.alloc (.cells #[ge,gc] zam)).alloc (.cells #[ge,gc,.int .i64 0,.string ⟨#[]⟩] TCk);rw[World.size_alloc] at hA;have hsm:=(H1.out.1.alloc (.cells #[ge,gc] zam)).alloc (.cells #[ge,gc,.int .i64 0,.string ⟨#[]⟩] TCk);clear HOP0 H1 c1 c2 c3 f0 f1 f2 f3 c4 c5 c6 c7 lr;generalize (w3.alloc (.cells #[ge,gc] zam)).alloc (.cells #[ge,gc,.int .i64 0,.string ⟨#[]⟩] TCk)=w4 at hA hsm ⊢;generalize w3.heap.size+1=kB at hA ⊢;generalize w3.heap.size=gB at hA ⊢;obtain⟨row,fr,cap,hrun,hrow,hcp⟩:=zdi pl w4
    have hA5:=hA.drew.alloc (.cells row zaM fr);have hsm5:=hsm.drew.alloc (.cells row zaM fr);generalize w4.drew.alloc (.cells row zaM fr)=w5 at hrun hA5 hsm5;rw[show w4.drew.heap.size=w4.heap.size from rfl] at hA5;generalize w4.heap.size=bB at hrun hA5
    have hbc:∀ (W:World) (Y:zsi),Sat W (pts bB (.cells row zaM fr)*Y)→BytesC W (.slice (some ⟨bB,0,none⟩) pl.length cap) pl:=fun W Y h=>⟨_,_,rfl,hcp,fun _=>⟨bB,0,rfl,fun j x hx=>by
     rw[Nat.zero_add,zab h.block]
     exact hrow j _ (by rw[zaY,List.getElem?_map,hx];rfl)⟩⟩
    have HHD:=zh (show ∀ (W:World) (Y:zsi),Sat W (pts bB (.cells row zaM fr)*Y)→Calls prog 79 #[.slice (some ⟨bB,0,none⟩) pl.length cap,.int .i64 (zda S.cfg)] W (zjO pl (zda S.cfg) W) from fun W Y h=>zhG _ pl (zda S.cfg) W (hbc W Y h) (by rw[HL40.out];decide))
    have HCFG:=zh (show ∀ (W:World) (X Y:zsi),Sat W (X*(rdF p S sB dB aB rB d 3 Y))→Calls prog 26 #[.pointer (some ⟨p,0,none⟩)] W fun e w'=>e = .returned (.agg (za8 S.cfg))∧Below W.heap.size W w' from fun W X Y h=>zcM p S _ W h.right)
    have H5:=zh (show Same w w5∧Sat w5 (pts bB (.cells row zaM fr)*(rdF p S sB dB aB rB d 3 (pts kB (.cells #[ge,gc,.int .i64 0,.string ⟨#[]⟩] TCk (0,0))*(pts gB (.cells #[ge,gc] zam (0,0))*F)))) from⟨hsm5,hA5.perm (by unfold rdF;ac_rfl)⟩);have HRUN:=zh hrun;clear hA hsm hA5 hsm5 hrun hrow hcp hbc;refine wp_region_lit ?_;(apply zag rfl);(go_simp;first|rfl|exact⟨rfl,rfl⟩);simp only[Act.put,zq];refine zag (v:=.slice (some ⟨bB,0,none⟩) pl.length cap) rfl (zaD rfl rfl HRUN.out) ?_;simp only[Act.put,zq];clear HRUN
    obtain⟨c1,-⟩:=za5 H5.out.2.right;obtain⟨mx,hmx⟩:∃ mx,zda S.cfg=mx:=⟨_,rfl⟩;rw[hmx] at HHD HCAP HCK;have HMX:=zh (show mx≤65536*40 from by rw[← hmx];have:=HWF.out.cfg.image;unfold zda;omega);clear hmx HL40;generalize pl.length=len at HHD ⊢
    go_upto_region 9 with (first
     | (go_at_call 26;refine (HCFG.out w5 _ _ H5.out.2).mono ?_;rintro e w6 ⟨rfl,hb⟩;replace H5:=(zd (H5.out.1.below hb) (H5.out.2.below hb));clear hb c1;obtain⟨c1,-⟩:=za5 H5.out.2.right)
     | (go_at_call 22;refine (HCAP.out w6).mono ?_;rintro e w7 ⟨rfl,hb⟩;replace H5:=(zd (H5.out.1.below hb) (H5.out.2.below hb));clear hb c1)
     | (go_at_call 79;refine (HHD.out w7 _ H5.out.2).mono ?_;rintro e w8 ⟨sv,nv,okv,rfl,rfl,hh⟩;have HH:=zh hh;clear hh))
    have H1:=zh (show Same w w7∧Sat w7 (ckF p S sB dB aB rB kB gB d 3 ge gc (.string (zae [])) (pts bB (.cells row zaM fr)*F)) from⟨H5.out.1,H5.out.2.perm (by unfold ckF rdF;ac_rfl)⟩);clear H5 HHD HCFG HCAP
    cases hm:zdk pl mx with
    | none =>
     have hok:okv=false:=by rw[HH.out.1,hm];rfl
     subst hok;have HR2:=zh (show R=(ck0,12) from by rw[HCK.out,hm]);obtain⟨c1,c2,c3,⟨f0,f1,f2,f3⟩,c4,c5,c6,c7⟩:=za5 (show Sat w7 (rdF p S sB dB aB rB d 3 _) from H1.out.2);clear hm;go_wp2;have H2:=(zd ((((H1.out.1.setCell ⟨rB,0,none⟩ (.int .i64 0)).setCell ⟨rB,1,none⟩ (.int .i64 0)).setCell ⟨rB,2,none⟩ (.int .i64 0)).setCell ⟨rB,3,none⟩ (.string ⟨#[]⟩)) (zcK (show Sat w7 (rdF p S sB dB aB rB d 3 _) from H1.out.2) (.int .i64 0) (.int .i64 0) (.int .i64 0) (.string ⟨#[]⟩)));refine bodyPost_ret (v:=.tuple #[.agg #[.int .i64 0,.int .i64 0,.int .i64 0,.string ⟨#[]⟩],.int .i64 12]) (zaA results20 (ResIs.row rfl H2.out.2.block underlying44 rfl (zaX rfl)) (.tmp rfl)) rfl ?_
     exact HFIN.out _ (ck0,12) (pts kB (.cells #[ge,gc,.int .i64 0,.string (zae [])] TCk (0,0))*(pts gB (.cells #[ge,gc] zam (0,0))*pts bB (.cells row zaM fr))) H2.out.1 (H2.out.2.perm (by ac_rfl)) HR2.out
    | some sn =>
     obtain⟨s,n⟩:=sn
     have hok:okv=true:=by rw[HH.out.1,hm];rfl
     subst hok;obtain⟨rfl,rfl⟩:=HH.out.2 s n hm;have HN:=zh (show (n:Int)≤65536*40 from Int.le_trans (zkO hm) HMX.out)
     replace HCK:=zh (show R=match zeP S d 3 ⟨ge,gc⟩ ((n+39) / 40) with
      | none=>(ck0,12)
      | some a=>(⟨⟨ge,gc⟩,sv,a.take n⟩,0) from by rw[HCK.out,hm])
     clear hm HH HMX;go_upto_region 12 with (fail)
     go_loopw [16] (fun iv wr=>CkS w p S sB dB aB rB kB gB d 3 ge gc F n iv wr) (fun iv _=>n+1 - (40*((intOf iv).toNat - 1)))
     case atStart=>exact⟨⟨0,[],_,zh ⟨by omega,rfl⟩,rfl,H1.out⟩⟩
     case round =>
      clear H1;obtain⟨k,a,X,HK,rfl,H1⟩:=hrel.st;clear hrel;obtain⟨⟨k0,k1,k2,k3⟩,⟨y0,y1,y2,y3⟩,⟨g0,g1⟩,lk,lg⟩:=zbY H1.out.2;have hka:=zfK HK.out.2;obtain⟨⟨⟨g',c'⟩,q,er⟩,hr⟩:∃ r,zfY S d 3 ((k:Int)+1)=r:=⟨_,rfl⟩;have HOP1:=HOP.out wr ((k:Int)+1) _ H1.out.2;rw[hr] at HOP1;have hoi:=znw HK.out.2 hr;have HOI:=zh hoi;have HK0:=zh HK.out.1;have hkn:=HK.out.1;have HN1:=HN.out;clear hr hoi
      by_cases hlt:40*k<n
      ·have hltd:decide (((zae a).size:Int)<(n:Int))=true:=decide_eq_true (by rw[zap,hka];omega)
       have hltd2:decide ((zae a).size<n)=true:=decide_eq_true (by rw[zap,hka];omega);have hw1:IntKind.i64.wrap ((k:Int)+1+1)=(k:Int)+1+1:=IntWalk.i64_in _ (by omega)
       have HKM:zeP S d 3 ⟨ge,gc⟩ (k+1)=none→R=(ck0,12):=fun h=>by
        obtain⟨j,hj⟩:∃ j,(n+39) / 40=k+1+j:=⟨(n+39) / 40 - (k+1),by omega⟩;rw[HCK.out,hj,zez h j]
       have HKM:=zh HKM;have HLT:=(zd hlt hkn);have HKA:=zh hka;have HW1:=zh hw1;clear hka hkn hlt hw1 HN1;simp only[zcH] at HOP1
       by_cases he:er=0
       case neg =>
        have hed2:(er != 0)=true:=bne_iff_ne.2 he;have HE:=zh he;clear he;go_wp2_with (go_at_call 76;refine HOP1.mono ?_;rintro e wq ⟨rfl,h3⟩;replace H1:=zh (show Same w wq∧Sat wq (ckF p S sB dB aB rB kB gB d 3 ge gc (.string (zae a)) (X*F)) from⟨H1.out.1.trans h3.out.1,h3.out.2⟩);clear h3 k0 k1 k2 k3 y0 y1 y2 y3 g0 g1 lk lg;obtain⟨⟨k0,k1,k2,k3⟩,⟨y0,y1,y2,y3⟩,⟨g0,g1⟩,lk,lg⟩:=zbY H1.out.2;obtain⟨c1,c2,c3,⟨f0,f1,f2,f3⟩,c4,c5,c6,c7⟩:=za5 (show Sat wq (rdF p S sB dB aB rB d 3 _) from H1.out.2);have lr:=World.block_lt_of_cell? _ _ c4)
        have HR2:=zh (HKM.out (HOI.out.1 (.inl HE.out)));have H2:=(zd ((((H1.out.1.setCell ⟨rB,0,none⟩ (.int .i64 0)).setCell ⟨rB,1,none⟩ (.int .i64 0)).setCell ⟨rB,2,none⟩ (.int .i64 0)).setCell ⟨rB,3,none⟩ (.string ⟨#[]⟩)) (zcK (show Sat wq (rdF p S sB dB aB rB d 3 _) from H1.out.2) (.int .i64 0) (.int .i64 0) (.int .i64 0) (.string ⟨#[]⟩)));replace H2:=(zd (H2.out.1.alloc (.cells #[g',c'] zam)) (H2.out.2.allocKeep (.cells #[g',c'] zam)));refine bodyPost_ret (v:=.tuple #[.agg #[.int .i64 0,.int .i64 0,.int .i64 0,.string ⟨#[]⟩],.int .i64 12]) (zaA results20 (ResIs.row rfl H2.out.2.block underlying44 rfl (zaX rfl)) (.tmp rfl)) rfl ?_
        exact HFIN.out _ (ck0,12) (pts kB (.cells #[ge,gc,.int .i64 0,.string (zae a)] TCk (0,0))*(pts gB (.cells #[ge,gc] zam (0,0))*X)) H2.out.1 (H2.out.2.perm (by ac_rfl)) HR2.out
       case pos =>
        subst he
        by_cases hge:g'=ge
        case neg =>
         have hg1:(g'==ge)=false:=by simp[hge]
         have HE:=zh hge;clear hge;go_wp2_with (go_at_call 76;refine HOP1.mono ?_;rintro e wq ⟨rfl,h3⟩;replace H1:=zh (show Same w wq∧Sat wq (ckF p S sB dB aB rB kB gB d 3 ge gc (.string (zae a)) (X*F)) from⟨H1.out.1.trans h3.out.1,h3.out.2⟩);clear h3 k0 k1 k2 k3 y0 y1 y2 y3 g0 g1 lk lg;obtain⟨⟨k0,k1,k2,k3⟩,⟨y0,y1,y2,y3⟩,⟨g0,g1⟩,lk,lg⟩:=zbY H1.out.2;obtain⟨c1,c2,c3,⟨f0,f1,f2,f3⟩,c4,c5,c6,c7⟩:=za5 (show Sat wq (rdF p S sB dB aB rB d 3 _) from H1.out.2);have lr:=World.block_lt_of_cell? _ _ c4);have HR2:=zh (HKM.out (HOI.out.1 (.inr (fun h=>HE.out (GenM.mk.inj h).1))))
         have H2:=(zd ((((H1.out.1.setCell ⟨rB,0,none⟩ (.int .i64 0)).setCell ⟨rB,1,none⟩ (.int .i64 0)).setCell ⟨rB,2,none⟩ (.int .i64 0)).setCell ⟨rB,3,none⟩ (.string ⟨#[]⟩)) (zcK (show Sat wq (rdF p S sB dB aB rB d 3 _) from H1.out.2) (.int .i64 0) (.int .i64 0) (.int .i64 0) (.string ⟨#[]⟩)));replace H2:=(zd (H2.out.1.alloc (.cells #[g',c'] zam)) (H2.out.2.allocKeep (.cells #[g',c'] zam)));refine bodyPost_ret (v:=.tuple #[.agg #[.int .i64 0,.int .i64 0,.int .i64 0,.string ⟨#[]⟩],.int .i64 12]) (zaA results20 (ResIs.row rfl H2.out.2.block underlying44 rfl (zaX rfl)) (.tmp rfl)) rfl ?_
         exact HFIN.out _ (ck0,12) (pts kB (.cells #[ge,gc,.int .i64 0,.string (zae a)] TCk (0,0))*(pts gB (.cells #[ge,gc] zam (0,0))*X)) H2.out.1 (H2.out.2.perm (by ac_rfl)) HR2.out
        case pos =>
         replace hge:=hge.symm;subst hge
         by_cases hgc:c'=gc
         case neg =>
          have hg1:(c'==gc)=false:=by simp[hgc]
          have HE:=zh hgc;clear hgc;go_wp2_with (go_at_call 76;refine HOP1.mono ?_;rintro e wq ⟨rfl,h3⟩;replace H1:=zh (show Same w wq∧Sat wq (ckF p S sB dB aB rB kB gB d 3 ge gc (.string (zae a)) (X*F)) from⟨H1.out.1.trans h3.out.1,h3.out.2⟩);clear h3 k0 k1 k2 k3 y0 y1 y2 y3 g0 g1 lk lg;obtain⟨⟨k0,k1,k2,k3⟩,⟨y0,y1,y2,y3⟩,⟨g0,g1⟩,lk,lg⟩:=zbY H1.out.2;obtain⟨c1,c2,c3,⟨f0,f1,f2,f3⟩,c4,c5,c6,c7⟩:=za5 (show Sat wq (rdF p S sB dB aB rB d 3 _) from H1.out.2);have lr:=World.block_lt_of_cell? _ _ c4);have HR2:=zh (HKM.out (HOI.out.1 (.inr (fun h=>HE.out (GenM.mk.inj h).2))))
          have H2:=(zd ((((H1.out.1.setCell ⟨rB,0,none⟩ (.int .i64 0)).setCell ⟨rB,1,none⟩ (.int .i64 0)).setCell ⟨rB,2,none⟩ (.int .i64 0)).setCell ⟨rB,3,none⟩ (.string ⟨#[]⟩)) (zcK (show Sat wq (rdF p S sB dB aB rB d 3 _) from H1.out.2) (.int .i64 0) (.int .i64 0) (.int .i64 0) (.string ⟨#[]⟩)));replace H2:=(zd (H2.out.1.alloc (.cells #[ge,c'] zam)) (H2.out.2.allocKeep (.cells #[ge,c'] zam)));refine bodyPost_ret (v:=.tuple #[.agg #[.int .i64 0,.int .i64 0,.int .i64 0,.string ⟨#[]⟩],.int .i64 12]) (zaA results20 (ResIs.row rfl H2.out.2.block underlying44 rfl (zaX rfl)) (.tmp rfl)) rfl ?_
          exact HFIN.out _ (ck0,12) (pts kB (.cells #[ge,gc,.int .i64 0,.string (zae a)] TCk (0,0))*(pts gB (.cells #[ge,gc] zam (0,0))*X)) H2.out.1 (H2.out.2.perm (by ac_rfl)) HR2.out
         case pos =>
          replace hgc:=hgc.symm;subst hgc;obtain⟨hi,hq⟩:=HOI.out.2 rfl rfl;have HI:=(zd hi hq);clear hi hq HOI;go_upto_region 17 with (go_at_call 76;refine HOP1.mono ?_;rintro e wq ⟨rfl,h3⟩;replace H1:=zh (show Same w wq∧Sat wq (ckF p S sB dB aB rB kB gB d 3 ge gc (.string (zae a)) (X*F)) from⟨H1.out.1.trans h3.out.1,h3.out.2⟩);clear h3 k0 k1 k2 k3 y0 y1 y2 y3 g0 g1 lk lg;obtain⟨⟨k0,k1,k2,k3⟩,⟨y0,y1,y2,y3⟩,⟨g0,g1⟩,lk,lg⟩:=zbY H1.out.2;obtain⟨c1,c2,c3,⟨f0,f1,f2,f3⟩,c4,c5,c6,c7⟩:=za5 (show Sat wq (rdF p S sB dB aB rB d 3 _) from H1.out.2);have lr:=World.block_lt_of_cell? _ _ c4)
          refine wp_region_lit ?_;(apply zag rfl);(go_simp;first|rfl|exact⟨rfl,rfl⟩);simp only[Act.put,zq];(apply zag rfl);(go_simp;first|rfl|exact⟨rfl,rfl⟩);simp only[Act.put,zq];(apply zag rfl);(go_simp;first|rfl|exact⟨rfl,rfl⟩);simp only[Act.put,zq];refine zag (v:=.string (zae (a++q))) rfl (zfD rfl rfl rfl rfl (by have:=HI.out.2;have:=HKA.out;have:=HLT.out;have:=HN.out;omega)) ?_;simp only[Act.put,zq];have hw1:=HW1.out;go_wp2
          go_roundw
          case rel=>exact⟨⟨k+1,a++q,X,zh ⟨by have:=HLT.out;omega,HI.out.1⟩,congrArg (Value.int .i64) (by omega),zh ⟨(H1.out.1.setCell _ _).alloc _,(zmG H1.out.2 (.string (zae (a++q)))).allocKeep _⟩⟩⟩
          case measure =>
           have:=HLT.out;simp[intOf];omega
      ·have hltd:decide (((zae a).size:Int)<(n:Int))=false:=decide_eq_false (by rw[zap,hka];omega)
       have hltd2:decide ((zae a).size<n)=false:=decide_eq_false (by rw[zap,hka];omega)
       have HR2:Hid (R=(⟨⟨ge,gc⟩,sv,a.take n⟩,0)):=zh (by
        rw[HCK.out,show (n+39) / 40=k by omega,HK.out.2])
       have HNA:=zh (show n≤a.length by rw[hka];omega);clear hka hkn hlt HOP1 HOI HN1;go_upto_region 18 with (fail)
       refine zah (fun w'=>w'.cell? ⟨kB,3,none⟩=some (.string (zae a))) (by kernel_rfl) ?_
       replace H1:=(zd H1.out.1.drew H1.out.2.drew);generalize wr.drew=wx at H1 ⊢;clear k0 k1 k2 k3 y0 y1 y2 y3 g0 g1 lk lg;obtain⟨⟨k0,k1,k2,k3⟩,⟨y0,y1,y2,y3⟩,⟨g0,g1⟩,lk,lg⟩:=zbY H1.out.2;have hS0:=k3;(apply zaa 0 rfl rfl (by kernel_rfl) rfl);(intro w' _;go_simp;rfl);exact hS0;simp only[zq];(apply zaa 1 rfl rfl (by kernel_rfl) rfl);(intro w' _;go_simp;rfl);exact hS0;simp only[zq];(apply zaa 2 rfl rfl (by kernel_rfl) rfl);(intro w' h3';go_simp;rfl);exact hS0;simp only[zq];(apply zaa 3 rfl rfl (by kernel_rfl) rfl);(intro w' _;go_simp;rfl);exact hS0;simp only[zq]
       refine zaa 4 (v:=.string (zae (a.take n))) rfl rfl (by kernel_rfl) rfl (fun w' _=>zcO (j:=n) rfl underlying9 rfl rfl HNA.out) hS0 ?_;simp only[zq];(apply zaa 5 rfl rfl (by kernel_rfl) rfl);(intro w' _;go_simp;rfl);exact hS0;simp only[zq];refine zfP 6 (wx.setCell ⟨kB,2,none⟩ (.int .i64 sv)) rfl rfl (by kernel_rfl) rfl (by go_simp) (by go_simp) ?_;(apply zaa 7 rfl rfl (by kernel_rfl) rfl);(intro w' _;go_simp;rfl);exact (show (wx.setCell ⟨kB,2,none⟩ (.int .i64 sv)).cell? ⟨kB,3,none⟩=some (.string (zae a)) from by go_simp);simp only[zq]
       refine zat 8 (((wx.setCell ⟨kB,2,none⟩ (.int .i64 sv)).setCell ⟨kB,3,none⟩ (.string (zae (a.take n))))) rfl rfl (by kernel_rfl) rfl (by go_simp) ?_;replace H1:=(zd ((H1.out.1.setCell ⟨kB,2,none⟩ (.int .i64 sv)).setCell ⟨kB,3,none⟩ (.string (zae (a.take n)))) (zmF H1.out.2 (.int .i64 sv) (.string (zae (a.take n)))));generalize (wx.setCell ⟨kB,2,none⟩ (.int .i64 sv)).setCell ⟨kB,3,none⟩ (.string (zae (a.take n)))=wy at H1 ⊢;clear hS0 k0 k1 k2 k3 y0 y1 y2 y3 g0 g1 lk lg;obtain⟨c1,c2,c3,⟨f0,f1,f2,f3⟩,c4,c5,c6,c7⟩:=za5 H1.out.2
       obtain⟨k0,k1,k2,k3⟩:=zrl H1.out.2;go_wp2;have H2:=(zd ((((H1.out.1.setCell ⟨rB,0,none⟩ (.int .i64 ge)).setCell ⟨rB,1,none⟩ (.int .i64 gc)).setCell ⟨rB,2,none⟩ (.int .i64 sv)).setCell ⟨rB,3,none⟩ (.string (zae (a.take n)))) (zcK H1.out.2 (.int .i64 ge) (.int .i64 gc) (.int .i64 sv) (.string (zae (a.take n)))));refine bodyPost_ret (v:=.tuple #[.agg #[ge,gc,sv,.string (zae (a.take n))],.int .i64 0]) (zaA results20 (ResIs.row rfl H2.out.2.block underlying44 rfl (zaX rfl)) (.tmp rfl)) rfl ?_;exact HFIN.out _ (⟨⟨ge,gc⟩,sv,a.take n⟩,0) (pts kB (.cells #[ge,gc,sv,.string (zae (a.take n))] TCk (0,0))*(pts gB (.cells #[ge,gc] zam (0,0))*X)) H2.out.1 (H2.out.2.perm (by ac_rfl)) HR2.out
end Go.Proofs.YtmcclbiaoeilkaaGreat
