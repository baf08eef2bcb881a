import Derived.Test.YtmcclbiaoeilkaaGreatQ44
set_option maxHeartbeats 8000000
set_option maxRecDepth 20000
/- Part 45. -/
namespace Go.Proofs.YtmcclbiaoeilkaaGreat
open Go.Proofs.Tryz Go.RowKit Go.Sl Go.ChangeMaps
def zkz (p:Nat)(F:zsi)(r:zsg×Int×Int)(w:World)(e:Ending)(w':World):Prop:=e = .returned (.tuple #[r.2.1,r.2.2])∧Hid (Same w w'∧Sat w' (zad RS p r.1*F))
theorem zfE (n:Int):(decide (0≤n)&&decide (n<4294967296))=zcq n:=by
 unfold zcq;congr 1;rw[Bool.eq_iff_iff];simp only[decide_eq_true_eq];omega
theorem zmd (p:Nat)(S:zsg)(F:zsi)(ge gc sq:Int)(im:List UInt8)(hb:zdq ⟨⟨ge,gc⟩,sq,im⟩)(w:World)(hS:Sat w (zad RS p S*F)):
  Calls prog 11 #[.pointer (some ⟨p,0,none⟩),.agg #[ge,gc,sq,.string (zae im)]] w (zkz p F (S,0,1) w):=by
 have HFE:=zh (show ∀ W,Calls prog 38 #[ge] W fun e w'=>e = .returned (.bool (zcq ge))∧W=w' from fun W=>by rw[← zfE];exact zeO ge W)
 have HFC:=zh (show ∀ W,Calls prog 38 #[gc] W fun e w'=>e = .returned (.bool (zcq gc))∧W=w' from fun W=>by rw[← zfE];exact zeO gc W)
 have hsb:=(zdW ge gc sq im).1 hb;generalize zcq ge=fe at HFE hsb;generalize zcq gc=fc at HFC hsb;have H1:=(zd ((Same.refl w).alloc (.cells #[ge,gc,sq,.string (zae im)] TCk)) ((hS.alloc (.cells #[ge,gc,sq,.string (zae im)] TCk))));clear hS hb;go_enter func11,ntmps11;go_upto_region 1 with (fail)
 generalize w.alloc (.cells #[ge,gc,sq,.string (zae im)] TCk)=w1 at H1 ⊢;generalize w.heap.size=cB at H1 ⊢;obtain⟨⟨r0,r1,r2,r3⟩,⟨f0,f1,f2,f3⟩,rl⟩:=zas H1.out.2;go_upto_region 2 with (go_at_call 38;refine (HFE.out w1).mono ?_;rintro e w2 ⟨rfl,rfl⟩)
 go_upto_region 3 with (go_at_call 38;refine (HFC.out w1).mono ?_;rintro e w2 ⟨rfl,rfl⟩)
 cases hs:decide (sq<0) with
 | true =>
  clear hsb;go_wp2;go_ret2;exact⟨rfl,H1.out.1,H1.out.2.right⟩
 | false =>
  cases fe with
  | false =>
   clear hsb;go_wp2;go_ret2;exact⟨rfl,H1.out.1,H1.out.2.right⟩
  | true =>
   cases fc with
   | false =>
    clear hsb;go_wp2;go_ret2;exact⟨rfl,H1.out.1,H1.out.2.right⟩
   | true =>
    have h0:ge=0∧gc=0:=by
     rcases hsb with h|h|h|h
     ·exact absurd h (of_decide_eq_false hs)
     ·cases h
     ·cases h
     ·exact h
    have e0:(ge==0)=true:=beq_iff_eq.2 h0.1;have e1:(gc==0)=true:=beq_iff_eq.2 h0.2;clear hsb h0;go_wp2;go_ret2;exact⟨rfl,H1.out.1,H1.out.2.right⟩
theorem zh0 (S:zsg)(d:Int)(f:zsh→zsh):(S.step d f).1.cfg=S.cfg:=by
 unfold zsg.step;split
 ·rfl
 split
 ·rfl
 split
 ·split <;> rfl
 ·rfl
theorem zgb (d area:Int)(c:CkM)(S:zsg):∀ k,(wrA d area c S k).1.cfg=S.cfg
 | 0=>rfl
 | k+1=>by
  show (if _ then _ else _:zsg×Int).1.cfg=_;split
  ·exact zgb d area c S k
  ·unfold zsg.write
   split
   ·exact zgb d area c S k
   ·exact (zh0 _ _ _).trans (zgb d area c S k)
theorem zd1 (S:zsg)(d area:Int)(c:CkM):(zbH S d area c).1.cfg=S.cfg:=by
 rw[ze8];split
 ·exact zgb d area c S _
 ·unfold zsg.flush
  split
  ·exact zgb d area c S _
  ·exact (zh0 _ _ _).trans (zgb d area c S _)
theorem zqa (S:zsg)(c:CkM)(ar:List Int)(k:Nat):zkD S c ar k≤k:=by
 unfold zkD;exact Nat.le_trans (List.length_filter_le _ _) (by rw[List.length_range];exact Nat.le_refl _)
def zrg:List (Nat×Int)→Bool
 | []=>false
 | _::_=>true
theorem zij (l:List (Nat×Int))(x:Nat×Int):zrg (l++[x])=true:=by cases l <;> rfl
theorem zpc {l:List (Nat×Int)}(h:zrg l=false):l=[]:=by cases l with|nil=>rfl|cons a t=>cases h
theorem zqm {l:List (Nat×Int)}(h:zrg l=true):l≠[]:=by cases l with|nil=>cases h|cons a t=>exact List.cons_ne_nil a t
structure zr7 (w:World)(p cB:Nat)(c:CkM)(A:Array Value)(S:zsg)(m:Nat)(st:Nat→Bool)(F:zsi)(some areas d:Value)(wr:World):Prop where
 st:∃ (k:Nat) (Sk:zsg) (ar:List Int),k≤m∧ar.length=k∧d = .int .i64 (k:Int)∧some = .bool (zrg (zbK st ar k))∧(∀ e:Int,Sk.state e=S.state e)∧Sk.cfg=S.cfg∧za6 c S [] 0 m=za6 c Sk (zbK st ar k) k (m - k)∧Same w wr∧Sat wr (zad RS p Sk*(zaf 3 1 areas k (ar.map fun a=>.int .i64 a)*(pts cB (.cells A TCk (0,0))*F)))
structure zr8 (w:World)(p cB:Nat)(c:CkM)(A:Array Value)(Sk:zsg)(ar:List Int)(v:Value)(F:zsi)(n d:Value)(wr:World):Prop where
 st:∃ k:Nat,k≤ar.length∧d = .int .i64 (k:Int)∧n = .int .i64 (zkD Sk c ar k:Int)∧Same w wr∧Sat wr (zad RS p Sk*(zaf 3 1 v ar.length (ar.map fun a=>.int .i64 a)*(pts cB (.cells A TCk (0,0))*F)))
theorem znU (p:Nat)(S:zsg)(F:zsi)(ge gc:Int)(sq:Nat)(im:List UInt8)(hsq:sq<9223372036854775808)(hnb:¬ zdq ⟨⟨ge,gc⟩,(sq:Int),im⟩)(w:World)(hS:Sat w (zad RS p S*F)):
  Calls prog 11 #[.pointer (some ⟨p,0,none⟩),.agg #[ge,gc,(sq:Int),.string (zae im)]] w (zkz p F (zdc S ⟨⟨ge,gc⟩,(sq:Int),im⟩) w):=by
 have hwf:=zbm hS;have hcf:=hwf.cfg;obtain⟨m,hm⟩:∃ m:Nat,S.cfg.disks=(m:Int):=⟨S.cfg.disks.toNat,by have:=hcf.disks;omega⟩;have HM64:=zh (show m≤64 from by have:=hcf.disks;omega)
 have hR:zdc S ⟨⟨ge,gc⟩,(sq:Int),im⟩=if zda S.cfg<(im.length:Int) then (S,0,2) else if S.off then (S,0,14)
  else if (za6 ⟨⟨ge,gc⟩,(sq:Int),im⟩ S [] 0 m).2.2≠0 then ((za6 ⟨⟨ge,gc⟩,(sq:Int),im⟩ S [] 0 m).1,0,(za6 ⟨⟨ge,gc⟩,(sq:Int),im⟩ S [] 0 m).2.2)
  else if (za6 ⟨⟨ge,gc⟩,(sq:Int),im⟩ S [] 0 m).2.1=[] then ((za6 ⟨⟨ge,gc⟩,(sq:Int),im⟩ S [] 0 m).1,0,15)
  else ((za6 ⟨⟨ge,gc⟩,(sq:Int),im⟩ S [] 0 m).1,(zen (za6 ⟨⟨ge,gc⟩,(sq:Int),im⟩ S [] 0 m).1 ⟨⟨ge,gc⟩,(sq:Int),im⟩ (za6 ⟨⟨ge,gc⟩,(sq:Int),im⟩ S [] 0 m).2.1:Int),0):=by
  unfold zdc;rw[if_neg hnb,show S.cfg.disks.toNat=m by omega]
 generalize zdc S ⟨⟨ge,gc⟩,(sq:Int),im⟩=R at hR ⊢;have HR:=zh hR
 have hsb:=fun h=>hnb ((zdW ge gc (sq:Int) im).2 h)
 have he:zcq ge=true:=by cases h:zcq ge with|true=>rfl|false=>exact absurd (.inr (.inl h)) hsb
 have hc:zcq gc=true:=by cases h:zcq gc with|true=>rfl|false=>exact absurd (.inr (.inr (.inl h))) hsb
 have hs:decide ((sq:Int)<0)=false:=decide_eq_false (by omega)
 have hz:(ge==0&&gc==0)=false:=by
  rw[Bool.eq_false_iff];intro h;simp only[Bool.and_eq_true,beq_iff_eq] at h;exact hsb (.inr (.inr (.inr h)))
 have HGO:=zh (show zcQ ⟨ge,gc⟩=true from by
  cases h:zcQ ⟨ge,gc⟩ with
  | true=>rfl
  | false=>exact absurd (.inr h) hnb)
 have HPC:=zh (fun h=>zgY (c:=⟨⟨ge,gc⟩,(sq:Int),im⟩) hcf.image.2 hcf.image.1 h)
 have HFE:=zh (show ∀ W,Calls prog 38 #[ge] W fun e w'=>e = .returned (.bool true)∧W=w' from fun W=>by rw[← he,← zfE];exact zeO ge W);have HFC:=zh (show ∀ W,Calls prog 38 #[gc] W fun e w'=>e = .returned (.bool true)∧W=w' from fun W=>by rw[← hc,← zfE];exact zeO gc W)
 have HCF:=zh (show ∀ (W:World) (S':zsg) (X:zsi),S'.cfg=S.cfg→Sat W (zad RS p S'*X)→Calls prog 39 #[.pointer (some ⟨p,0,none⟩)] W fun e w'=>e = .returned (.agg (za8 S.cfg))∧Below W.heap.size W w' from fun W S' X h1 h=>by rw[← h1];exact zec p S' X W h)
 have HCA:=zh (show ∀ (W:World),Calls prog 23 #[.agg (za8 S.cfg)] W fun e w'=>e = .returned (.int .i64 (zda S.cfg))∧Below W.heap.size W w' from fun W=>zfA S.cfg hcf.image.1 hcf.image.2 W)
 have HFD:=zh (show ∀ W:World,(Instr.field 23 (.agg (za8 S.cfg)) 0).run prog W = .ok (.int .i64 (m:Int)) W from fun W=>by rw[← hm];exact zfQ S.cfg W)
 have HUP:=zh (fun (W:World) (X:zsi) (h:Sat W (zad RS p S*X))=>znS p S X W h)
 have hsz:(zae im).size=im.length:=zap im;have H1:=(zd ((Same.refl w).alloc (.cells #[ge,gc,(sq:Int),.string (zae im)] TCk)) ((hS.alloc (.cells #[ge,gc,(sq:Int),.string (zae im)] TCk)).perm (show _=zad RS p S*(pts w.heap.size (.cells #[ge,gc,(sq:Int),.string (zae im)] TCk (0,0))*F) from by ac_rfl)));have HSQ:=zh hsq;clear hS hnb hsb he hc hR hwf hcf hm hsq;go_enter func11,ntmps11;go_upto_region 1 with (fail)
 generalize w.alloc (.cells #[ge,gc,(sq:Int),.string (zae im)] TCk)=w1 at H1 ⊢;generalize w.heap.size=cB at H1 ⊢
 have HCL:=zh (show ∀ (W:World) (X:zsi),Sat W (X*(pts cB (.cells #[ge,gc,(sq:Int),.string (zae im)] TCk (0,0))*F))→W.cell? ⟨cB,0,none⟩=some (.int .i64 ge)∧W.cell? ⟨cB,1,none⟩=some (.int .i64 gc)∧W.cell? ⟨cB,2,none⟩=some (.int .i64 (sq:Int))∧W.cell? ⟨cB,3,none⟩=some (.string (zae im)) from fun W X h=>(zas h.right).1)
 obtain⟨r0,r1,r2,r3⟩:=HCL.out _ _ H1.out.2;go_upto_region 2 with (go_at_call 38;refine (HFE.out w1).mono ?_;rintro e w2 ⟨rfl,rfl⟩)
 go_upto_region 3 with (go_at_call 38;refine (HFC.out w1).mono ?_;rintro e w2 ⟨rfl,rfl⟩)
 have hz1:(ge==0)=false∨((ge==0)=true∧(gc==0)=false):=by
  cases h:(ge==0) with
  | false=>exact .inl rfl
  | true=>rw[h] at hz;exact .inr ⟨rfl,by simpa using hz⟩
 clear hz;rcases hz1 with hz1|⟨hz0,hz1⟩
 all_goals
  go_upto_region 5 with (fail);replace H1:=(zd H1.out.1.drew H1.out.2.drew);have hS0:=HCL.out _ _ H1.out.2;clear r0 r1 r2 r3 hs
  try clear hz0
  clear hz1
  refine zah (fun w'=>w'.cell? ⟨cB,0,none⟩=some (.int .i64 ge)∧w'.cell? ⟨cB,1,none⟩=some (.int .i64 gc)∧w'.cell? ⟨cB,2,none⟩=some (.int .i64 (sq:Int))∧w'.cell? ⟨cB,3,none⟩=some (.string (zae im))) (by kernel_rfl) ?_
  (apply zaa 0 rfl rfl (by kernel_rfl) rfl);(rintro w' ⟨h1,h2,h3,h4⟩;go_simp;rfl);exact hS0;simp only[zq];(apply zaa 1 rfl rfl (by kernel_rfl) rfl);(rintro w' ⟨h1,h2,h3,h4⟩;go_simp;rfl);exact hS0;simp only[zq];(apply zaa 2 rfl rfl (by kernel_rfl) rfl);(rintro w' ⟨h1,h2,h3,h4⟩;go_simp;rfl);exact hS0;simp only[zq];(apply zaa 3 rfl rfl (by kernel_rfl) rfl);(rintro w' ⟨h1,h2,h3,h4⟩;go_simp;rfl);exact hS0;simp only[zq];refine zan 4 rfl rfl (by kernel_rfl) rfl (f:=39) (args:=#[.pointer (some ⟨p,0,none⟩)]) (R:=fun v w'=>v = .agg (za8 S.cfg)∧Hid (Below w1.drew.heap.size w1.drew w')) (by kernel_rfl) ((HCF.out w1.drew S _ rfl H1.out.2).mono fun e w' h=>⟨_,h.1,rfl,h.2⟩) ?_
  rintro _ w2 ⟨rfl,hb⟩;replace H1:=(zd (H1.out.1.below hb.out) (H1.out.2.below hb.out));replace hS0:=HCL.out _ _ H1.out.2;refine⟨hS0,?_⟩;simp only[zq];clear hb;refine zan 5 rfl rfl (by kernel_rfl) rfl (f:=23) (args:=#[.agg (za8 S.cfg)]) (R:=fun v w'=>v = .int .i64 (zda S.cfg)∧Hid (Below w2.heap.size w2 w')) (by kernel_rfl) ((HCA.out w2).mono fun e w' h=>⟨_,h.1,rfl,h.2⟩) ?_;rintro _ w3 ⟨rfl,hb⟩;replace H1:=(zd (H1.out.1.below hb.out) (H1.out.2.below hb.out));replace hS0:=HCL.out _ _ H1.out.2;refine⟨hS0,?_⟩
  simp only[zq];clear hb;generalize zda S.cfg=mx at HCA HPC HR ⊢
  by_cases hl:mx<(im.length:Int)
  case pos =>
   have hld:decide (mx<(im.length:Int))=true:=decide_eq_true hl;have HRR:=zh (HR.out.trans (if_pos hl));clear hl;(apply zaa 6 rfl rfl (by kernel_rfl) rfl);(rintro w' ⟨h1,h2,h3,h4⟩;go_simp;rfl);exact hS0;simp only[zq];refine zar (by kernel_rfl) ?_;clear hS0;go_wp2;go_ret2;exact⟨by rw[HRR.out];rfl,H1.out.1,by rw[HRR.out];exact (H1.out.2.perm (show _=pts cB (.cells #[ge,gc,(sq:Int),.string (zae im)] TCk (0,0))*(zad RS p S*F) from by ac_rfl)).right⟩
  case neg =>
  have hld:decide (mx<(im.length:Int))=false:=decide_eq_false hl;replace HR:=zh (HR.out.trans (if_neg hl));have HPC2:=zh (HPC.out (by omega));clear hl HPC;(apply zaa 6 rfl rfl (by kernel_rfl) rfl);(rintro w' ⟨h1,h2,h3,h4⟩;go_simp;rfl);exact hS0;simp only[zq];refine zar (by kernel_rfl) ?_;clear hS0
  cases hoff:S.off with
  | true =>
   rw[hoff] at HUP HR;replace HR:=zh (HR.out.trans (if_pos rfl));clear hoff;go_wp2_with (go_at_call 40;refine (HUP.out w3 _ H1.out.2).mono ?_;rintro e w4 ⟨rfl,rfl⟩);go_ret2;exact⟨by rw[HR.out];rfl,H1.out.1,by rw[HR.out];exact (H1.out.2.perm (show _=pts cB (.cells #[ge,gc,(sq:Int),.string (zae im)] TCk (0,0))*(zad RS p S*F) from by ac_rfl)).right⟩
  | false =>
  rw[hoff] at HUP HR;replace HR:=zh (HR.out.trans (if_neg (by decide)));clear hoff;go_wp2_with (go_at_call 40;refine (HUP.out w3 _ H1.out.2).mono ?_;rintro e w4 ⟨rfl,rfl⟩);obtain⟨ti,hti,hz3,hts,hz2⟩:=info_parts (show (prog.info? 3).map (fun i=>(i.zero,i.size,i.bytes))=some (some (.int .i64 0),1,8) from by kernel_rfl);obtain⟨st,hst⟩:∃ st:Nat→Bool,∀ j,st j=decide (S.state (j:Int)=1):=⟨_,fun _=>rfl⟩;have HST:=zh hst;clear hst
  have HSE:=zh (fun (W:World) (S':zsg) (k:Nat) (X:zsi) (h:Sat W (zad RS p S'*X))=>zcj p S' X (k:Int) W h)
  have HNE:=zh (fun (W:World) (S':zsg) (k:Nat) (X:zsi) (h:Sat W (zad RS p S'*X))=>zeB p S' X (k:Int) W h)
  go_loopw [9,10,11,12,13,14] (fun sm av d _ _ _ wr=>zr7 w p cB ⟨⟨ge,gc⟩,(sq:Int),im⟩ #[ge,gc,(sq:Int),.string (zae im)] S m st F sm av d wr) (fun _ _ d _ _ _ _=>m - (intOf d).toNat)
  case atStart=>exact⟨0,S,[],Nat.zero_le _,rfl,rfl,by rw[show zbK st [] 0=[] from rfl];rfl,fun _=>rfl,rfl,rfl,H1.out.1,(zbp.2 H1.out.2).perm (by ac_rfl)⟩
  case round =>
   clear H1;obtain⟨k,Sk,ar,hk,har,rfl,rfl,hse,hcg,hsv,hsm,hs⟩:=hrel.st;clear hrel;have H1:=(zd hsm hs);have HINV:=(zd har (And.intro hse (And.intro hcg hsv)));obtain⟨ao,cap,rfl⟩:=zal (hs.perm (show _=zaf 3 1 _ k (ar.map fun a=>.int .i64 a)*(zad RS p Sk*(pts cB (.cells #[ge,gc,(sq:Int),.string (zae im)] TCk (0,0))*F)) from by ac_rfl));clear hsm hs har hse hcg hsv
   by_cases hlt:k<m
   case pos =>
    have hltd:decide ((k:Int)<(m:Int))=true:=decide_eq_true (by omega)
    have hki:(k:Int)≤64:=by have:=HM64.out;omega
    obtain⟨⟨nA,⟨⟨ne,nc⟩,nq,ni⟩,en⟩,hnk⟩:∃ r,zbs Sk k=r:=⟨_,rfl⟩
    have HN1:=zh (show ∀ (W:World) (X:zsi),Sat W (zad RS p Sk*X)→Calls prog 19 #[.pointer (some ⟨p,0,none⟩),(k:Int)] W fun e w'=>e = .returned (.agg #[nA,ne,nc,nq,.string (zae ni),en])∧Hid (Same W w'∧Sat w' (zad RS p Sk*X)) from fun W X h=>(HNE.out W Sk k X h).mono fun e w' h2=>by unfold zot at h2;rw[hnk] at h2;exact h2)
    have HNX:=zh (show zc7 Sk k=if en=0∧nA=2 then 3 else 2 from by unfold zc7;rw[hnk]);have HLT:=zh hlt;clear hnk hlt hk
    go_upto_region 17 with (first
     | (go_at_call 39;refine (HCF.out wr Sk _ HINV.out.2.2.1 H1.out.2).mono ?_;rintro e w5 ⟨rfl,hb⟩;replace H1:=(zd (H1.out.1.below hb) (H1.out.2.below hb));clear hb;have hfd:=HFD.out w5)
     | (go_at_call 19;refine (HN1.out w5 _ H1.out.2).mono ?_;rintro e w6 ⟨rfl,h2⟩;replace H1:=(zt H1 h2);clear h2))
    replace H1:=(zd (H1.out.1.alloc (.cells #[nA,ne,nc,nq,.string (zae ni),en] TFd)) ((H1.out.2.alloc (.cells #[nA,ne,nc,nq,.string (zae ni),en] TFd)).perm (show _=pts w6.heap.size (.cells #[nA,ne,nc,nq,.string (zae ni),en] TFd (0,0))*(zad RS p Sk*(zaf 3 1 (.slice ao k cap) k (ar.map fun a=>.int .i64 a)*(pts cB (.cells #[ge,gc,(sq:Int),.string (zae im)] TCk (0,0))*F))) from by ac_rfl)));change Code.wp _ _ _ _ (w6.alloc (.cells #[nA,ne,nc,nq,.string (zae ni),en] TFd));generalize w6.alloc (.cells #[nA,ne,nc,nq,.string (zae ni),en] TFd)=w7 at H1 ⊢
    generalize w6.heap.size=nB at H1 ⊢;clear hfd;obtain⟨⟨p0,p1,p2,p3,p4,p5⟩,-⟩:=zci H1.out.2
    by_cases hen:en=0
    case neg =>
     have hed:(en==0)=false:=by simp[hen]
     have HA:=zh (show zc7 Sk k=2 from by rw[HNX.out,if_neg (fun h=>hen h.1)]);clear hen HNX;go_upto_region 19 with (fail)
     replace H1:=(zd H1.out.1 (H1.out.2.right.perm (show _=zaf 3 1 (.slice ao k cap) k (ar.map fun a=>.int .i64 a)*(zad RS p Sk*(pts cB (.cells #[ge,gc,(sq:Int),.string (zae im)] TCk (0,0))*F)) from by ac_rfl)));clear p0 p1 p2 p3 p4 p5;go_upto_region 20 with (at_builtin;refine zaq (F:=zad RS p Sk*(pts cB (.cells #[ge,gc,(sq:Int),.string (zae im)] TCk (0,0))*F)) rfl _ _ 38 3 rfl ti _ underlying38 hti hz3 hts hz2 rfl (H1.out.2.allocKeep _) [.int .i64 2] rfl rfl rfl ?_ (by simp[Value.oneCell']) (by unfold maxLen;omega) (by omega) ?_)
     ·intro j u hu
      match j,hu with
      | 0,hu=>rw[Addr.add_mid,zab (heap_alloc_new _ _)];simpa using hu
     intro v8 w8 h8;replace H1:=(zd ((H1.out.1.alloc _).trans h8.out.1) (h8.out.2.perm (show _=zad RS p Sk*(zaf 3 1 v8 (k+1) ((ar.map fun a=>.int .i64 a)++[.int .i64 2])*(pts cB (.cells #[ge,gc,(sq:Int),.string (zae im)] TCk (0,0))*F)) from by ac_rfl)));rw[← List.map_singleton (f:=fun a:Int=>Value.int .i64 a),← List.map_append] at H1;clear h8
     have HSE1:=zh (show ∀ (W:World) (X:zsi),Sat W (zad RS p Sk*X)→Calls prog 41 #[.pointer (some ⟨p,0,none⟩),(k:Int)] W fun e w'=>e = .returned (.int .i64 (S.state k))∧W=w' from fun W X h=>by rw[← HINV.out.2.1];exact HSE.out W Sk k X h)
     have HPS:=zh (zfq (st:=st) HINV.out.1 2)
     by_cases hst:S.state k=1
     case neg =>
      have hsk:st k=false:=by rw[HST.out];exact decide_eq_false hst
      have HPN:=zh (show zbK st (ar++[2]) (k+1)=zbK st ar k from by rw[HPS.out,hsk,if_neg (by decide)])
      have HSK:=zh (fun (l:List (Nat×Int)) (n:Nat)=>zek (c:=⟨⟨ge,gc⟩,(sq:Int),im⟩) (S:=Sk) (l:=l) (k:=k) (m:=n) (by rw[HINV.out.2.1];exact hst))
      obtain⟨es,hes⟩:∃ es,S.state k=es:=⟨_,rfl⟩;rw[hes] at hst HSE1;have hsb:(es != 1)=true:=bne_iff_ne.2 hst;clear hst hes hsk;go_wp2_with (go_at_call 41;refine (HSE1.out w8 _ H1.out.2).mono ?_;rintro e w9 ⟨rfl,rfl⟩);exact⟨⟨k+1,Sk,ar++[2],HLT.out,by rw[List.length_append,HINV.out.1];rfl,rfl,by rw[HPN.out],HINV.out.2.1,HINV.out.2.2.1,by rw[HINV.out.2.2.2,HPN.out,show m - k=(m - (k+1))+1 by have:=HLT.out;omega,HSK.out],H1.out.1,H1.out.2⟩,by have:=HLT.out;simp only[intOf];omega⟩
     case pos =>
      have hsk:st k=true:=by rw[HST.out];exact decide_eq_true hst
      have HPN:=zh (show zbK st (ar++[2]) (k+1)=zbK st ar k++[(k,2)] from by rw[HPS.out,hsk,if_pos rfl]);rw[hst] at HSE1;have HS1:=zh (show Sk.state k=1 from by rw[HINV.out.2.1];exact hst);clear hst hsk;go_upto_region 22 with (go_at_call 41;refine (HSE1.out w8 _ H1.out.2).mono ?_;rintro e w9 ⟨rfl,rfl⟩)
      obtain⟨q0,q1,q2,q3⟩:=HCL.out w8 (zad RS p Sk*zaf 3 1 v8 (k+1) ((ar++[2]).map fun a=>.int .i64 a)) (by rw[zax];exact H1.out.2);obtain⟨⟨S7,e7⟩,hwk⟩:∃ r,zbH Sk (k:Int) 2 ⟨⟨ge,gc⟩,(sq:Int),im⟩=r:=⟨_,rfl⟩;have hwr:=zfx p Sk _ (k:Int) 2 ge gc sq im HSQ.out HPC2.out.2 (zei (c:=⟨⟨ge,gc⟩,(sq:Int),im⟩) ⟨by omega,by have:=HM64.out;have:=HLT.out;omega⟩ (.inl rfl) HGO.out HPC2.out.1) w8 H1.out.2;unfold ziM at hwr;rw[hwk] at hwr;have HW:=zh hwr;have HWS:=zh (show ∀ e:Int,S7.state e=S.state e from fun e=>by have h:=zht Sk (k:Int) 2 ⟨⟨ge,gc⟩,(sq:Int),im⟩ e;rw[hwk] at h;rw[← HINV.out.2.1];exact h)
      have HWC:=zh (show S7.cfg=S.cfg from by have h:=zd1 Sk (k:Int) 2 ⟨⟨ge,gc⟩,(sq:Int),im⟩;rw[hwk] at h;rw[← HINV.out.2.2.1];exact h);have HWK:=zh hwk;clear hwr hwk;go_upto_region 23 with (go_at_call 42;refine HW.out.mono ?_;rintro e w9 ⟨rfl,h9⟩;replace H1:=(zt H1 h9);clear h9)
      clear q0 q1 q2 q3 HW
      by_cases he7:e7=0
      case pos =>
       subst he7;go_wp2;exact⟨⟨k+1,S7,ar++[2],HLT.out,by rw[List.length_append,HINV.out.1];rfl,rfl,by rw[HPN.out,zij],HWS.out,HWC.out,by rw[HINV.out.2.2.2,HPN.out,show m - k=(m - (k+1))+1 by have:=HLT.out;omega,zdZ HS1.out (by rw[HA.out,HWK.out]),HA.out,HWK.out],H1.out.1,H1.out.2⟩,by have:=HLT.out;simp only[intOf];omega⟩
      case neg =>
       have hed:(e7 != 0)=true:=bne_iff_ne.2 he7
       have HE:=zh (show R=(S7,0,e7) from by
        rw[HR.out,HINV.out.2.2.2,show m - k=(m - (k+1))+1 by have:=HLT.out;omega,zdj HS1.out (by rw[HA.out,HWK.out];exact he7),HA.out,HWK.out,if_pos he7])
       clear he7;go_wp2;go_ret2;rw[HE.out];exact⟨rfl,H1.out.1,(H1.out.2.perm (show _=(zaf 3 1 v8 (k+1) ((ar++[2]).map fun a=>.int .i64 a)*pts cB (.cells #[ge,gc,(sq:Int),.string (zae im)] TCk (0,0)))*(zad RS p S7*F) from by ac_rfl)).right⟩
    case pos =>
     subst hen
     by_cases har:nA=2
     case pos =>
      subst har;have HA:=zh (show zc7 Sk k=3 from by rw[HNX.out];rfl);clear HNX;go_upto_region 19 with (fail)
      replace H1:=(zd H1.out.1 (H1.out.2.right.perm (show _=zaf 3 1 (.slice ao k cap) k (ar.map fun a=>.int .i64 a)*(zad RS p Sk*(pts cB (.cells #[ge,gc,(sq:Int),.string (zae im)] TCk (0,0))*F)) from by ac_rfl)));clear p0 p1 p2 p3 p4 p5;go_upto_region 20 with (at_builtin;refine zaq (F:=zad RS p Sk*(pts cB (.cells #[ge,gc,(sq:Int),.string (zae im)] TCk (0,0))*F)) rfl _ _ 38 3 rfl ti _ underlying38 hti hz3 hts hz2 rfl (H1.out.2.allocKeep _) [.int .i64 3] rfl rfl rfl ?_ (by simp[Value.oneCell']) (by unfold maxLen;omega) (by omega) ?_)
      ·intro j u hu
       match j,hu with
       | 0,hu=>rw[Addr.add_mid,zab (heap_alloc_new _ _)];simpa using hu
      intro v8 w8 h8;replace H1:=(zd ((H1.out.1.alloc _).trans h8.out.1) (h8.out.2.perm (show _=zad RS p Sk*(zaf 3 1 v8 (k+1) ((ar.map fun a=>.int .i64 a)++[.int .i64 3])*(pts cB (.cells #[ge,gc,(sq:Int),.string (zae im)] TCk (0,0))*F)) from by ac_rfl)));rw[← List.map_singleton (f:=fun a:Int=>Value.int .i64 a),← List.map_append] at H1;clear h8
      have HSE1:=zh (show ∀ (W:World) (X:zsi),Sat W (zad RS p Sk*X)→Calls prog 41 #[.pointer (some ⟨p,0,none⟩),(k:Int)] W fun e w'=>e = .returned (.int .i64 (S.state k))∧W=w' from fun W X h=>by rw[← HINV.out.2.1];exact HSE.out W Sk k X h)
      have HPS:=zh (zfq (st:=st) HINV.out.1 3)
      by_cases hst:S.state k=1
      case neg =>
       have hsk:st k=false:=by rw[HST.out];exact decide_eq_false hst
       have HPN:=zh (show zbK st (ar++[3]) (k+1)=zbK st ar k from by rw[HPS.out,hsk,if_neg (by decide)])
       have HSK:=zh (fun (l:List (Nat×Int)) (n:Nat)=>zek (c:=⟨⟨ge,gc⟩,(sq:Int),im⟩) (S:=Sk) (l:=l) (k:=k) (m:=n) (by rw[HINV.out.2.1];exact hst))
       obtain⟨es,hes⟩:∃ es,S.state k=es:=⟨_,rfl⟩;rw[hes] at hst HSE1;have hsb:(es != 1)=true:=bne_iff_ne.2 hst;clear hst hes hsk;go_wp2_with (go_at_call 41;refine (HSE1.out w8 _ H1.out.2).mono ?_;rintro e w9 ⟨rfl,rfl⟩);exact⟨⟨k+1,Sk,ar++[3],HLT.out,by rw[List.length_append,HINV.out.1];rfl,rfl,by rw[HPN.out],HINV.out.2.1,HINV.out.2.2.1,by rw[HINV.out.2.2.2,HPN.out,show m - k=(m - (k+1))+1 by have:=HLT.out;omega,HSK.out],H1.out.1,H1.out.2⟩,by have:=HLT.out;simp only[intOf];omega⟩
      case pos =>
       have hsk:st k=true:=by rw[HST.out];exact decide_eq_true hst
       have HPN:=zh (show zbK st (ar++[3]) (k+1)=zbK st ar k++[(k,3)] from by rw[HPS.out,hsk,if_pos rfl]);rw[hst] at HSE1;have HS1:=zh (show Sk.state k=1 from by rw[HINV.out.2.1];exact hst);clear hst hsk;go_upto_region 22 with (go_at_call 41;refine (HSE1.out w8 _ H1.out.2).mono ?_;rintro e w9 ⟨rfl,rfl⟩)
       obtain⟨q0,q1,q2,q3⟩:=HCL.out w8 (zad RS p Sk*zaf 3 1 v8 (k+1) ((ar++[3]).map fun a=>.int .i64 a)) (by rw[zax];exact H1.out.2);obtain⟨⟨S7,e7⟩,hwk⟩:∃ r,zbH Sk (k:Int) 3 ⟨⟨ge,gc⟩,(sq:Int),im⟩=r:=⟨_,rfl⟩;have hwr:=zfx p Sk _ (k:Int) 3 ge gc sq im HSQ.out HPC2.out.2 (zei (c:=⟨⟨ge,gc⟩,(sq:Int),im⟩) ⟨by omega,by have:=HM64.out;have:=HLT.out;omega⟩ (.inr rfl) HGO.out HPC2.out.1) w8 H1.out.2;unfold ziM at hwr;rw[hwk] at hwr;have HW:=zh hwr;have HWS:=zh (show ∀ e:Int,S7.state e=S.state e from fun e=>by have h:=zht Sk (k:Int) 3 ⟨⟨ge,gc⟩,(sq:Int),im⟩ e;rw[hwk] at h;rw[← HINV.out.2.1];exact h)
       have HWC:=zh (show S7.cfg=S.cfg from by have h:=zd1 Sk (k:Int) 3 ⟨⟨ge,gc⟩,(sq:Int),im⟩;rw[hwk] at h;rw[← HINV.out.2.2.1];exact h);have HWK:=zh hwk;clear hwr hwk;go_upto_region 23 with (go_at_call 42;refine HW.out.mono ?_;rintro e w9 ⟨rfl,h9⟩;replace H1:=(zt H1 h9);clear h9)
       clear q0 q1 q2 q3 HW
       by_cases he7:e7=0
       case pos =>
        subst he7;go_wp2;exact⟨⟨k+1,S7,ar++[3],HLT.out,by rw[List.length_append,HINV.out.1];rfl,rfl,by rw[HPN.out,zij],HWS.out,HWC.out,by rw[HINV.out.2.2.2,HPN.out,show m - k=(m - (k+1))+1 by have:=HLT.out;omega,zdZ HS1.out (by rw[HA.out,HWK.out]),HA.out,HWK.out],H1.out.1,H1.out.2⟩,by have:=HLT.out;simp only[intOf];omega⟩
       case neg =>
        have hed:(e7 != 0)=true:=bne_iff_ne.2 he7
        have HE:=zh (show R=(S7,0,e7) from by
         rw[HR.out,HINV.out.2.2.2,show m - k=(m - (k+1))+1 by have:=HLT.out;omega,zdj HS1.out (by rw[HA.out,HWK.out];exact he7),HA.out,HWK.out,if_pos he7])
        clear he7;go_wp2;go_ret2;rw[HE.out];exact⟨rfl,H1.out.1,(H1.out.2.perm (show _=(zaf 3 1 v8 (k+1) ((ar++[3]).map fun a=>.int .i64 a)*pts cB (.cells #[ge,gc,(sq:Int),.string (zae im)] TCk (0,0)))*(zad RS p S7*F) from by ac_rfl)).right⟩
     case neg =>
      have hab:(nA==2)=false:=by simp[har]
      have HA:=zh (show zc7 Sk k=2 from by rw[HNX.out,if_neg (fun h=>har h.2)]);clear har HNX;go_upto_region 19 with (fail)
      replace H1:=(zd H1.out.1 (H1.out.2.right.perm (show _=zaf 3 1 (.slice ao k cap) k (ar.map fun a=>.int .i64 a)*(zad RS p Sk*(pts cB (.cells #[ge,gc,(sq:Int),.string (zae im)] TCk (0,0))*F)) from by ac_rfl)));clear p0 p1 p2 p3 p4 p5;go_upto_region 20 with (at_builtin;refine zaq (F:=zad RS p Sk*(pts cB (.cells #[ge,gc,(sq:Int),.string (zae im)] TCk (0,0))*F)) rfl _ _ 38 3 rfl ti _ underlying38 hti hz3 hts hz2 rfl (H1.out.2.allocKeep _) [.int .i64 2] rfl rfl rfl ?_ (by simp[Value.oneCell']) (by unfold maxLen;omega) (by omega) ?_)
      ·intro j u hu
       match j,hu with
       | 0,hu=>rw[Addr.add_mid,zab (heap_alloc_new _ _)];simpa using hu
      intro v8 w8 h8;replace H1:=(zd ((H1.out.1.alloc _).trans h8.out.1) (h8.out.2.perm (show _=zad RS p Sk*(zaf 3 1 v8 (k+1) ((ar.map fun a=>.int .i64 a)++[.int .i64 2])*(pts cB (.cells #[ge,gc,(sq:Int),.string (zae im)] TCk (0,0))*F)) from by ac_rfl)));rw[← List.map_singleton (f:=fun a:Int=>Value.int .i64 a),← List.map_append] at H1;clear h8
      have HSE1:=zh (show ∀ (W:World) (X:zsi),Sat W (zad RS p Sk*X)→Calls prog 41 #[.pointer (some ⟨p,0,none⟩),(k:Int)] W fun e w'=>e = .returned (.int .i64 (S.state k))∧W=w' from fun W X h=>by rw[← HINV.out.2.1];exact HSE.out W Sk k X h)
      have HPS:=zh (zfq (st:=st) HINV.out.1 2)
      by_cases hst:S.state k=1
      case neg =>
       have hsk:st k=false:=by rw[HST.out];exact decide_eq_false hst
       have HPN:=zh (show zbK st (ar++[2]) (k+1)=zbK st ar k from by rw[HPS.out,hsk,if_neg (by decide)])
       have HSK:=zh (fun (l:List (Nat×Int)) (n:Nat)=>zek (c:=⟨⟨ge,gc⟩,(sq:Int),im⟩) (S:=Sk) (l:=l) (k:=k) (m:=n) (by rw[HINV.out.2.1];exact hst))
       obtain⟨es,hes⟩:∃ es,S.state k=es:=⟨_,rfl⟩;rw[hes] at hst HSE1;have hsb:(es != 1)=true:=bne_iff_ne.2 hst;clear hst hes hsk;go_wp2_with (go_at_call 41;refine (HSE1.out w8 _ H1.out.2).mono ?_;rintro e w9 ⟨rfl,rfl⟩);exact⟨⟨k+1,Sk,ar++[2],HLT.out,by rw[List.length_append,HINV.out.1];rfl,rfl,by rw[HPN.out],HINV.out.2.1,HINV.out.2.2.1,by rw[HINV.out.2.2.2,HPN.out,show m - k=(m - (k+1))+1 by have:=HLT.out;omega,HSK.out],H1.out.1,H1.out.2⟩,by have:=HLT.out;simp only[intOf];omega⟩
      case pos =>
       have hsk:st k=true:=by rw[HST.out];exact decide_eq_true hst
       have HPN:=zh (show zbK st (ar++[2]) (k+1)=zbK st ar k++[(k,2)] from by rw[HPS.out,hsk,if_pos rfl]);rw[hst] at HSE1;have HS1:=zh (show Sk.state k=1 from by rw[HINV.out.2.1];exact hst);clear hst hsk;go_upto_region 22 with (go_at_call 41;refine (HSE1.out w8 _ H1.out.2).mono ?_;rintro e w9 ⟨rfl,rfl⟩)
       obtain⟨q0,q1,q2,q3⟩:=HCL.out w8 (zad RS p Sk*zaf 3 1 v8 (k+1) ((ar++[2]).map fun a=>.int .i64 a)) (by rw[zax];exact H1.out.2);obtain⟨⟨S7,e7⟩,hwk⟩:∃ r,zbH Sk (k:Int) 2 ⟨⟨ge,gc⟩,(sq:Int),im⟩=r:=⟨_,rfl⟩;have hwr:=zfx p Sk _ (k:Int) 2 ge gc sq im HSQ.out HPC2.out.2 (zei (c:=⟨⟨ge,gc⟩,(sq:Int),im⟩) ⟨by omega,by have:=HM64.out;have:=HLT.out;omega⟩ (.inl rfl) HGO.out HPC2.out.1) w8 H1.out.2;unfold ziM at hwr;rw[hwk] at hwr;have HW:=zh hwr;have HWS:=zh (show ∀ e:Int,S7.state e=S.state e from fun e=>by have h:=zht Sk (k:Int) 2 ⟨⟨ge,gc⟩,(sq:Int),im⟩ e;rw[hwk] at h;rw[← HINV.out.2.1];exact h)
       have HWC:=zh (show S7.cfg=S.cfg from by have h:=zd1 Sk (k:Int) 2 ⟨⟨ge,gc⟩,(sq:Int),im⟩;rw[hwk] at h;rw[← HINV.out.2.2.1];exact h);have HWK:=zh hwk;clear hwr hwk;go_upto_region 23 with (go_at_call 42;refine HW.out.mono ?_;rintro e w9 ⟨rfl,h9⟩;replace H1:=(zt H1 h9);clear h9)
       clear q0 q1 q2 q3 HW
       by_cases he7:e7=0
       case pos =>
        subst he7;go_wp2;exact⟨⟨k+1,S7,ar++[2],HLT.out,by rw[List.length_append,HINV.out.1];rfl,rfl,by rw[HPN.out,zij],HWS.out,HWC.out,by rw[HINV.out.2.2.2,HPN.out,show m - k=(m - (k+1))+1 by have:=HLT.out;omega,zdZ HS1.out (by rw[HA.out,HWK.out]),HA.out,HWK.out],H1.out.1,H1.out.2⟩,by have:=HLT.out;simp only[intOf];omega⟩
       case neg =>
        have hed:(e7 != 0)=true:=bne_iff_ne.2 he7
        have HE:=zh (show R=(S7,0,e7) from by
         rw[HR.out,HINV.out.2.2.2,show m - k=(m - (k+1))+1 by have:=HLT.out;omega,zdj HS1.out (by rw[HA.out,HWK.out];exact he7),HA.out,HWK.out,if_pos he7])
        clear he7;go_wp2;go_ret2;rw[HE.out];exact⟨rfl,H1.out.1,(H1.out.2.perm (show _=(zaf 3 1 v8 (k+1) ((ar++[2]).map fun a=>.int .i64 a)*pts cB (.cells #[ge,gc,(sq:Int),.string (zae im)] TCk (0,0)))*(zad RS p S7*F) from by ac_rfl)).right⟩
   case neg =>
    obtain rfl:k=m:=by omega
    have hltd:decide ((k:Int)<(k:Int))=false:=decide_eq_false (by omega);have HSV:=zh (show za6 ⟨⟨ge,gc⟩,(sq:Int),im⟩ S [] 0 k=(Sk,zbK st ar k,0) from by rw[HINV.out.2.2.2,Nat.sub_self];rfl);rw[HSV.out] at HR
    cases hne:zrg (zbK st ar k) with
    | false =>
     have HE:=zh (show R=(Sk,0,15) from by rw[HR.out,if_neg (by simp),if_pos (zpc hne)]);clear hne hlt hk;go_wp2_with (go_at_call 39;refine (HCF.out wr Sk _ HINV.out.2.2.1 H1.out.2).mono ?_;rintro e w5 ⟨rfl,hb⟩;replace H1:=(zd (H1.out.1.below hb) (H1.out.2.below hb));clear hb;have hfd:=HFD.out w5);go_ret2;rw[HE.out];exact⟨rfl,H1.out.1,(H1.out.2.perm (show _=(zaf 3 1 (.slice ao k cap) k (ar.map fun a=>.int .i64 a)*pts cB (.cells #[ge,gc,(sq:Int),.string (zae im)] TCk (0,0)))*(zad RS p Sk*F) from by ac_rfl)).right⟩
    | true =>
     have HE:=zh (show R=(Sk,(zkD Sk ⟨⟨ge,gc⟩,(sq:Int),im⟩ ar k:Int),0) from by
      rw[HR.out,if_neg (by simp),if_neg (zqm hne),zmL (fun j=>by rw[HST.out,HINV.out.2.1])])
     have HAL:=zh HINV.out.1;have HCG:=zh HINV.out.2.2.1;clear hne hlt hk HR HSV HINV HST;go_wp2_with (go_at_call 39;refine (HCF.out wr Sk _ HCG.out H1.out.2).mono ?_;rintro e w5 ⟨rfl,hb⟩;replace H1:=(zd (H1.out.1.below hb) (H1.out.2.below hb));clear hb;have hfd:=HFD.out w5);obtain rfl:=HAL.out
     go_loopw [8,15,16,17] (fun nv dv _ _ wr=>zr8 w p cB ⟨⟨ge,gc⟩,(sq:Int),im⟩ #[ge,gc,(sq:Int),.string (zae im)] Sk ar (.slice ao ar.length cap) F nv dv wr) (fun _ dv _ _ _=>ar.length - (intOf dv).toNat)
     case atStart=>exact⟨0,Nat.zero_le _,rfl,rfl,H1.out.1,H1.out.2⟩
     case round =>
      clear H1;obtain⟨q,hq,rfl,rfl,hsm,hs⟩:=hrel.st;clear hrel;have H1:=(zd hsm hs);clear hsm hs hfd;have hcs:=zmK Sk ⟨⟨ge,gc⟩,(sq:Int),im⟩ ar q;have hcl:=zqa Sk ⟨⟨ge,gc⟩,(sq:Int),im⟩ ar q;have HM5:=zh (show ar.length≤64 from HM64.out)
      by_cases hlt:q<ar.length
      case pos =>
       have hltd2:decide ((q:Int)<(ar.length:Int))=true:=decide_eq_true (by omega);have hltn:decide (q<ar.length)=true:=decide_eq_true hlt
       have hqi:(q:Int)≤64:=by have:=HM5.out;omega
       have hqj:(q:Int)<(ar.length:Int):=by omega
       obtain⟨a,ha⟩:∃ a,ar.getD q 0=a:=⟨_,rfl⟩
       have hca:(ar.map fun a=>Value.int .i64 a)[q]?=some (.int .i64 a):=by
        rw[List.getElem?_map,List.getElem?_eq_getElem hlt,← ha,List.getD_eq_getElem?_getD,List.getElem?_eq_getElem hlt];rfl
       rw[ha] at hcs;obtain⟨g,gcap,hv,hcell⟩:=zbd (H1.out.2.perm (show _=zaf 3 1 (.slice ao ar.length cap) ar.length (ar.map fun a=>.int .i64 a)*(zad RS p Sk*(pts cB (.cells #[ge,gc,(sq:Int),.string (zae im)] TCk (0,0))*F)) from by ac_rfl)) (by omega)
       obtain⟨rfl,rfl⟩:ao=some ⟨g,0,none⟩∧cap=gcap:=by simpa using hv
       have hqc:wr.cell? ⟨g,q,none⟩=some (.int .i64 a):=hcell q _ hca;obtain⟨⟨⟨⟨ne,nc⟩,nq,ni⟩,en⟩,hrd⟩:∃ r,zaS Sk (q:Int) a=r:=⟨_,rfl⟩;rw[hrd] at hcs
       have HRD:=zh (show ∀ (W:World) (X:zsi),Sat W (zad RS p Sk*X)→Calls prog 21 #[.pointer (some ⟨p,0,none⟩),(q:Int),a] W fun e w'=>e = .returned (.tuple #[.agg #[ne,nc,nq,.string (zae ni)],en])∧Hid (Same W w'∧Sat w' (zad RS p Sk*X)) from fun W X h=>by
        have h2:=ze1 p Sk X (q:Int) a W h;unfold zem at h2;rw[hrd] at h2
        exact h2)
       have HCS:=zh hcs;have HLT:=(zd hlt hcl);clear hcs hcl hrd hv hcell hca ha hlt hq;obtain⟨nn,hnn⟩:∃ nn,zkD Sk ⟨⟨ge,gc⟩,(sq:Int),im⟩ ar q=nn:=⟨_,rfl⟩;rw[hnn] at HCS HLT ⊢;clear hnn;go_upto_region 30 with (fail)
       go_upto_region 31 with (go_at_call 21;refine (HRD.out wr _ H1.out.2).mono ?_;rintro e w9 ⟨rfl,h9⟩;replace H1:=(zt H1 h9);clear h9);replace H1:=(zd (H1.out.1.alloc (.cells #[ne,nc,nq,.string (zae ni)] TCk)) (H1.out.2.alloc (.cells #[ne,nc,nq,.string (zae ni)] TCk)));change Code.wp _ _ _ _ (w9.alloc (.cells #[ne,nc,nq,.string (zae ni)] TCk));generalize w9.alloc (.cells #[ne,nc,nq,.string (zae ni)] TCk)=wz at H1 ⊢;generalize w9.heap.size=nB at H1 ⊢;have hwn:IntKind.i64.wrap ((nn:Int)+1)=(nn:Int)+1:=IntWalk.i64_in _ (by have:=HLT.out;omega)
       clear hqc
       by_cases hen0:en=0
       case neg =>
        have heb:(en==0)=false:=by simp[hen0]
        have HCN:=zh (show zkD Sk ⟨⟨ge,gc⟩,(sq:Int),im⟩ ar (q+1)=nn from by rw[HCS.out,if_neg (by simp[hen0])];rfl);clear hen0;go_wp2;exact⟨⟨q+1,HLT.out.1,rfl,by rw[HCN.out];try exact congrArg (Value.int .i64) (by omega),H1.out.1,H1.out.2.right⟩,by have:=HLT.out.1;simp only[intOf];omega⟩
       case pos =>
        subst hen0;obtain⟨b,hb⟩:∃ b,decide ((⟨⟨ne,nc⟩,nq,ni⟩:CkM)=⟨⟨ge,gc⟩,(sq:Int),im⟩)=b:=⟨_,rfl⟩;have HCN0:=zh (show zkD Sk ⟨⟨ge,gc⟩,(sq:Int),im⟩ ar (q+1)=nn+(if b=true then 1 else 0) from by rw[HCS.out,← hb];simp);obtain⟨⟨r0,r1,r2,r3⟩,-⟩:=zas H1.out.2;obtain⟨q0,q1,q2,q3⟩:=HCL.out wz (pts nB (.cells #[ne,nc,nq,.string (zae ni)] TCk (0,0))*(zad RS p Sk*(zaf 3 1 (.slice (some ⟨g,0,none⟩) ar.length cap) ar.length (ar.map fun a=>.int .i64 a)))) (H1.out.2.perm (by ac_rfl));refine wp_region_lit ?_;(apply zag rfl);(go_simp;first|rfl|exact⟨rfl,rfl⟩);simp only[Act.put,zq]
        (apply zag rfl);(go_simp;first|rfl|exact⟨rfl,rfl⟩);simp only[Act.put,zq];(apply zag rfl);(go_simp;first|rfl|exact⟨rfl,rfl⟩);simp only[Act.put,zq];(apply zag rfl);(go_simp;first|rfl|exact⟨rfl,rfl⟩);simp only[Act.put,zq];(apply zag rfl);(go_simp;first|rfl|exact⟨rfl,rfl⟩);simp only[Act.put,zq];refine zag (v:=.bool b) rfl (ziU zm4 rfl rfl rfl (by rw[zq8,hb])) ?_;simp only[Act.put,zq];clear hb q0 q1 q2 q3 r0 r1 r2 r3;cases b
        case false =>
         have HCN:=zh (show zkD Sk ⟨⟨ge,gc⟩,(sq:Int),im⟩ ar (q+1)=nn from HCN0.out);go_wp2;exact⟨⟨q+1,HLT.out.1,rfl,by rw[HCN.out];try exact congrArg (Value.int .i64) (by omega),H1.out.1,H1.out.2.right⟩,by have:=HLT.out.1;simp only[intOf];omega⟩
        case true =>
         have HCN:=zh (show zkD Sk ⟨⟨ge,gc⟩,(sq:Int),im⟩ ar (q+1)=nn+1 from HCN0.out);go_wp2;exact⟨⟨q+1,HLT.out.1,rfl,by rw[HCN.out];try exact congrArg (Value.int .i64) (by omega),H1.out.1,H1.out.2.right⟩,by have:=HLT.out.1;simp only[intOf];omega⟩
      case neg =>
       have hqe:q=ar.length:=by omega
       have hltd2:decide ((q:Int)<(ar.length:Int))=false:=decide_eq_false (by omega);have hltn:decide (q<ar.length)=false:=decide_eq_false hlt;have HEQ:=zh hqe;clear hqe hcs hcl hlt hq;go_wp2;go_ret2;rw[HE.out,HEQ.out];exact⟨rfl,H1.out.1,(H1.out.2.perm (show _=(zaf 3 1 (.slice ao ar.length cap) ar.length (ar.map fun a=>.int .i64 a)*pts cB (.cells #[ge,gc,(sq:Int),.string (zae im)] TCk (0,0)))*(zad RS p Sk*F) from by ac_rfl)).right⟩
end Go.Proofs.YtmcclbiaoeilkaaGreat
