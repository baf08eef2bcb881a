import Derived.Test.YtmcclbiaoeilkaaGreatQ23
import Derived.Test.YtmcclbiaoeilkaaGreatQ33
set_option maxHeartbeats 2000000
set_option maxRecDepth 20000
/- Part 34 of a proof;the last part says what is proved. -/
namespace Go.Proofs.YtmcclbiaoeilkaaGreat
open Go.Proofs.Tryz Go.RowKit Go.Sl Go.ChangeMaps
theorem zfI {w w0:World}{E:Nat}{g h:Int}{W:zsi}(hm:Same w0 w)(hs:Sat w (pts E (.cells zbr zam (0,0))*W)):
  Same w0 ((w.setCell ⟨E,0,none⟩ (.int .i64 g)).setCell ⟨E,1,none⟩ (.int .i64 h))∧Sat ((w.setCell ⟨E,0,none⟩ (.int .i64 g)).setCell ⟨E,1,none⟩ (.int .i64 h)) (pts E (.cells #[g,h] zam (0,0))*W):=
 ⟨(hm.setCell _ _).setCell _ _,(hs.setCell (i:=0) (.int .i64 g)).setCell (i:=1) (.int .i64 h)⟩
theorem zf6 {w:World}{B:Nat}{a:zsj}{X:zsi}(h:Sat w (pts B (.cells (plA a) TPl (0,0))*X)):w.cell? ⟨B,0,none⟩=some (.int .i64 a.disk)∧w.cell? ⟨B,1,none⟩=some (.int .i64 a.area)∧w.cell? ⟨B,2,none⟩=some (.int .i64 a.index)∧B<w.heap.size:=
 ⟨zab h.block 0,zab h.block 1,zab h.block 2,h.lt⟩
theorem zfH {w:World}{E:Nat}{W:zsi}(hs:Sat w (pts E (.cells zbr zam (0,0))*W)):(w.cell? ⟨E,0,none⟩=some (.int .i64 0)∧w.cell? ⟨E,1,none⟩=some (.int .i64 0))∧w.frozen? ⟨E,0,none⟩=false∧w.frozen? ⟨E,1,none⟩=false:=
 ⟨⟨zab hs.block 0,zab hs.block 1⟩,zaj hs.block 0,zaj hs.block 1⟩
theorem zj1 (s:List UInt8)(hs:s.length≠64)(F:zsi)(w:World)(hF:Sat w F):
  Calls prog 82 #[.string (zae s)] w fun e w'=>e = .returned (.tuple #[.agg #[.int .i64 0,.int .i64 0,.int .i64 0],.agg #[.int .i64 0,.int .i64 0],.int .i64 1])∧Hid (Same w w'∧Sat w' F):=by
 have hsz:(zae s).size=s.length:=zap s;have hne:((s.length:Int) != 64)=true:=bne_iff_ne.2 (by omega);have H1:=(zd (((Same.refl w).alloc (.cells zPl TPl)).alloc (.cells zbr zam)) (((hF.alloc (.cells zPl TPl)).alloc (.cells zbr zam)).perm (show _=pts w.heap.size (.cells zPl TPl (0,0))*(pts (w.alloc (.cells zPl TPl)).heap.size (.cells zbr zam (0,0))*F) from by ac_rfl)));rw[World.size_alloc] at H1;clear hF hs;go_enter func82,ntmps82
 go_upto_region 1 with (first
  | ((with_reducible (refine zai ?_ TPl ?_ _ (zjK _) ?_));rfl;rfl)
  | ((with_reducible (refine zai ?_ zam ?_ _ (zcT _) ?_));rfl;rfl))
 generalize (w.alloc (.cells zPl TPl)).alloc (.cells zbr zam)=w1 at H1 ⊢;generalize w.heap.size=B at H1 ⊢;obtain⟨⟨b0,b1,b2,b3,b4'⟩,f0,f1,f2,f3,f4⟩:=zcE H1.out.2;go_wp2;replace H1:=zh (zcF H1.out.1 H1.out.2);refine bodyPost_ret (v:=.tuple #[.agg zPl,.agg zbr,.int .i64 1]) (zaz results82 (ResIs.row rfl H1.out.2.block underlying37 rfl (zdl rfl)) (ResIs.row rfl H1.out.2.right.block underlying42 rfl (za1 rfl)) (.tmp rfl)) rfl ?_;exact⟨rfl,H1.out.1,H1.out.2.right.right⟩
theorem zlW (a:zsj)(s:List UInt8)(ha:zbk a=true)(hs:s.length≠64)(F:zsi)(w:World)(hF:Sat w F):
  Calls prog 125 #[.agg (plA a),.string (zae s)] w fun e w'=>e = .returned (.tuple #[.agg zbr,.string (zae []),.int .i64 1])∧Hid (Same w w'∧Sat w' F):=by
 have hva:=fun W=>zcR a W
 rw[ha] at hva;have HVA:=zh hva;have HLB:=zh (fun (F':zsi) (W:World) (h:Sat W F')=>zj1 s hs F' W h);have H1:=(zd (((Same.refl w).alloc (.cells (plA a) TPl)).alloc (.cells zbr zam)) (((hF.alloc (.cells (plA a) TPl)).alloc (.cells zbr zam)).perm (show _=pts (w.alloc (.cells (plA a) TPl)).heap.size (.cells zbr zam (0,0))*(pts w.heap.size (.cells (plA a) TPl (0,0))*F) from by ac_rfl)));rw[World.size_alloc] at H1;clear hva hF hs ha;go_enter func125,ntmps125;go_upto_region 1 with ((with_reducible (refine zai ?_ zam ?_ _ (zcT _) ?_));rfl;rfl)
 generalize (w.alloc (.cells (plA a) TPl)).alloc (.cells zbr zam)=w1 at H1 ⊢;generalize w.heap.size=B at H1 ⊢;obtain⟨b0,b1,b2,bl⟩:=zf6 H1.out.2.right
 go_upto_region 5 with (first
  | (go_at_call 129;refine (HVA.out _).mono ?_;rintro e w2 ⟨rfl,hb⟩;replace H1:=(zd (H1.out.1.below hb) (H1.out.2.below hb));clear b0 b1 b2 bl hb)
  | (go_at_call 82;refine (HLB.out _ _ H1.out.2).mono ?_;rintro e w3 ⟨rfl,h3⟩;replace H1:=(zt H1 h3);clear h3))
 replace H1:=(zd ((H1.out.1.alloc (.cells #[.int .i64 0,.int .i64 0,.int .i64 0] TPl)).alloc (.cells #[.int .i64 0,.int .i64 0] zam)) ((H1.out.2.allocKeep (.cells #[.int .i64 0,.int .i64 0,.int .i64 0] TPl)).allocKeep (.cells #[.int .i64 0,.int .i64 0] zam)));generalize (w3.alloc (.cells #[.int .i64 0,.int .i64 0,.int .i64 0] TPl)).alloc (.cells #[.int .i64 0,.int .i64 0] zam)=w4 at H1 ⊢;obtain⟨⟨c0,c1⟩,f0,f1⟩:=zfH H1.out.2;go_wp2;replace H1:=zh (zfI (g:=0) (h:=0) H1.out.1 H1.out.2);refine bodyPost_ret (v:=.tuple #[.agg zbr,.string (zae []),.int .i64 1]) (zaz results125 (ResIs.row rfl H1.out.2.block underlying42 rfl (za1 rfl)) (.tmp rfl) (.tmp rfl)) rfl ?_
 exact⟨rfl,H1.out.1,H1.out.2.right.right⟩
theorem zlT (a:zsj)(s:List UInt8)(ha:zbk a=true)(F:zsi)(w:World)(hF:Sat w F):
  Calls prog 125 #[.agg (plA a),.string (zae s)] w fun e w'=>∃ k:Int,(k=0↔(zbj a s).isSome=true)∧e = .returned (.tuple #[.agg (zjd (zbj a s)).1,.string (zae (zjd (zbj a s)).2),k])∧Hid (Same w w'∧Sat w' F):=by
 by_cases hs:s.length=64
 ·exact zlU a s ha hs F w hF
 ·have e:zbj a s=none:=by unfold zbj;rw[if_neg (by rintro⟨_,h,_⟩;exact hs h)]
  rw[e]
  exact (zlW a s ha hs F w hF).mono fun _ _ h=>⟨1,by simp,h.1,h.2⟩
theorem zfA (c:zsl)(h0:1≤c.image)(h1:c.image≤65536)(w:World):
  Calls prog 23 #[.agg (za8 c)] w fun e w'=>e = .returned (.int .i64 (zda c))∧Below w.heap.size w w':=by
 have hm:max 0 (c.image - 1)=c.image - 1:=by omega
 have hc:zda c=40*(c.image - 1):=by unfold zda;omega
 have hw1:IntKind.i64.wrap (c.image - 1)=c.image - 1:=IntWalk.i64_in _ (by omega);have hw2:IntKind.i64.wrap (40*(c.image - 1))=40*(c.image - 1):=IntWalk.i64_in _ (by omega);have HB:=zh (show Below w.heap.size w (w.alloc (.cells (za8 c) zcC)) from ((Same.refl w).alloc _).below_of ((Sat.old w).alloc (.cells (za8 c) zcC)));have hd:decide (c.image<1)=false:=decide_eq_false (by omega);have HC:=zh hc;clear hm hc h0 h1;go_enter func23,ntmps23;go_wp2;go_ret;exact⟨by rw[HC.out];rfl,HB.out⟩
theorem zeO (n:Int)(w:World):Calls prog 38 #[n] w fun e w'=>e = .returned (.bool (decide (0≤n)&&decide (n<4294967296)))∧w=w':=by
 cases h1:decide (0≤n)
 ·go_enter func38,ntmps38
  go_wp2;go_ret;exact⟨rfl,rfl⟩
 ·cases h2:decide (n<4294967296)
  all_goals
   go_enter func38,ntmps38;go_wp2;go_ret;exact⟨rfl,rfl⟩
def opR (S:zsg)(d area i:Int):GenM×List UInt8×Bool:=match zb5 S d area i with
 | none=>(g0,[],false)
 | some (g,p)=>(g,p,true)
theorem znA {S:zsg}(hwf:S.WF){a:zsj}(h:(S.read a).2=0):zbk a=true:=by
 unfold zsg.read at h;split at h
 ·cases h
 rename_i hn;obtain⟨h1,h2,h3,h4,h5,h6,h7⟩:=zsg.number_lt hwf (a:=a) (by omega);obtain⟨hd0,hd1⟩:=zsg.state_in hwf h1;have hb:=hwf.bays;have hdk:=hwf.cfg.disks
 have hsz:S.cfg.size a.area≤65536:=by
  have:=hwf.cfg.log;have:=hwf.cfg.image;have:=hwf.cfg.rows;unfold zsl.size;split;omega;split;omega;split;omega;split;omega;omega
 exact zcw.2 ⟨hd0,by omega,h2,h3,h4,by omega⟩
theorem zph (a:zsj):zbj a []=none:=by unfold zbj;rw[if_neg (by rintro⟨_,h,_⟩;cases h)]
theorem zhR (p:Nat)(S:zsg)(F:zsi)(d area i:Int)(w:World)(hS:Sat w (zad RS p S*F)):
  Calls prog 80 #[.pointer (some ⟨p,0,none⟩),.agg (plA ⟨d,area,i⟩)] w fun e w'=>e = .returned (.tuple #[.agg (zcH (opR S d area i).1),.string (zae (opR S d area i).2.1),.bool (opR S d area i).2.2])∧Hid (Same w w'∧Sat w' (zad RS p S*F)):=by
 have hwf:=zbm hS;have HPL:=zh (fun h=>znA hwf (a:=⟨d,area,i⟩) h)
 have HRD:=zh (show ∀ (W:World) (X:zsi),Sat W (zad RS p S*X)→Calls prog 57 #[.pointer (some ⟨p,0,none⟩),.agg (plA ⟨d,area,i⟩)] W fun e w'=>e = .returned (.tuple #[.string (zae (S.read ⟨d,area,i⟩).1),.int .i64 (S.read ⟨d,area,i⟩).2])∧Hid (Same W w'∧Sat w' (zad RS p S*X)) from fun W X h=>zef p S X ⟨d,area,i⟩ W h)
 have HNL:=zh (fun h=>zk3 (S:=S) (a:=⟨d,area,i⟩) h);have HOP:=zh (show opR S d area i=match zbj ⟨d,area,i⟩ (S.read ⟨d,area,i⟩).1 with|none=>(g0,[],false)|some (g,p)=>(g,p,true) from rfl);generalize opR S d area i=R at HOP ⊢;generalize S.read ⟨d,area,i⟩=rd at HPL HRD HNL HOP;obtain⟨s,er⟩:=rd;simp only at HPL HRD HNL HOP;have H1:=(zd (((Same.refl w).alloc (.cells (plA ⟨d,area,i⟩) TPl)).alloc (.cells zbr zam)) (((hS.alloc (.cells (plA ⟨d,area,i⟩) TPl)).alloc (.cells zbr zam)).perm (show _=zad RS p S*(pts (w.alloc (.cells (plA ⟨d,area,i⟩) TPl)).heap.size (.cells zbr zam (0,0))*(pts w.heap.size (.cells (plA ⟨d,area,i⟩) TPl (0,0))*F)) from by ac_rfl)))
 rw[World.size_alloc] at H1;clear hS hwf;go_enter func80,ntmps80;go_upto_region 1 with ((with_reducible (refine zai ?_ zam ?_ _ (zcT _) ?_));rfl;rfl)
 generalize (w.alloc (.cells (plA ⟨d,area,i⟩) TPl)).alloc (.cells zbr zam)=w1 at H1 ⊢;generalize w.heap.size=B at H1 ⊢;obtain⟨b0,b1,b2,bl⟩:=zf6 H1.out.2.right.right;go_upto_region 2 with (go_at_call 57;refine (HRD.out _ _ H1.out.2).mono ?_;rintro e w2 ⟨rfl,h2⟩;replace H1:=(zt H1 h2);clear h2 b0 b1 b2 bl)
 by_cases he:er=0
 case neg =>
  have hne:(er != 0)=true:=bne_iff_ne.2 he;have HR:=zh (show R=(g0,[],false) from by rw[HOP.out,HNL.out he,zph]);obtain⟨⟨c0,c1⟩,f0,f1⟩:=zfH H1.out.2.right;clear he;go_wp2;replace H1:=zh (zfI (g:=0) (h:=0) H1.out.1 (H1.out.2.perm (show _=pts (B+1) (.cells zbr zam (0,0))*(pts B (.cells (plA ⟨d,area,i⟩) TPl (0,0))*(zad RS p S*F)) from by ac_rfl)));refine bodyPost_ret (v:=.tuple #[.agg zbr,.string (zae []),.bool false]) (zaz results80 (ResIs.row rfl H1.out.2.block underlying42 rfl (za1 rfl)) (.tmp rfl) (.tmp rfl)) rfl ?_
  exact⟨by rw[HR.out];rfl,H1.out.1,H1.out.2.right.right⟩
 case pos =>
  subst he;have HO:=zh (fun (W:World) (X:zsi) (h:Sat W X)=>zlT ⟨d,area,i⟩ s (HPL.out rfl) X W h);generalize zbj ⟨d,area,i⟩ s=om at HO HOP;obtain⟨b0,b1,b2,bl⟩:=zf6 H1.out.2.right.right
  cases om with
  | none =>
   have HR:=zh (show R=(g0,[],false) from HOP.out)
   have HO1:=zh (show ∀ (W:World) (X:zsi),Sat W X→Calls prog 125 #[.agg (plA ⟨d,area,i⟩),.string (zae s)] W fun e w'=>∃ k:Int,(k != 0)=true∧e = .returned (.tuple #[.agg #[.int .i64 0,.int .i64 0],.string (zae []),k])∧Hid (Same W w'∧Sat w' X) from fun W X h=>(HO.out W X h).mono fun e w' ⟨k,hk,h2,h3⟩=>⟨k,bne_iff_ne.2 fun h=>by simpa using hk.1 h,h2,h3⟩)
   clear HO;go_upto_region 5 with (go_at_call 125;refine (HO1.out _ _ H1.out.2).mono ?_;rintro e w3 ⟨k,hk,rfl,h2⟩;replace H1:=(zt H1 h2);clear h2 b0 b1 b2 bl)
   replace H1:=(zd (H1.out.1.alloc (.cells #[.int .i64 0,.int .i64 0] zam)) ((H1.out.2.alloc (.cells #[.int .i64 0,.int .i64 0] zam)).perm (show _=pts (B+1) (.cells zbr zam (0,0))*(pts w3.heap.size (.cells #[.int .i64 0,.int .i64 0] zam (0,0))*(pts B (.cells (plA ⟨d,area,i⟩) TPl (0,0))*(zad RS p S*F))) from by ac_rfl)));generalize w3.alloc (.cells #[.int .i64 0,.int .i64 0] zam)=w4 at H1 ⊢;generalize w3.heap.size=C at H1 ⊢;obtain⟨⟨c0,c1⟩,f0,f1⟩:=zfH H1.out.2;have d0:w4.cell? ⟨C,0,none⟩=_:=zab H1.out.2.right.block 0
   have d1:w4.cell? ⟨C,1,none⟩=_:=zab H1.out.2.right.block 1
   have hke:(k==0)=false:=by cases hb:(k==0) with|false=>rfl|true=>rw[bne,hb] at hk;cases hk
   go_wp2;replace H1:=zh (zfI (g:= 0) (h:= 0) H1.out.1 H1.out.2);refine bodyPost_ret (v:=.tuple #[.agg #[.int .i64 0,.int .i64 0],.string (zae []),.bool false]) (zaz results80 (ResIs.row rfl H1.out.2.block underlying42 rfl (za1 rfl)) (.tmp rfl) (.tmp rfl)) rfl ?_;exact⟨by rw[HR.out];rfl,H1.out.1,H1.out.2.right.right.right⟩
  | some gp =>
   obtain⟨⟨ge,gc⟩,pl⟩:=gp;have HR:=zh (show R=(⟨ge,gc⟩,pl,true) from HOP.out)
   have HO2:=zh (show ∀ (W:World) (X:zsi),Sat W X→Calls prog 125 #[.agg (plA ⟨d,area,i⟩),.string (zae s)] W fun e w'=>e = .returned (.tuple #[.agg #[ge,gc],.string (zae pl),.int .i64 0])∧Hid (Same W w'∧Sat w' X) from fun W X h=>(HO.out W X h).mono fun e w' ⟨k,hk,h2,h3⟩=>⟨by have h9:k=0:=hk.2 rfl;rw[h9] at h2;exact h2,h3⟩)
   clear HO;go_upto_region 5 with (go_at_call 125;refine (HO2.out _ _ H1.out.2).mono ?_;rintro e w3 ⟨rfl,h2⟩;replace H1:=(zt H1 h2);clear h2 b0 b1 b2 bl)
   replace H1:=(zd (H1.out.1.alloc (.cells #[ge,gc] zam)) ((H1.out.2.alloc (.cells #[ge,gc] zam)).perm (show _=pts (B+1) (.cells zbr zam (0,0))*(pts w3.heap.size (.cells #[ge,gc] zam (0,0))*(pts B (.cells (plA ⟨d,area,i⟩) TPl (0,0))*(zad RS p S*F))) from by ac_rfl)));generalize w3.alloc (.cells #[ge,gc] zam)=w4 at H1 ⊢;generalize w3.heap.size=C at H1 ⊢;obtain⟨⟨c0,c1⟩,f0,f1⟩:=zfH H1.out.2;have d0:w4.cell? ⟨C,0,none⟩=_:=zab H1.out.2.right.block 0;have d1:w4.cell? ⟨C,1,none⟩=_:=zab H1.out.2.right.block 1
   go_wp2;replace H1:=zh (zfI (g:= ge) (h:= gc) H1.out.1 H1.out.2);refine bodyPost_ret (v:=.tuple #[.agg #[ge,gc],.string (zae pl),.bool true]) (zaz results80 (ResIs.row rfl H1.out.2.block underlying42 rfl (za1 rfl)) (.tmp rfl) (.tmp rfl)) rfl ?_;exact⟨by rw[HR.out],H1.out.1,H1.out.2.right.right.right⟩
end Go.Proofs.YtmcclbiaoeilkaaGreat
