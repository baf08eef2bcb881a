import Derived.Test.YtmcclbiaoeilkaaGreatQ21
set_option maxHeartbeats 4000000
set_option maxRecDepth 20000
/- Part 22 of a proof;the last part says what is proved. -/
namespace Go.Proofs.YtmcclbiaoeilkaaGreat
open Go.Proofs.Tryz Go.RowKit Go.Sl Go.ChangeMaps
abbrev ziH:TypeId:=27
def zfY (S:zsg)(d area i:Int):GenM×List UInt8×Int:=
 if (S.read ⟨d,area,i⟩).2≠0 then (g0,[],(S.read ⟨d,area,i⟩).2) else match zb5 S d area i with
  | none=>(g0,[],12)
  | some (g,p)=>(g,p,0)
theorem ziv {p:Nat}{S:zsg}{F:zsi}{w:World}(hS:Sat w (zac SH p S*F)){d:Int}(h0:0≤d)(h1:d<(S.bays.length:Int)):(S.disk d).WF:=by
 obtain⟨k,rfl⟩:=Int.eq_ofNat_of_zero_le h0;obtain⟨g,cap,q,vi,G,hs,_⟩:=zeH hS (d:=k) (by omega);exact zgJ hs.right
theorem zjV {D:zsh}(h:D.WF){i:Nat}(hi:i<D.n):(D.content i).length=64:=by
 unfold zsh.content
 cases hc:D.cache i with
 | none=>exact h.dur i hi
 | some s=>exact (h.cache i s hc).2
theorem zqx {p:Nat}{S:zsg}{F:zsi}{w:World}(hS:Sat w (zac SH p S*F)){a:zsj}(h:(S.read a).2=0):zbk a=true∧(S.read a).1.length=64:=by
 have hwf:=zaE hS;unfold zsg.read at h ⊢;split at h
 ·cases h
 rename_i hn;split at h
 ·rename_i h1;exact absurd h h1
 rename_i ha;rw[if_neg hn,if_neg ha];obtain⟨h1,h2,h3,h4,h5,h6,h7⟩:=zsg.number_lt hwf (a:=a) (by omega);obtain⟨hd0,hd1⟩:=zsg.state_in hwf h1;have hb:=hwf.bays;have hdk:=hwf.cfg.disks
 have hsz:S.cfg.size a.area≤65536:=by
  have:=hwf.cfg.log;have:=hwf.cfg.image;have:=hwf.cfg.rows;unfold zsl.size;split;omega;split;omega;split;omega;split;omega;omega
 refine⟨zcw.2 ⟨hd0,by omega,h2,h3,h4,by omega⟩,?_⟩;have hD:=ziv hS hd0 hd1;unfold zsh.read at h ⊢;split at h
 ·rename_i hh
  rw[if_pos hh];unfold zsh.has at hh;simp only[Bool.and_eq_true,decide_eq_true_eq] at hh;exact zjV hD (by omega)
 ·cases h
theorem zlv (p:Nat)(S:zsg)(F:zsi)(dB aB sB:Nat)(d area i:Int)(w:World)(hS:Sat w (zac SH p S*(pts sB (.cells #[zaB p] ziH (0,0))*(pts dB (.cells #[d] zbP (0,0))*(pts aB (.cells #[area] zbP (0,0))*F))))):
  Calls prog 76 #[i,zaB dB,zaB aB,zaB sB] w fun e w'=>e = .returned (.tuple #[.agg (zcH (zfY S d area i).1),.string (zae (zfY S d area i).2.1),.int .i64 (zfY S d area i).2.2])∧
   Hid (Same w w'∧Sat w' (zac SH p S*(pts sB (.cells #[zaB p] ziH (0,0))*(pts dB (.cells #[d] zbP (0,0))*(pts aB (.cells #[area] zbP (0,0))*F))))):=by
 obtain⟨G,hG⟩:∃ G,G=pts sB (.cells #[zaB p] ziH (0,0))*(pts dB (.cells #[d] zbP (0,0))*(pts aB (.cells #[area] zbP (0,0))*F)):=⟨_,rfl⟩;rw[← hG] at hS ⊢
 have HCL:=zh (show ∀ (W:World) (X:zsi),Sat W (X*G)→W.cell? ⟨sB,0,none⟩=some (.pointer (some ⟨p,0,none⟩))∧W.cell? ⟨dB,0,none⟩=some (.int .i64 d)∧W.cell? ⟨aB,0,none⟩=some (.int .i64 area) from fun W X h=>by
  rw[hG] at h
  exact⟨zab h.right.block 0,zab h.right.right.block 0,zab h.right.right.right.block 0⟩)
 clear hG
 have HR:=zh (show ∀ (W:World) (X:zsi),Sat W (zac SH p S*X)→Calls prog 77 #[.pointer (some ⟨p,0,none⟩),.agg (plA ⟨d,area,i⟩)] W (zjP p S X (S.read ⟨d,area,i⟩) W) from fun W X h=>zn2 p S X ⟨d,area,i⟩ W h)
 have H0:=(zd ((Same.refl w).alloc (.cells #[.int .i64 0,.int .i64 0] zam)) (hS.alloc (.cells #[.int .i64 0,.int .i64 0] zam)));have HOK:=zh (fun h=>zqx hS (a:=⟨d,area,i⟩) h);obtain⟨R,hR⟩:∃ R,zfY S d area i=R:=⟨_,rfl⟩;rw[hR]
 have hop:R=if (S.read ⟨d,area,i⟩).2≠0 then (g0,[],(S.read ⟨d,area,i⟩).2) else match zbj ⟨d,area,i⟩ (S.read ⟨d,area,i⟩).1 with
  | none=>(g0,[],12)
  | some (g,p)=>(g,p,0):=by rw[← hR];rfl
 have HOP:=zh hop;obtain⟨c1,c2,c3⟩:=HCL.out _ _ hS;have l1:sB<w.heap.size:=World.block_lt_of_cell? _ _ c1;have l2:dB<w.heap.size:=World.block_lt_of_cell? _ _ c2;have l3:aB<w.heap.size:=World.block_lt_of_cell? _ _ c3;obtain⟨rd,hrd⟩:∃ rd,S.read ⟨d,area,i⟩=rd:=⟨_,rfl⟩;rw[hrd] at HR HOK HOP;unfold zjP at HR;clear hS hR hop hrd;unfold zaB;go_enter func76,ntmps76;go_upto_region 2 with (fail)
 have hA:=(H0.out.2.alloc (.cells #[d,area,i] TPl));have hsm:=H0.out.1.alloc (.cells #[d,area,i] TPl);rw[World.size_alloc] at hA;clear c1 c2 c3 l1 l2 l3 H0;generalize (w.alloc (.cells #[.int .i64 0,.int .i64 0] zam)).alloc (.cells #[d,area,i] TPl)=w1 at hA hsm ⊢;generalize w.heap.size+1=B8 at hA ⊢;generalize w.heap.size=B5 at hA ⊢;have H1:=zh (show Same w w1∧Sat w1 (zac SH p S*(pts B8 (.cells #[d,area,i] TPl (0,0))*(pts B5 (.cells #[.int .i64 0,.int .i64 0] zam (0,0))*G))) from⟨hsm,hA.perm (by ac_rfl)⟩)
 clear hA hsm
 have HC2:=zh (show ∀ (W:World),Sat W (zac SH p S*(pts B8 (.cells #[d,area,i] TPl (0,0))*(pts B5 (.cells #[.int .i64 0,.int .i64 0] zam (0,0))*G)))→W.cell? ⟨sB,0,none⟩=some (.pointer (some ⟨p,0,none⟩))∧(W.cell? ⟨B8,0,none⟩=some (.int .i64 d)∧W.cell? ⟨B8,1,none⟩=some (.int .i64 area)∧W.cell? ⟨B8,2,none⟩=some (.int .i64 i))∧(W.cell? ⟨B5,0,none⟩=some (.int .i64 0)∧W.cell? ⟨B5,1,none⟩=some (.int .i64 0)∧W.frozen? ⟨B5,0,none⟩=false∧W.frozen? ⟨B5,1,none⟩=false) from fun W h=>by
  have h2:=h.right;have h3:=h.right.right
  exact⟨(HCL.out W (zac SH p S*(pts B8 (.cells #[d,area,i] TPl (0,0))*pts B5 (.cells #[.int .i64 0,.int .i64 0] zam (0,0)))) (h.perm (by ac_rfl))).1,⟨zab h2.block 0,zab h2.block 1,zab h2.block 2⟩,zab h3.block 0,zab h3.block 1,zaj h3.block 0,zaj h3.block 1⟩)
 obtain⟨d0,⟨q0,q1,q2⟩,g0',g1',f0,f1⟩:=HC2.out w1 H1.out.2;obtain⟨s,er⟩:=rd
 have HFIN:=zh (show ∀ (W:World) (x y:Int),Same w W→Sat W (zac SH p S*(pts B8 (.cells #[d,area,i] TPl (0,0))*(pts B5 (.cells #[x,y] zam (0,0))*G)))→Same w W∧Sat W (zac SH p S*G) from fun W x y h1 h2=>⟨h1,(h2.perm (show _=(pts B8 (.cells #[d,area,i] TPl (0,0))*pts B5 (.cells #[x,y] zam (0,0)))*(zac SH p S*G) from by ac_rfl)).right⟩)
 by_cases he:er=0
 case neg =>
  have hed:(er != 0)=true:=bne_iff_ne.2 he
  have hR:R=(g0,[],er):=by rw[HOP.out];exact if_pos he
  clear he HOK HOP;go_wp2_with (go_at_call 77;refine (HR.out w1 _ H1.out.2).mono ?_;rintro e w2 ⟨rfl,hm2,hs2⟩;replace H1:=(zd (H1.out.1.trans hm2) hs2);clear d0 q0 q1 q2 g0' g1' f0 f1;obtain⟨d0,⟨q0,q1,q2⟩,g0',g1',f0,f1⟩:=HC2.out _ hs2;clear hm2 hs2)
  have H2:=zh (show Same w ((w2.setCell ⟨B5,0,none⟩ (.int .i64 0)).setCell ⟨B5,1,none⟩ (.int .i64 0))∧Sat ((w2.setCell ⟨B5,0,none⟩ (.int .i64 0)).setCell ⟨B5,1,none⟩ (.int .i64 0)) (pts B5 (.cells #[.int .i64 0,.int .i64 0] zam (0,0))*(zac SH p S*(pts B8 (.cells #[d,area,i] TPl (0,0))*G))) from⟨(H1.out.1.setCell _ _).setCell _ _,((H1.out.2.perm (show _=pts B5 (.cells #[.int .i64 0,.int .i64 0] zam (0,0))*(zac SH p S*(pts B8 (.cells #[d,area,i] TPl (0,0))*G)) from by ac_rfl)).setCell (i:=0) (.int .i64 0)).setCell (i:=1) (.int .i64 0)⟩)
  refine bodyPost_ret (v:=.tuple #[.agg #[.int .i64 0,.int .i64 0],.string (zae []),er]) (zaz results76 (ResIs.row rfl H2.out.2.block underlying42 rfl (za1 rfl)) (.tmp rfl) (.tmp rfl)) rfl ?_;exact⟨by rw[hR];try rfl,HFIN.out _ 0 0 H2.out.1 (H2.out.2.perm (by ac_rfl))⟩
 case pos =>
  subst he;have hed:((0:Int) != 0)=false:=rfl;obtain⟨ha,hl⟩:=HOK.out rfl;simp only at hl
  have hR0:R=match zbj ⟨d,area,i⟩ s with
   | none=>(g0,[],12)
   | some (g,p)=>(g,p,0):=by rw[HOP.out];exact if_neg (by simp)
  have HO:=zh (show ∀ (W:World) (X:zsi),Sat W X→_ from fun W X h=>zpf ⟨d,area,i⟩ s ha hl X W h);clear HOK HOP hl
  cases hop:zbj ⟨d,area,i⟩ s with
  | none =>
   have hR:R=(g0,[],12):=by rw[hR0,hop]
   rw[hop] at HO;clear hR0 hop
   go_wp2_with (first
    | (go_at_call 77;refine (HR.out w1 _ H1.out.2).mono ?_;rintro e w2 ⟨rfl,hm2,hs2⟩;replace H1:=(zd (H1.out.1.trans hm2) hs2);clear d0 q0 q1 q2 g0' g1' f0 f1;obtain⟨d0,⟨q0,q1,q2⟩,g0',g1',f0,f1⟩:=HC2.out _ hs2;clear hm2 hs2)
    | (go_at_call 78;refine (HO.out w2 _ H1.out.2).mono ?_;rintro e w3 ⟨k,hk,rfl,h3⟩;have hk0:(k != 0)=true:=bne_iff_ne.2 (fun h=>nomatch hk.1 h);replace H1:=(zt H1 h3);clear d0 q0 q1 q2 g0' g1' f0 f1;obtain⟨d0,⟨q0,q1,q2⟩,g0',g1',f0,f1⟩:=HC2.out _ h3.out.2;have lb:=World.block_lt_of_cell? _ _ g0';unfold zjd zbr;clear h3 hk))
   have H2:=zh (show Same w ((w3.setCell ⟨B5,0,none⟩ (.int .i64 0)).setCell ⟨B5,1,none⟩ (.int .i64 0))∧Sat ((w3.setCell ⟨B5,0,none⟩ (.int .i64 0)).setCell ⟨B5,1,none⟩ (.int .i64 0)) (pts B5 (.cells #[.int .i64 0,.int .i64 0] zam (0,0))*(zac SH p S*(pts B8 (.cells #[d,area,i] TPl (0,0))*G))) from⟨(H1.out.1.setCell _ _).setCell _ _,((H1.out.2.perm (show _=pts B5 (.cells #[.int .i64 0,.int .i64 0] zam (0,0))*(zac SH p S*(pts B8 (.cells #[d,area,i] TPl (0,0))*G)) from by ac_rfl)).setCell (i:=0) (.int .i64 0)).setCell (i:=1) (.int .i64 0)⟩)
   replace H2:=(zd (H2.out.1.alloc (.cells #[.int .i64 0,.int .i64 0] zam)) (H2.out.2.allocKeep (.cells #[.int .i64 0,.int .i64 0] zam)));refine bodyPost_ret (v:=.tuple #[.agg #[.int .i64 0,.int .i64 0],.string (zae []),.int .i64 12]) (zaz results76 (ResIs.row rfl H2.out.2.block underlying42 rfl (za1 rfl)) (.tmp rfl) (.tmp rfl)) rfl ?_;exact⟨by rw[hR];try rfl,HFIN.out _ 0 0 H2.out.1 (H2.out.2.perm (by ac_rfl))⟩
  | some gp =>
   obtain⟨⟨ge,gc⟩,pl⟩:=gp
   have hR:R=(⟨ge,gc⟩,pl,0):=by rw[hR0,hop]
   rw[hop] at HO;clear hR0 hop
   go_wp2_with (first
    | (go_at_call 77;refine (HR.out w1 _ H1.out.2).mono ?_;rintro e w2 ⟨rfl,hm2,hs2⟩;replace H1:=(zd (H1.out.1.trans hm2) hs2);clear d0 q0 q1 q2 g0' g1' f0 f1;obtain⟨d0,⟨q0,q1,q2⟩,g0',g1',f0,f1⟩:=HC2.out _ hs2;clear hm2 hs2)
    | (go_at_call 78;refine (HO.out w2 _ H1.out.2).mono ?_;rintro e w3 ⟨k,hk,rfl,h3⟩;obtain rfl:k=0:=(by simpa using hk);replace H1:=(zt H1 h3);clear d0 q0 q1 q2 g0' g1' f0 f1;obtain⟨d0,⟨q0,q1,q2⟩,g0',g1',f0,f1⟩:=HC2.out _ h3.out.2;have lb:=World.block_lt_of_cell? _ _ g0';unfold zjd;clear h3 hk))
   have H2:=zh (show Same w ((w3.setCell ⟨B5,0,none⟩ (.int .i64 ge)).setCell ⟨B5,1,none⟩ (.int .i64 gc))∧Sat ((w3.setCell ⟨B5,0,none⟩ (.int .i64 ge)).setCell ⟨B5,1,none⟩ (.int .i64 gc)) (pts B5 (.cells #[ge,gc] zam (0,0))*(zac SH p S*(pts B8 (.cells #[d,area,i] TPl (0,0))*G))) from⟨(H1.out.1.setCell _ _).setCell _ _,((H1.out.2.perm (show _=pts B5 (.cells #[.int .i64 0,.int .i64 0] zam (0,0))*(zac SH p S*(pts B8 (.cells #[d,area,i] TPl (0,0))*G)) from by ac_rfl)).setCell (i:=0) (.int .i64 ge)).setCell (i:=1) (.int .i64 gc)⟩)
   replace H2:=(zd (H2.out.1.alloc (.cells #[ge,gc] zam)) (H2.out.2.allocKeep (.cells #[ge,gc] zam)));refine bodyPost_ret (v:=.tuple #[.agg #[ge,gc],.string (zae pl),.int .i64 0]) (zaz results76 (ResIs.row rfl H2.out.2.block underlying42 rfl (za1 rfl)) (.tmp rfl) (.tmp rfl)) rfl ?_;exact⟨by rw[hR];try rfl,HFIN.out _ ge gc H2.out.1 (H2.out.2.perm (by ac_rfl))⟩
end Go.Proofs.YtmcclbiaoeilkaaGreat
