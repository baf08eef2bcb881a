import Derived.Test.YtmcclbiaoeilkaaGreatQ40
set_option maxHeartbeats 4000000
set_option maxRecDepth 20000
/- Part 42 of a proof;the last part says what is proved. -/
namespace Go.Proofs.YtmcclbiaoeilkaaGreat
open Go.Proofs.Tryz Go.RowKit Go.Sl Go.ChangeMaps
def zff (p:Nat)(F:zsi)(r:zsg×Int×Int)(w:World)(e:Ending)(w':World):Prop:=e = .returned (.tuple #[r.2.1,r.2.2])∧Hid (Same w w'∧Sat w' (zac SH p r.1*F))
theorem zdW (ge gc sq:Int)(im:List UInt8):zdq ⟨⟨ge,gc⟩,sq,im⟩↔(sq<0∨zcq ge=false∨zcq gc=false∨(ge=0∧gc=0)):=by
 unfold zdq zcQ zcq
 have hz:(⟨ge,gc⟩:GenM)≠g0↔¬ (ge=0∧gc=0):=by
  rw[show g0=(⟨0,0⟩:GenM) from rfl];simp
 simp only[hz,Bool.and_eq_false_iff,decide_eq_false_iff_not];omega
theorem zbO {w:World}{cB p:Nat}{S:zsg}{ge gc sq:Int}{im:List UInt8}{F:zsi}(h:Sat w (zac SH p S*(pts cB (.cells #[ge,gc,sq,.string (zae im)] TCk (0,0))*F))):w.cell? ⟨cB,0,none⟩=some (.int .i64 ge)∧w.cell? ⟨cB,1,none⟩=some (.int .i64 gc)∧w.cell? ⟨cB,2,none⟩=some (.int .i64 sq)∧w.cell? ⟨cB,3,none⟩=some (.string (zae im))∧cB<w.heap.size:=
 ⟨zab h.right.block 0,zab h.right.block 1,zab h.right.block 2,zab h.right.block 3,h.right.lt⟩
theorem zh3 {w W:World}{cB p:Nat}{S:zsg}{A:Array Value}{F:zsi}(h1:Same w W)(h2:Sat W (zac SH p S*(pts cB (.cells A TCk (0,0))*F))):Same w W∧Sat W (zac SH p S*F):=
 ⟨h1,(h2.perm (show _=pts cB (.cells A TCk (0,0))*(zac SH p S*F) from by ac_rfl)).right⟩
theorem zqD (p:Nat)(S:zsg)(F:zsi)(ge gc sq:Int)(im:List UInt8)(hs:decide (sq<0)=true)(w:World)(hS:Sat w (zac SH p S*F)):
  Calls prog 10 #[.pointer (some ⟨p,0,none⟩),.agg #[ge,gc,sq,.string (zae im)]] w (zff p F (S,0,1) w):=by
 have HWE:=zh (fun W=>zb6 ge W);have HWC:=zh (fun W=>zb6 gc W);have H1:=(zd ((Same.refl w).alloc (.cells #[ge,gc,sq,.string (zae im)] TCk)) ((hS.alloc (.cells #[ge,gc,sq,.string (zae im)] TCk)).perm (show _=zac SH p S*(pts w.heap.size (.cells #[ge,gc,sq,.string (zae im)] TCk (0,0))*F) from by ac_rfl)));clear hS;go_enter func10,ntmps10;go_upto_region 1 with (fail)
 generalize w.alloc (.cells #[ge,gc,sq,.string (zae im)] TCk)=w1 at H1 ⊢;generalize w.heap.size=cB at H1 ⊢;obtain⟨c0,c1,c2,c3,lc⟩:=zbO H1.out.2
 go_wp2_with (first
   | (go_at_call 34;(with_reducible refine (HWE.out _).mono ?_);rintro e w2 ⟨rfl,rfl⟩)
   | (go_at_call 34;(with_reducible refine (HWC.out _).mono ?_);rintro e w2 ⟨rfl,rfl⟩))
 go_ret2;exact⟨rfl,zh3 H1.out.1 H1.out.2⟩
theorem zqE (p:Nat)(S:zsg)(F:zsi)(ge gc sq:Int)(im:List UInt8)(hs:decide (sq<0)=false)(he:zcq ge=false)(w:World)(hS:Sat w (zac SH p S*F)):
  Calls prog 10 #[.pointer (some ⟨p,0,none⟩),.agg #[ge,gc,sq,.string (zae im)]] w (zff p F (S,0,1) w):=by
 have HWE:=zh (show ∀ (W:World),Calls prog 34 #[ge] W fun e w'=>e = .returned (.bool false)∧W=w' from fun W=>by rw[← he];exact zb6 ge W);have HWC:=zh (fun W=>zb6 gc W);have H1:=(zd ((Same.refl w).alloc (.cells #[ge,gc,sq,.string (zae im)] TCk)) ((hS.alloc (.cells #[ge,gc,sq,.string (zae im)] TCk)).perm (show _=zac SH p S*(pts w.heap.size (.cells #[ge,gc,sq,.string (zae im)] TCk (0,0))*F) from by ac_rfl)));clear hS;go_enter func10,ntmps10;go_upto_region 1 with (fail)
 generalize w.alloc (.cells #[ge,gc,sq,.string (zae im)] TCk)=w1 at H1 ⊢;generalize w.heap.size=cB at H1 ⊢;obtain⟨c0,c1,c2,c3,lc⟩:=zbO H1.out.2
 go_wp2_with (first
   | (go_at_call 34;(with_reducible refine (HWE.out _).mono ?_);rintro e w2 ⟨rfl,rfl⟩)
   | (go_at_call 34;(with_reducible refine (HWC.out _).mono ?_);rintro e w2 ⟨rfl,rfl⟩))
 go_ret2;exact⟨rfl,zh3 H1.out.1 H1.out.2⟩
theorem zqF (p:Nat)(S:zsg)(F:zsi)(ge gc sq:Int)(im:List UInt8)(hs:decide (sq<0)=false)(he:zcq ge=true)(hc:zcq gc=false)(w:World)(hS:Sat w (zac SH p S*F)):
  Calls prog 10 #[.pointer (some ⟨p,0,none⟩),.agg #[ge,gc,sq,.string (zae im)]] w (zff p F (S,0,1) w):=by
 have HWE:=zh (show ∀ (W:World),Calls prog 34 #[ge] W fun e w'=>e = .returned (.bool true)∧W=w' from fun W=>by rw[← he];exact zb6 ge W);have HWC:=zh (show ∀ (W:World),Calls prog 34 #[gc] W fun e w'=>e = .returned (.bool false)∧W=w' from fun W=>by rw[← hc];exact zb6 gc W);have H1:=(zd ((Same.refl w).alloc (.cells #[ge,gc,sq,.string (zae im)] TCk)) ((hS.alloc (.cells #[ge,gc,sq,.string (zae im)] TCk)).perm (show _=zac SH p S*(pts w.heap.size (.cells #[ge,gc,sq,.string (zae im)] TCk (0,0))*F) from by ac_rfl)))
 clear hS;go_enter func10,ntmps10;go_upto_region 1 with (fail)
 generalize w.alloc (.cells #[ge,gc,sq,.string (zae im)] TCk)=w1 at H1 ⊢;generalize w.heap.size=cB at H1 ⊢;obtain⟨c0,c1,c2,c3,lc⟩:=zbO H1.out.2
 go_wp2_with (first
   | (go_at_call 34;(with_reducible refine (HWE.out _).mono ?_);rintro e w2 ⟨rfl,rfl⟩)
   | (go_at_call 34;(with_reducible refine (HWC.out _).mono ?_);rintro e w2 ⟨rfl,rfl⟩))
 go_ret2;exact⟨rfl,zh3 H1.out.1 H1.out.2⟩
theorem zqG (p:Nat)(S:zsg)(F:zsi)(ge gc sq:Int)(im:List UInt8)(hs:decide (sq<0)=false)(he:zcq ge=true)(hc:zcq gc=true)(hz:(ge==0)=true)(hz2:(gc==0)=true)(w:World)(hS:Sat w (zac SH p S*F)):
  Calls prog 10 #[.pointer (some ⟨p,0,none⟩),.agg #[ge,gc,sq,.string (zae im)]] w (zff p F (S,0,1) w):=by
 have HWE:=zh (show ∀ (W:World),Calls prog 34 #[ge] W fun e w'=>e = .returned (.bool true)∧W=w' from fun W=>by rw[← he];exact zb6 ge W);have HWC:=zh (show ∀ (W:World),Calls prog 34 #[gc] W fun e w'=>e = .returned (.bool true)∧W=w' from fun W=>by rw[← hc];exact zb6 gc W);have H1:=(zd ((Same.refl w).alloc (.cells #[ge,gc,sq,.string (zae im)] TCk)) ((hS.alloc (.cells #[ge,gc,sq,.string (zae im)] TCk)).perm (show _=zac SH p S*(pts w.heap.size (.cells #[ge,gc,sq,.string (zae im)] TCk (0,0))*F) from by ac_rfl)))
 clear hS;go_enter func10,ntmps10;go_upto_region 1 with (fail)
 generalize w.alloc (.cells #[ge,gc,sq,.string (zae im)] TCk)=w1 at H1 ⊢;generalize w.heap.size=cB at H1 ⊢;obtain⟨c0,c1,c2,c3,lc⟩:=zbO H1.out.2
 go_wp2_with (first
   | (go_at_call 34;(with_reducible refine (HWE.out _).mono ?_);rintro e w2 ⟨rfl,rfl⟩)
   | (go_at_call 34;(with_reducible refine (HWC.out _).mono ?_);rintro e w2 ⟨rfl,rfl⟩))
 go_ret2;exact⟨rfl,zh3 H1.out.1 H1.out.2⟩
theorem zmf (p:Nat)(S:zsg)(F:zsi)(ge gc sq:Int)(im:List UInt8)(hs:decide (sq<0)=false)(he:zcq ge=true)(hc:zcq gc=true)(hz:(ge==0)=false∨((ge==0)=true∧(gc==0)=false))(hl:decide (zda S.cfg<(im.length:Int))=true)(w:World)(hS:Sat w (zac SH p S*F)):
  Calls prog 10 #[.pointer (some ⟨p,0,none⟩),.agg #[ge,gc,sq,.string (zae im)]] w (zff p F (S,0,2) w):=by
 have HWE:=zh (show ∀ (W:World),Calls prog 34 #[ge] W fun e w'=>e = .returned (.bool true)∧W=w' from fun W=>by rw[← he];exact zb6 ge W);have HWC:=zh (show ∀ (W:World),Calls prog 34 #[gc] W fun e w'=>e = .returned (.bool true)∧W=w' from fun W=>by rw[← hc];exact zb6 gc W);have hwf:=zaE hS;obtain⟨mx,hmx⟩:∃ mx,zda S.cfg=mx:=⟨_,rfl⟩;rw[hmx] at hl;have hci:=hwf.cfg.image
 have HCFG:=zh (show ∀ (W:World) (X:zsi),Sat W (zac SH p S*X)→Calls prog 26 #[.pointer (some ⟨p,0,none⟩)] W fun e w'=>e = .returned (.agg (za8 S.cfg))∧Below W.heap.size W w' from fun W X h=>zcM p S X W h)
 have HCAP:=zh (show ∀ (W:World),Calls prog 22 #[.agg (za8 S.cfg)] W fun e w'=>e = .returned (.int .i64 mx)∧Below W.heap.size W w' from fun W=>by rw[← hmx];exact zdM S.cfg hci.1 hci.2 W);clear hci hmx hwf;have hsz:(zae im).size=im.length:=zap im;have H1:=(zd ((Same.refl w).alloc (.cells #[ge,gc,sq,.string (zae im)] TCk)) ((hS.alloc (.cells #[ge,gc,sq,.string (zae im)] TCk)).perm (show _=zac SH p S*(pts w.heap.size (.cells #[ge,gc,sq,.string (zae im)] TCk (0,0))*F) from by ac_rfl)));clear hS;go_enter func10,ntmps10
 go_upto_region 1 with (fail);generalize w.alloc (.cells #[ge,gc,sq,.string (zae im)] TCk)=w1 at H1 ⊢;generalize w.heap.size=cB at H1 ⊢;obtain⟨c0,c1,c2,c3,lc⟩:=zbO H1.out.2;rcases hz with hz|⟨hz,hz2⟩
 all_goals
  go_upto_region 3 with (first
   | (go_at_call 34;(with_reducible refine (HWE.out _).mono ?_);rintro e w2 ⟨rfl,rfl⟩)
   | (go_at_call 34;(with_reducible refine (HWC.out _).mono ?_);rintro e w2 ⟨rfl,rfl⟩))
  refine zah (fun w'=>w'.cell? ⟨cB,3,none⟩=some (.string (zae im))) (by kernel_rfl) ?_
  replace H1:=(zd H1.out.1.drew H1.out.2.drew);generalize w1.drew=w2 at H1 ⊢;clear c0 c1 c2 c3 lc HWE HWC;have hS0:=(zbO H1.out.2).2.2.2.1;(apply zaa 0 rfl rfl (by kernel_rfl) rfl);(intro w' h3';go_simp;rfl);exact hS0;simp only[zq];(apply zaa 1 rfl rfl (by kernel_rfl) rfl);(intro w' h3';go_simp;rfl);exact hS0;simp only[zq];(apply zaa 2 rfl rfl (by kernel_rfl) rfl);(intro w' h3';go_simp;rfl);exact hS0;simp only[zq];(apply zaa 3 rfl rfl (by kernel_rfl) rfl);(intro w' h3';go_simp;rfl);exact hS0;simp only[zq]
  refine zan 4 rfl rfl (by kernel_rfl) rfl (f:=26) (args:=#[.pointer (some ⟨p,0,none⟩)]) (R:=fun v w'=>v = .agg (za8 S.cfg)∧Hid (Below w2.heap.size w2 w')) (by kernel_rfl) ((HCFG.out w2 _ H1.out.2).mono fun e w' h=>⟨_,h.1,rfl,h.2⟩) ?_;rintro _ w3 ⟨rfl,hb⟩;replace H1:=(zd (H1.out.1.below hb.out) (H1.out.2.below hb.out));replace hS0:=(zbO H1.out.2).2.2.2.1;refine⟨hS0,?_⟩;simp only[zq];refine zan 5 rfl rfl (by kernel_rfl) rfl (f:=22) (args:=#[.agg (za8 S.cfg)]) (R:=fun v w'=>v = .int .i64 mx∧Hid (Below w3.heap.size w3 w')) (by kernel_rfl) ((HCAP.out w3).mono fun e w' h=>⟨_,h.1,rfl,h.2⟩) ?_
  rintro _ w4 ⟨rfl,hb2⟩;replace H1:=(zd (H1.out.1.below hb2.out) (H1.out.2.below hb2.out));replace hS0:=(zbO H1.out.2).2.2.2.1;refine⟨hS0,?_⟩;simp only[zq];(apply zaa 6 rfl rfl (by kernel_rfl) rfl);(intro w' _;go_simp;rfl);exact hS0;simp only[zq];(apply zaa 7 rfl rfl (by kernel_rfl) rfl);(intro w' _;go_simp;rfl);exact hS0;simp only[zq];refine zar (by kernel_rfl) ?_;clear hS0 hb hb2 HCAP;go_wp2;go_ret2;exact⟨rfl,zh3 H1.out.1 H1.out.2⟩
theorem zpy (p:Nat)(S:zsg)(F:zsi)(ge gc sq:Int)(im:List UInt8)(hs:decide (sq<0)=false)(he:zcq ge=true)(hc:zcq gc=true)(hz:(ge==0)=false∨((ge==0)=true∧(gc==0)=false))(hl:decide (zda S.cfg<(im.length:Int))=false)(hoff:S.off=true)(w:World)(hS:Sat w (zac SH p S*F)):
  Calls prog 10 #[.pointer (some ⟨p,0,none⟩),.agg #[ge,gc,sq,.string (zae im)]] w (zff p F (S,0,14) w):=by
 have HWE:=zh (show ∀ (W:World),Calls prog 34 #[ge] W fun e w'=>e = .returned (.bool true)∧W=w' from fun W=>by rw[← he];exact zb6 ge W);have HWC:=zh (show ∀ (W:World),Calls prog 34 #[gc] W fun e w'=>e = .returned (.bool true)∧W=w' from fun W=>by rw[← hc];exact zb6 gc W);have hwf:=zaE hS;obtain⟨mx,hmx⟩:∃ mx,zda S.cfg=mx:=⟨_,rfl⟩;rw[hmx] at hl;have hci:=hwf.cfg.image
 have HCFG:=zh (show ∀ (W:World) (X:zsi),Sat W (zac SH p S*X)→Calls prog 26 #[.pointer (some ⟨p,0,none⟩)] W fun e w'=>e = .returned (.agg (za8 S.cfg))∧Below W.heap.size W w' from fun W X h=>zcM p S X W h)
 have HCAP:=zh (show ∀ (W:World),Calls prog 22 #[.agg (za8 S.cfg)] W fun e w'=>e = .returned (.int .i64 mx)∧Below W.heap.size W w' from fun W=>by rw[← hmx];exact zdM S.cfg hci.1 hci.2 W);clear hci hmx hwf;have hsz:(zae im).size=im.length:=zap im
 have HUP:=zh (show ∀ (W:World) (X:zsi),Sat W (zac SH p S*X)→Calls prog 35 #[.pointer (some ⟨p,0,none⟩)] W fun e w'=>e = .returned (.bool (!S.off))∧W=w' from fun W X h=>zog p S X W h)
 rw[hoff] at HUP;have H1:=(zd ((Same.refl w).alloc (.cells #[ge,gc,sq,.string (zae im)] TCk)) ((hS.alloc (.cells #[ge,gc,sq,.string (zae im)] TCk)).perm (show _=zac SH p S*(pts w.heap.size (.cells #[ge,gc,sq,.string (zae im)] TCk (0,0))*F) from by ac_rfl)));clear hS;go_enter func10,ntmps10;go_upto_region 1 with (fail)
 generalize w.alloc (.cells #[ge,gc,sq,.string (zae im)] TCk)=w1 at H1 ⊢;generalize w.heap.size=cB at H1 ⊢;obtain⟨c0,c1,c2,c3,lc⟩:=zbO H1.out.2;rcases hz with hz|⟨hz,hz2⟩
 all_goals
  go_upto_region 3 with (first
   | (go_at_call 34;(with_reducible refine (HWE.out _).mono ?_);rintro e w2 ⟨rfl,rfl⟩)
   | (go_at_call 34;(with_reducible refine (HWC.out _).mono ?_);rintro e w2 ⟨rfl,rfl⟩))
  refine zah (fun w'=>w'.cell? ⟨cB,3,none⟩=some (.string (zae im))) (by kernel_rfl) ?_
  replace H1:=(zd H1.out.1.drew H1.out.2.drew);generalize w1.drew=w2 at H1 ⊢;clear c0 c1 c2 c3 lc HWE HWC;have hS0:=(zbO H1.out.2).2.2.2.1;(apply zaa 0 rfl rfl (by kernel_rfl) rfl);(intro w' h3';go_simp;rfl);exact hS0;simp only[zq];(apply zaa 1 rfl rfl (by kernel_rfl) rfl);(intro w' h3';go_simp;rfl);exact hS0;simp only[zq];(apply zaa 2 rfl rfl (by kernel_rfl) rfl);(intro w' h3';go_simp;rfl);exact hS0;simp only[zq];(apply zaa 3 rfl rfl (by kernel_rfl) rfl);(intro w' h3';go_simp;rfl);exact hS0;simp only[zq]
  refine zan 4 rfl rfl (by kernel_rfl) rfl (f:=26) (args:=#[.pointer (some ⟨p,0,none⟩)]) (R:=fun v w'=>v = .agg (za8 S.cfg)∧Hid (Below w2.heap.size w2 w')) (by kernel_rfl) ((HCFG.out w2 _ H1.out.2).mono fun e w' h=>⟨_,h.1,rfl,h.2⟩) ?_;rintro _ w3 ⟨rfl,hb⟩;replace H1:=(zd (H1.out.1.below hb.out) (H1.out.2.below hb.out));replace hS0:=(zbO H1.out.2).2.2.2.1;refine⟨hS0,?_⟩;simp only[zq];refine zan 5 rfl rfl (by kernel_rfl) rfl (f:=22) (args:=#[.agg (za8 S.cfg)]) (R:=fun v w'=>v = .int .i64 mx∧Hid (Below w3.heap.size w3 w')) (by kernel_rfl) ((HCAP.out w3).mono fun e w' h=>⟨_,h.1,rfl,h.2⟩) ?_
  rintro _ w4 ⟨rfl,hb2⟩;replace H1:=(zd (H1.out.1.below hb2.out) (H1.out.2.below hb2.out));replace hS0:=(zbO H1.out.2).2.2.2.1;refine⟨hS0,?_⟩;simp only[zq];(apply zaa 6 rfl rfl (by kernel_rfl) rfl);(intro w' _;go_simp;rfl);exact hS0;simp only[zq];(apply zaa 7 rfl rfl (by kernel_rfl) rfl);(intro w' _;go_simp;rfl);exact hS0;simp only[zq];refine zar (by kernel_rfl) ?_;clear hS0 hb hb2 HCAP;go_wp2_with (go_at_call 35;refine (HUP.out w4 _ H1.out.2).mono ?_;rintro e w5 ⟨rfl,rfl⟩);go_ret2;exact⟨rfl,zh3 H1.out.1 H1.out.2⟩
end Go.Proofs.YtmcclbiaoeilkaaGreat
