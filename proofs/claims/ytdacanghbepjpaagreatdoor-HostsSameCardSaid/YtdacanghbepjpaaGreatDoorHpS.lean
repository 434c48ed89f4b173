/- pieces: two hosts are compared in HostsSame. -/
import Derived.Test.YtdacanghbepjpaaGreatDoorQ5
import Derived.Test.YtdacanghbepjpaaGreatDoorQ6
import Derived.Test.YtdacanghbepjpaaGreatDoorSink2
import Derived.Deep.DeepCutAuto
import Derived.Deep.CutBlock
namespace Go.Proofs.YtdacanghbepjpaaGreatDoor
set_option linter.unusedSimpArgs false
set_option linter.unusedVariables false
set_option maxRecDepth 100000
open Go.RowKit Go.Maps
open Dsk
theorem curO_is (o:Hs):∃ a b:Int,curO o=.agg #[.int .i64 a,.int .i64 b]:=by
 unfold curO curV
 split
 · exact ⟨_,_,rfl⟩
 · exact ⟨_,_,rfl⟩
def navH:List Nat→Code→Code
 | [],c => c
 | 0::p,.seq a _ => navH p a
 | 1::p,.seq _ b => navH p b
 | 2::p,.cond _ a _ => navH p a
 | 3::p,.cond _ _ b => navH p b
 | 4::p,.block _ c => navH p c
 | 4::p,.loop c => navH p c
 | 4::p,.scope c => navH p c
 | _,c => c
noncomputable def saC (p:List Nat):Code:=navH p ((Tryz.f8.body).getD .skip)
theorem ownMl_len {w:World} {B:Nat} {v:Value} {l:List Ml} (h:OwnMl w B v l):l.length≤9223372036854775807:=by
 obtain ⟨h1,h2⟩:=h
 rcases h2 with ⟨_,h2⟩ | ⟨g,cap,cur,_,_,_,h3,h4,_⟩
 · omega
 · unfold maxLen at h4;omega
theorem mail_at {w:World} {v:Value} {x:Option Addr} {n c:Nat} {ms:List Ml} (h:RdRow mlRow 3 w v ms) (hv:v=.slice x n c) (q:Nat) (hq:q<ms.length):∃ b off,x=some ⟨b,off,none⟩∧w.cell? ⟨b,off+q*3,none⟩=some (.int .i64 (ms[q]).frm)∧w.cell? ⟨b,off+q*3+1,none⟩=some (.int .i64 (ms[q]).to)∧w.cell? ⟨b,off+q*3+2,none⟩=some (.string (ms[q]).data):=by
 obtain ⟨y,c2,hv2,_,hel⟩:=h
 rw [hv] at hv2
 injection hv2 with e1 e2 e3
 subst e1
 obtain ⟨b,off,rfl,_,hc⟩:=hel q hq
 exact ⟨b,off,rfl,hc 0 _ (by simp [mlRow]),hc 1 _ (by simp [mlRow]),hc 2 _ (by simp [mlRow])⟩
set_option maxHeartbeats 32000000 in
theorem sa_cmp {Q:Exit→Act→World→Prop} {w1 y3:World} {jh jo bd2 j2 jx2 bd3 j3 jx3 rl uc uc2:Nat} {ux ux2:Option Addr} {er:Int} {o:Hs} {ms:List Ml}
  (HH:Hid (H2 w1 y3 NoK jh bd2 j2 jx2 o jo bd3 j3 jx3 o)) (HR1:Hid (RdRow mlRow 3 y3 (.slice ux rl uc) ms)) (HR2:Hid (RdRow mlRow 3 y3 (.slice ux2 rl uc2) ms)) (HRL:Hid (rl=ms.length)) (hrlm:rl≤9223372036854775807) {t0 t1 t2 t4 t6 t7 t12 t13 t14 t15 t16 t17 t18 t19 t20 t21 t22 t23 t24 t25 t26 t27 t28 t29 t30 t31 t32 t33 t34 t35 t36 t37 t38 t39 t40 t41 t42 t43 t44 t45 t46 t47 t48 t49 t50 t51 t52 t53 t54 t55 t56 t57 t58 t59 t60 t61 t62 t63 t64 t65 t66 t67 t68 t69 t70 t71 t72 t73 t74 t75 t76 t77 t78 t79 t80 t81 t82 t83 t84 t85 t86 t87 t88 t89 t90 t91 t92 t93 t94 t95 t96 t97 t98 t99 t100 t101:Value}
  (hP:∀ c (a:Act) o v w,Q (.panic c) (a.put o v) w→Q (.panic c) a w) (hQ:∀ (s2 s12 s62 s63 s64 s65 s66 s67 s68 s69 s70 s71 s72 s73 s74 s75 s76 s77 s78 s79 s80 s81 s82 s83 s84 s85 s86 s87 s88 s89 s90 s91 s92 s93 s94 s95 s96 s97 s98 s99 s100:Value) (wx:World),Below y3.heap.size y3 wx→Q .normal ⟨List.toArray (t0::t1::s2::(.pointer (some ⟨jh,0,none⟩))::t4::(.pointer (some ⟨jo,0,none⟩))::t6::t7::(.slice ux rl uc)::(.int .i64 er)::(.slice ux2 rl uc2)::(.int .i64 er)::s12::t13::t14::t15::t16::t17::t18::t19::t20::t21::t22::t23::t24::t25::t26::t27::t28::t29::t30::t31::t32::t33::t34::t35::t36::t37::t38::t39::t40::t41::t42::t43::t44::t45::t46::t47::t48::t49::t50::t51::t52::t53::t54::t55::t56::t57::t58::t59::t60::t61::s62::s63::s64::s65::s66::s67::s68::s69::s70::s71::s72::s73::s74::s75::s76::s77::s78::s79::s80::s81::s82::s83::s84::s85::s86::s87::s88::s89::s90::s91::s92::s93::s94::s95::s96::s97::s98::s99::s100::t101::[]),[]⟩ wx) :
  Code.wp Tryz.prog (saC [1,1,1,1,1,0,1,4,4,1,0,4,1,1,1]) Q ⟨List.toArray (t0::t1::t2::(.pointer (some ⟨jh,0,none⟩))::t4::(.pointer (some ⟨jo,0,none⟩))::t6::t7::(.slice ux rl uc)::(.int .i64 er)::(.slice ux2 rl uc2)::(.int .i64 er)::t12::t13::t14::t15::t16::t17::t18::t19::t20::t21::t22::t23::t24::t25::t26::t27::t28::t29::t30::t31::t32::t33::t34::t35::t36::t37::t38::t39::t40::t41::t42::t43::t44::t45::t46::t47::t48::t49::t50::t51::t52::t53::t54::t55::t56::t57::t58::t59::t60::t61::t62::t63::t64::t65::t66::t67::t68::t69::t70::t71::t72::t73::t74::t75::t76::t77::t78::t79::t80::t81::t82::t83::t84::t85::t86::t87::t88::t89::t90::t91::t92::t93::t94::t95::t96::t97::t98::t99::t100::t101::[]),[]⟩ y3:=by
 conv => arg 2;whnf
 obtain ⟨ca,cb,hcab⟩:=curO_is o
 have hc1:=ho_cursor HH.out.one
 rw [hcab] at hc1
 have HC1:=Lib.hid hc1
 have HC2:=Lib.hid (fun (W:World) (hW:Below y3.heap.size y3 W) => show Calls Tryz.prog 46 #[.pointer (some ⟨jo,0,none⟩)] W fun e w' => e=.returned (.agg #[.int .i64 ca,.int .i64 cb])∧Below W.heap.size W w' from by
  have:=ho_cursor (HH.out.below hW).symm.one
  rw [hcab] at this
  exact this)
 obtain ⟨up,hup⟩:∃ up,up=o.up:=⟨_,rfl⟩
 have HU1:=Lib.hid (fun (W:World) (hW:Below y3.heap.size y3 W) => show Calls Tryz.prog 47 #[.pointer (some ⟨jh,0,none⟩)] W fun e w' => e=.returned (.bool up)∧W=w' from by
  rw [hup]
  exact ho_up (HH.out.below hW).one)
 have HU9:=Lib.hid (fun (W:World) (hW:Below y3.heap.size y3 W) => show Calls Tryz.prog 47 #[.pointer (some ⟨jo,0,none⟩)] W fun e w' => e=.returned (.bool up)∧W=w' from by
  rw [hup]
  exact ho_up (HH.out.below hW).symm.one)
 clear hcab hc1 hup
 refine wp_seq_k fun L0 hL0 => ?_
 have HL0:=Lib.hid hL0
 clear hL0
 go_wp2_with fail
 refine HC1.out.mono ?_
 rintro e y4 ⟨rfl,hb4⟩
 have HB4:=Lib.hid hb4
 clear hb4
 go_wp2_with fail
 refine (HC2.out y4 HB4.out).mono ?_
 rintro e y5 ⟨rfl,hb5⟩
 have HB5:=Lib.hid (HB4.out.trans (hb5.mono HB4.out.size))
 clear hb5 HC1 HC2
 go_wp2_with fail
 refine (HU1.out y5 HB5.out).mono ?_
 rintro e y6 ⟨rfl,rfl⟩
 go_wp2_with fail
 refine (HU9.out y5 HB5.out).mono ?_
 rintro e y6 ⟨rfl,rfl⟩
 have HX1:=Lib.hid (HR1.out.below HB5.out)
 have HX2:=Lib.hid (HR2.out.below HB5.out)
 clear HU1 HU9 HR1 HR2 HH
 go_wp2_with fail
 refine HL0.out _ _ ?_
 clear HL0
 go_wp2_with fail
 go_loopw [12] (fun v12 wr => ∃ (q:Nat),v12=.int .i64 q∧q≤rl∧Below y5.heap.size y5 wr) (fun v12 _ => rl-(intOf v12).toNat)
 case atStart => exact ⟨0,rfl,Nat.zero_le _,Below.refl _ _⟩
 case round =>
  obtain ⟨q,rfl,hq,hbw⟩:=hrel
  have HBW:=Lib.hid hbw
  have HBY:=Lib.hid (HB5.out.trans (hbw.mono HB5.out.size))
  by_cases hlt:q<rl
  case neg =>
   have hlt2:¬ (q:Int)<rl:=by omega
   go_wp2_with fail
   first | exact hQ _ _ _ _ _ _ _ _ _ _ _ _ _ _ _ _ _ _ _ _ _ _ _ _ _ _ _ _ _ _ _ _ _ _ _ _ _ _ _ _ _ _ HBY.out | exact HBY.out
  case pos =>
   have hlt2:(q:Int)<rl:=by omega
   obtain ⟨b1,o1,rfl,a0,a1,a2⟩:=mail_at (HX1.out.below hbw) rfl q (by rw [← HRL.out];exact hlt)
   obtain ⟨b2,o2,rfl,d0,d1,d2⟩:=mail_at (HX2.out.below hbw) rfl q (by rw [← HRL.out];exact hlt)
   obtain ⟨M,hM⟩:∃ M,M=ms[q]'(by rw [← HRL.out];exact hlt):=⟨_,rfl⟩
   rw [← hM] at a0 a1 a2 d0 d1 d2
   obtain ⟨mf,mt,md⟩:=M
   simp only at a0 a1 a2 d0 d1 d2
   obtain ⟨y6,hy6⟩:∃ y,y=wr.drew:=⟨_,rfl⟩
   have hb6:Below wr.heap.size wr y6:=by rw [hy6];exact (Below.refl _ _).drew
   have hT:y6.cell? ⟨b1,o1+q*3,none⟩=some (.int .i64 mf)∧y6.cell? ⟨b1,o1+q*3+1,none⟩=some (.int .i64 mt)∧y6.cell? ⟨b1,o1+q*3+2,none⟩=some (.string md)∧y6.cell? ⟨b2,o2+q*3,none⟩=some (.int .i64 mf)∧y6.cell? ⟨b2,o2+q*3+1,none⟩=some (.int .i64 mt)∧y6.cell? ⟨b2,o2+q*3+2,none⟩=some (.string md):=by
    rw [hy6]
    exact ⟨a0,a1,a2,d0,d1,d2⟩
   have hS:True:=trivial
   have HB6:=Lib.hid (HBW.out.trans (hb6.mono HBW.out.size))
   have hwq:IntKind.i64.wrap ((q:Int)+1)=(q:Int)+1:=by rw [IntKind.wrap_i64];omega
   clear hM hb6 hbw
   go_wp2_with fail
   refine wp_region_two (T:=fun W => W.cell? ⟨b1,o1+q*3,none⟩=some (.int .i64 mf)∧W.cell? ⟨b1,o1+q*3+1,none⟩=some (.int .i64 mt)∧W.cell? ⟨b1,o1+q*3+2,none⟩=some (.string md)∧W.cell? ⟨b2,o2+q*3,none⟩=some (.int .i64 mf)∧W.cell? ⟨b2,o2+q*3+1,none⟩=some (.int .i64 mt)∧W.cell? ⟨b2,o2+q*3+2,none⟩=some (.string md)) (S:=fun _ => True) (n:=99) (by kernel_rfl) ?_
   rw [← hy6]
   clear hy6
   refine tk 0 92 hT hS ?_ (hQ:=fun _ _ _ h => hP _ _ _ _ _ h)
   refine tk 1 93 hT hS ?_ (hQ:=fun _ _ _ h => hP _ _ _ _ _ h)
   try simp only [xq]
   refine tk 2 94 hT hS ?_ (hQ:=fun _ _ _ h => hP _ _ _ _ _ h)
   refine tk 3 95 hT hS ?_ (hQ:=fun _ _ _ h => hP _ _ _ _ _ h)
   try simp only [xq]
   refine tk 4 96 hT hS ?_ (hQ:=fun _ _ _ h => hP _ _ _ _ _ h)
   refine tk 5 97 hT hS ?_ (hQ:=fun _ _ _ h => hP _ _ _ _ _ h)
   try simp only [xq]
   refine tk 6 98 hT hS ?_ (hQ:=fun _ _ _ h => hP _ _ _ _ _ h)
   refine tk 7 99 hT hS ?_ (hQ:=fun _ _ _ h => hP _ _ _ _ _ h)
   try simp only [xq]
   refine tk 8 100 hT hS ?_ (hQ:=fun _ _ _ h => hP _ _ _ _ _ h)
   try simp only [xq]
   refine two_done (by kernel_rfl) ?_ _
   clear hT
   go_wp2_with fail
   go_roundw
   case rel => exact ⟨q+1,by go_num,by omega,HB6.out⟩
   case measure => simp [intOf];omega
end Go.Proofs.YtdacanghbepjpaaGreatDoor
