/- pieces: a host and a twin at the end of a round of HostsPlay. pieces: what is sent is compared in HostsPlay. -/
import Derived.Test.YtdacanghbepjpaaGreatDoorG14
import Derived.Test.YtdacanghbepjpaaGreatDoorG12
import Derived.Test.YtdacanghbepjpaaGreatDoorSink2
import Derived.Deep.DeepCutAuto
import Derived.Deep.CutBlock
set_option linter.unusedSimpArgs false
set_option linter.unusedVariables false
set_option maxRecDepth 100000
namespace Go.Proofs.YtdacanghbepjpaaGreatDoor
open Go.RowKit Go.Maps
open Dsk
def navH:List Nat→Code→Code
 | [],c => c
 | 0::p,.seq a _ => navH p a
 | 1::p,.seq _ b => navH p b
 | 2::p,.cond _ a _ => navH p a
 | 3::p,.cond _ _ b => navH p b
 | 4::p,.block _ c => navH p c
 | 4::p,.loop c => navH p c
 | 4::p,.scope c => navH p c
 | _,c => c
noncomputable def plC (p:List Nat):Code:=navH p ((Tryz.f11.body).getD .skip)
theorem HT.add {w0 w w':World} {K:Nat→Prop} {jh bd j jx jt bd9 j9 jx9:Nat} {o o9:Hs} (h:HT w0 w K jh bd j jx o jt bd9 j9 jx9 o9) (y:Below w.heap.size w w'):HT w0 w' (Also K w w') jh bd j jx o jt bd9 j9 jx9 o9:=by
 have h9:=h.below y
 obtain ⟨P,P',h1,h2,h3,h4,h5,h6,h7⟩:=h
 refine ⟨P,P',⟨h1.hn.below y,h1.blk.below y,h1.out,h1.new⟩,h2.below y,h3,h4,h5,h6,fun k e => ?_⟩
 have hz:=y.size
 rcases e with e | e
 · exact ⟨(h7 k e).1,(h7 k e).2.1,(h7 k e).2.2.1,(h7 k e).2.2.2.1,Nat.lt_of_lt_of_le (h7 k e).2.2.2.2 hz⟩
 exact ⟨fun e2 => by have:=h1.hn.lt k e2;omega,fun e2 => by have:=h2.hn.lt k e2;omega,fun e2 => by have:=h1.blk.lt;omega,fun e2 => by have:=h2.lt;omega,e.2⟩
set_option maxHeartbeats 32000000 in
theorem pl_same {Q:Exit→Act→World→Prop} {w1 y:World} {jh jt bd j jx bd9 j9 jx9 s:Nat} {o:Hs}
  (HH:Hid (HT w1 y NoK jh bd j jx o jt bd9 j9 jx9 o)) (HE:Hid (LEnv w1)) (HF:Hid (o.up=true→Few o.d o.h s o.x)) {t0 t1 t2 t3 t4 t5 t7 t8 t9 t11 t12 t13 t14 t15 t16 t17 t18 t19 t20 t21 t22 t23 t24 t25 t26 t27 t28 t29 t30 t31 t32 t33 t34 t35 t36 t37 t38 t39 t40 t41 t42 t43 t44 t45 t46 t47 t48 t49 t50 t51 t52 t53 t54 t55 t56 t57 t58 t59 t60 t61 t62 t63 t64 t65 t66 t67 t68 t69 t70 t71 t72 t73 t74 t75 t76 t77 t78 t79 t80 t81 t82 t83 t84 t85 t86 t87 t88 t89 t90 t91 t92 t93 t94 t95 t96 t97 t98 t99 t100 t101 t102 t103 t104 t105 t106 t107 t108 t109 t110 t111 t112 t113 t114 t115 t116 t117 t118 t119 t120 t121 t122 t123 t124 t125 t126 t127 t128 t129 t130 t131 t132 t133 t134 t135 t136 t137 t138 t139 t140 t141 t142 t143 t144 t145 t146 t147 t148 t149 t150 t151 t152 t153 t154 t155:Value}
  (hP:∀ c (a:Act) o v w,Q (.panic c) (a.put o v) w→Q (.panic c) a w) (hQ:∀ (s124 s125 s126 s127 s128 s129 s130 s131 s132 s133 s134 s135 s136 s137 s138 s139 s140 s141 s142 s143 s144 s145 s146 s147 s148 s149 s150 s151 s152 s153 s154:Value) (wx:World),(Below y.heap.size y wx)→Q .normal ⟨List.toArray (t0::t1::t2::t3::t4::t5::(.pointer (some ⟨jh,0,none⟩))::t7::t8::t9::(.pointer (some ⟨jt,0,none⟩))::t11::t12::t13::t14::t15::t16::t17::t18::t19::t20::t21::t22::t23::t24::t25::t26::t27::t28::t29::t30::t31::t32::t33::t34::t35::t36::t37::t38::t39::t40::t41::t42::t43::t44::t45::t46::t47::t48::t49::t50::t51::t52::t53::t54::t55::t56::t57::t58::t59::t60::t61::t62::t63::t64::t65::t66::t67::t68::t69::t70::t71::t72::t73::t74::t75::t76::t77::t78::t79::t80::t81::t82::t83::t84::t85::t86::t87::t88::t89::t90::t91::t92::t93::t94::t95::t96::t97::t98::t99::t100::t101::t102::t103::t104::t105::t106::t107::t108::t109::t110::t111::t112::t113::t114::t115::t116::t117::t118::t119::t120::t121::t122::t123::s124::s125::s126::s127::s128::s129::s130::s131::s132::s133::s134::s135::s136::s137::s138::s139::s140::s141::s142::s143::s144::s145::s146::s147::s148::s149::s150::s151::s152::s153::s154::t155::[]),[]⟩ wx) :
  Code.wp Tryz.prog (plC [1,1,1,1,1,1,1,0,1,4,4,1,0,4,1,1,1,1,1]) Q ⟨List.toArray (t0::t1::t2::t3::t4::t5::(.pointer (some ⟨jh,0,none⟩))::t7::t8::t9::(.pointer (some ⟨jt,0,none⟩))::t11::t12::t13::t14::t15::t16::t17::t18::t19::t20::t21::t22::t23::t24::t25::t26::t27::t28::t29::t30::t31::t32::t33::t34::t35::t36::t37::t38::t39::t40::t41::t42::t43::t44::t45::t46::t47::t48::t49::t50::t51::t52::t53::t54::t55::t56::t57::t58::t59::t60::t61::t62::t63::t64::t65::t66::t67::t68::t69::t70::t71::t72::t73::t74::t75::t76::t77::t78::t79::t80::t81::t82::t83::t84::t85::t86::t87::t88::t89::t90::t91::t92::t93::t94::t95::t96::t97::t98::t99::t100::t101::t102::t103::t104::t105::t106::t107::t108::t109::t110::t111::t112::t113::t114::t115::t116::t117::t118::t119::t120::t121::t122::t123::t124::t125::t126::t127::t128::t129::t130::t131::t132::t133::t134::t135::t136::t137::t138::t139::t140::t141::t142::t143::t144::t145::t146::t147::t148::t149::t150::t151::t152::t153::t154::t155::[]),[]⟩ y:=by
 conv => arg 2;whnf
 obtain ⟨up,hup⟩:∃ up,up=o.up:=⟨_,rfl⟩
 obtain ⟨nw,hnw⟩:∃ n,n=o.now:=⟨_,rfl⟩
 obtain ⟨rf,hrf⟩:∃ n,n=o.refused:=⟨_,rfl⟩
 have HU:=Zh (fun (W:World) (hW:Below y.heap.size y W) => show Calls Tryz.prog 47 #[.pointer (some ⟨jh,0,none⟩)] W fun e w' => e=.returned (.bool up)∧W=w' from by
  rw [hup]
  exact ho_up (HH.out.below hW).one)
 have HN:=Zh (fun (W:World) (hW:Below y.heap.size y W) => show Calls Tryz.prog 50 #[.pointer (some ⟨jh,0,none⟩)] W fun e w' => e=.returned (.int .i64 nw)∧W=w' from by
  rw [hnw]
  exact ho_now (HH.out.below hW).one)
 have HR:=Zh (fun (W:World) (hW:Below y.heap.size y W) => show Calls Tryz.prog 55 #[.pointer (some ⟨jh,0,none⟩)] W fun e w' => e=.returned (.int .i64 rf)∧W=w' from by
  rw [hrf]
  exact ho_refused (HH.out.below hW).one)
 have HSM:=Zh (fun (W:World) (hW:Below y.heap.size y W) => show Calls Tryz.prog 60 #[.pointer (some ⟨jh,0,none⟩),.pointer (some ⟨jt,0,none⟩)] W fun e w' => e=.returned (.bool true)∧Below W.heap.size W w' from by
  by_cases hu:o.up=true
  · exact same_up (HH.out.below hW) hu HE.out (HF.out hu)
  exact same_no (HH.out.below hW) (by simpa using hu))
 have HTT:=Zh (fun (W:World) (hW:Below y.heap.size y W) => show W.cell? ⟨jt,6,none⟩=some (.bool up)∧W.cell? ⟨jt,1,none⟩=some (.int .i64 nw)∧W.cell? ⟨jt,2,none⟩=some (.int .i64 rf) from by
  obtain ⟨pl,px,hpp,c0,c1,c2,c3,c4,c5,c6⟩:=(HH.out.below hW).two.cells
  rw [hup,hnw,hrf]
  exact ⟨c6,c1,c2⟩)
 have q1:(up != up)=false:=by simp
 have q2:(nw != nw)=false:=by simp
 have q3:(rf != rf)=false:=by simp
 clear hup hnw hrf HH HE HF
 refine wp_seq_k fun L0 hL0 => ?_
 have HL0:=Zh hL0
 clear hL0
 obtain ⟨x1,hx1⟩:∃ x,x=y.drew:=⟨_,rfl⟩
 have HBX:=Zh (Zd hx1)
 have hT:=HTT.out x1 HBX.out
 have hS:True:=trivial
 go_wp2_with fail
 refine wp_region_two (T:=fun W => W.cell? ⟨jt,6,none⟩=some (.bool up)∧W.cell? ⟨jt,1,none⟩=some (.int .i64 nw)∧W.cell? ⟨jt,2,none⟩=some (.int .i64 rf)) (S:=fun _ => True) (n:=99) (by kernel_rfl) ?_
 rw [← hx1]
 clear hx1
 refine tk 0 124 hT hS ?_ (hQ:=fun _ _ _ h => hP _ _ _ _ _ h)
 refine tk 2 126 hT hS ?_ (hQ:=fun _ _ _ h => hP _ _ _ _ _ h)
 try simp only [xq]
 refine tk 3 127 hT hS ?_ (hQ:=fun _ _ _ h => hP _ _ _ _ _ h)
 refine tk 4 128 hT hS ?_ (hQ:=fun _ _ _ h => hP _ _ _ _ _ h)
 try simp only [xq]
 refine tk 5 129 hT hS ?_ (hQ:=fun _ _ _ h => hP _ _ _ _ _ h)
 try simp only [xq]
 refine two_one 1 rfl (by kernel_rfl) ?_
 intro K0 hK0
 go_simp
 refine (HU.out _ HBX.out).mono ?_
 rintro e y1 ⟨rfl,rfl⟩
 refine hK0.out _ _ hT (fun _ _ => hS) ?_
 clear hK0 K0
 try simp only [xq]
 refine tk 6 130 hT hS ?_ (hQ:=fun _ _ _ h => hP _ _ _ _ _ h)
 refine tk 7 131 hT hS ?_ (hQ:=fun _ _ _ h => hP _ _ _ _ _ h)
 try simp only [xq]
 refine tk 8 132 hT hS ?_ (hQ:=fun _ _ _ h => hP _ _ _ _ _ h)
 refine tk 10 134 hT hS ?_ (hQ:=fun _ _ _ h => hP _ _ _ _ _ h)
 try simp only [xq]
 refine tk 11 135 hT hS ?_ (hQ:=fun _ _ _ h => hP _ _ _ _ _ h)
 refine tk 12 136 hT hS ?_ (hQ:=fun _ _ _ h => hP _ _ _ _ _ h)
 try simp only [xq]
 refine tk 13 137 hT hS ?_ (hQ:=fun _ _ _ h => hP _ _ _ _ _ h)
 try simp only [xq]
 refine two_one 9 rfl (by kernel_rfl) ?_
 intro K0 hK0
 go_simp
 refine (HN.out _ HBX.out).mono ?_
 rintro e y1 ⟨rfl,rfl⟩
 refine hK0.out _ _ hT (fun _ _ => hS) ?_
 clear hK0 K0
 try simp only [xq]
 refine tk 14 138 hT hS ?_ (hQ:=fun _ _ _ h => hP _ _ _ _ _ h)
 refine tk 15 139 hT hS ?_ (hQ:=fun _ _ _ h => hP _ _ _ _ _ h)
 try simp only [xq]
 refine tk 16 140 hT hS ?_ (hQ:=fun _ _ _ h => hP _ _ _ _ _ h)
 refine tk 17 141 hT hS ?_ (hQ:=fun _ _ _ h => hP _ _ _ _ _ h)
 try simp only [xq]
 refine tk 19 143 hT hS ?_ (hQ:=fun _ _ _ h => hP _ _ _ _ _ h)
 refine tk 20 144 hT hS ?_ (hQ:=fun _ _ _ h => hP _ _ _ _ _ h)
 try simp only [xq]
 refine tk 21 145 hT hS ?_ (hQ:=fun _ _ _ h => hP _ _ _ _ _ h)
 refine tk 22 146 hT hS ?_ (hQ:=fun _ _ _ h => hP _ _ _ _ _ h)
 try simp only [xq]
 refine two_one 18 rfl (by kernel_rfl) ?_
 intro K0 hK0
 go_simp
 refine (HR.out _ HBX.out).mono ?_
 rintro e y1 ⟨rfl,rfl⟩
 refine hK0.out _ _ hT (fun _ _ => hS) ?_
 clear hK0 K0
 try simp only [xq]
 refine tk 23 147 hT hS ?_ (hQ:=fun _ _ _ h => hP _ _ _ _ _ h)
 refine tk 24 148 hT hS ?_ (hQ:=fun _ _ _ h => hP _ _ _ _ _ h)
 try simp only [xq]
 refine tk 25 149 hT hS ?_ (hQ:=fun _ _ _ h => hP _ _ _ _ _ h)
 refine tk 26 150 hT hS ?_ (hQ:=fun _ _ _ h => hP _ _ _ _ _ h)
 try simp only [xq]
 refine tk 27 151 hT hS ?_ (hQ:=fun _ _ _ h => hP _ _ _ _ _ h)
 try simp only [xq]
 refine two_one 28 rfl (by kernel_rfl) ?_
 intro K0 hK0
 go_simp
 refine (HSM.out _ HBX.out).mono ?_
 rintro e y2 ⟨rfl,hb⟩
 have HB2:=Zh (HBX.out.trans (hb.mono HBX.out.size))
 have hT3:=HTT.out y2 HB2.out
 refine hK0.out _ _ hT3 (fun _ _ => hS) ?_
 clear hK0 K0
 try simp only [xq]
 clear hT hb
 have hT:=hT3
 clear hT3
 refine tk 29 153 hT hS ?_ (hQ:=fun _ _ _ h => hP _ _ _ _ _ h)
 refine tk 30 154 hT hS ?_ (hQ:=fun _ _ _ h => hP _ _ _ _ _ h)
 try simp only [xq]
 refine two_done (by kernel_rfl) ?_ _
 clear hT HU HN HR HSM HTT q1 q2 q3
 go_wp2_with fail
 refine HL0.out _ _ ?_
 clear HL0
 go_wp2_with fail
 first | exact hQ _ _ _ _ _ _ _ _ _ _ _ _ _ _ _ _ _ _ _ _ _ _ _ _ _ _ _ _ _ _ _ _ HB2.out | exact HB2.out
end Go.Proofs.YtdacanghbepjpaaGreatDoor
namespace Go.Proofs.YtdacanghbepjpaaGreatDoor
open Go.RowKit Go.Maps
open Dsk
set_option maxHeartbeats 32000000 in
theorem pl_none {Q:Exit→Act→World→Prop} {y:World} {m er:Int} {ux:Option Addr} {uc:Nat} {st:ByteArray} (hst:st.toList.isEmpty=true) {t0 t1 t2 t3 t4 t6 t7 t8 t9 t10 t11 t12 t17 t18 t19 t20 t21 t22 t23 t24 t25 t26 t27 t28 t29 t30 t31 t32 t33 t34 t35 t36 t37 t38 t39 t40 t41 t42 t43 t44 t45 t46 t47 t48 t49 t50 t51 t52 t53 t54 t55 t56 t57 t58 t59 t60 t61 t62 t63 t64 t65 t66 t67 t68 t69 t70 t71 t72 t73 t74 t75 t76 t77 t78 t79 t80 t81 t82 t83 t84 t85 t86 t87 t88 t89 t90 t91 t92 t93 t94 t95 t96 t97 t98 t99 t100 t101 t102 t103 t104 t105 t106 t107 t108 t109 t110 t111 t112 t113 t114 t115 t116 t117 t118 t119 t120 t121 t122 t123 t124 t125 t126 t127 t128 t129 t130 t131 t132 t133 t134 t135 t136 t137 t138 t139 t140 t141 t142 t143 t144 t145 t146 t147 t148 t149 t150 t151 t152 t153 t154 t155:Value}
  (hP:∀ c (a:Act) o v w,Q (.panic c) (a.put o v) w→Q (.panic c) a w) (hQ:∀ (s94 s95 s96 s97 s98 s99 s100 s101 s102 s103 s104 s105 s106 s107 s108 s109 s110 s111 s112 s113 s114 s115 s116 s117 s118 s119 s120 s121 s122 s123:Value) (wx:World),(Below y.heap.size y wx)→Q .normal ⟨List.toArray (t0::t1::t2::t3::t4::(.int .i64 m)::t6::t7::t8::t9::t10::t11::t12::(.slice ux (0:Nat) uc)::(.int .i64 er)::(.string st)::(.int .i64 er)::t17::t18::t19::t20::t21::t22::t23::t24::t25::t26::t27::t28::t29::t30::t31::t32::t33::t34::t35::t36::t37::t38::t39::t40::t41::t42::t43::t44::t45::t46::t47::t48::t49::t50::t51::t52::t53::t54::t55::t56::t57::t58::t59::t60::t61::t62::t63::t64::t65::t66::t67::t68::t69::t70::t71::t72::t73::t74::t75::t76::t77::t78::t79::t80::t81::t82::t83::t84::t85::t86::t87::t88::t89::t90::t91::t92::t93::s94::s95::s96::s97::s98::s99::s100::s101::s102::s103::s104::s105::s106::s107::s108::s109::s110::s111::s112::s113::s114::s115::s116::s117::s118::s119::s120::s121::s122::s123::t124::t125::t126::t127::t128::t129::t130::t131::t132::t133::t134::t135::t136::t137::t138::t139::t140::t141::t142::t143::t144::t145::t146::t147::t148::t149::t150::t151::t152::t153::t154::t155::[]),[]⟩ wx) :
  Code.wp Tryz.prog (plC [1,1,1,1,1,1,1,0,1,4,4,1,0,4,1,1,1,1,0]) Q ⟨List.toArray (t0::t1::t2::t3::t4::(.int .i64 m)::t6::t7::t8::t9::t10::t11::t12::(.slice ux (0:Nat) uc)::(.int .i64 er)::(.string st)::(.int .i64 er)::t17::t18::t19::t20::t21::t22::t23::t24::t25::t26::t27::t28::t29::t30::t31::t32::t33::t34::t35::t36::t37::t38::t39::t40::t41::t42::t43::t44::t45::t46::t47::t48::t49::t50::t51::t52::t53::t54::t55::t56::t57::t58::t59::t60::t61::t62::t63::t64::t65::t66::t67::t68::t69::t70::t71::t72::t73::t74::t75::t76::t77::t78::t79::t80::t81::t82::t83::t84::t85::t86::t87::t88::t89::t90::t91::t92::t93::t94::t95::t96::t97::t98::t99::t100::t101::t102::t103::t104::t105::t106::t107::t108::t109::t110::t111::t112::t113::t114::t115::t116::t117::t118::t119::t120::t121::t122::t123::t124::t125::t126::t127::t128::t129::t130::t131::t132::t133::t134::t135::t136::t137::t138::t139::t140::t141::t142::t143::t144::t145::t146::t147::t148::t149::t150::t151::t152::t153::t154::t155::[]),[]⟩ y:=by
 conv => arg 2;whnf
 have q1:(er != er)=false:=by simp
 have hst0:st.toList=[]:=List.isEmpty_iff.1 hst
 have q2:(st.toList != [])=false:=by rw [hst0];rfl
 have q3:(st.toList == [])=true:=by rw [hst0];rfl
 clear hst0
 have HB:=Zh (Below.refl y.heap.size y)
 go_wp2_with fail
 first | exact hQ _ _ _ _ _ _ _ _ _ _ _ _ _ _ _ _ _ _ _ _ _ _ _ _ _ _ _ _ _ _ _ HB.out | exact HB.out
set_option maxHeartbeats 32000000 in
theorem pl_one {Q:Exit→Act→World→Prop} {y:World} {m er:Int} {ub uo uc:Nat} {st:ByteArray} (hst:st.toList.isEmpty=false) (a0:y.cell? ⟨ub,uo,none⟩=some (.int .i64 m)) (a1:y.cell? ⟨ub,uo+1,none⟩=some (.int .i64 (-1))) (a2:y.cell? ⟨ub,uo+2,none⟩=some (.string st)) {t0 t1 t2 t3 t4 t6 t7 t8 t9 t10 t11 t12 t17 t18 t19 t20 t21 t22 t23 t24 t25 t26 t27 t28 t29 t30 t31 t32 t33 t34 t35 t36 t37 t38 t39 t40 t41 t42 t43 t44 t45 t46 t47 t48 t49 t50 t51 t52 t53 t54 t55 t56 t57 t58 t59 t60 t61 t62 t63 t64 t65 t66 t67 t68 t69 t70 t71 t72 t73 t74 t75 t76 t77 t78 t79 t80 t81 t82 t83 t84 t85 t86 t87 t88 t89 t90 t91 t92 t93 t94 t95 t96 t97 t98 t99 t100 t101 t102 t103 t104 t105 t106 t107 t108 t109 t110 t111 t112 t113 t114 t115 t116 t117 t118 t119 t120 t121 t122 t123 t124 t125 t126 t127 t128 t129 t130 t131 t132 t133 t134 t135 t136 t137 t138 t139 t140 t141 t142 t143 t144 t145 t146 t147 t148 t149 t150 t151 t152 t153 t154 t155:Value}
  (hP:∀ c (a:Act) o v w,Q (.panic c) (a.put o v) w→Q (.panic c) a w) (hQ:∀ (s94 s95 s96 s97 s98 s99 s100 s101 s102 s103 s104 s105 s106 s107 s108 s109 s110 s111 s112 s113 s114 s115 s116 s117 s118 s119 s120 s121 s122 s123:Value) (wx:World),(Below y.heap.size y wx)→Q .normal ⟨List.toArray (t0::t1::t2::t3::t4::(.int .i64 m)::t6::t7::t8::t9::t10::t11::t12::(.slice (some ⟨ub,uo,none⟩) (1:Nat) uc)::(.int .i64 er)::(.string st)::(.int .i64 er)::t17::t18::t19::t20::t21::t22::t23::t24::t25::t26::t27::t28::t29::t30::t31::t32::t33::t34::t35::t36::t37::t38::t39::t40::t41::t42::t43::t44::t45::t46::t47::t48::t49::t50::t51::t52::t53::t54::t55::t56::t57::t58::t59::t60::t61::t62::t63::t64::t65::t66::t67::t68::t69::t70::t71::t72::t73::t74::t75::t76::t77::t78::t79::t80::t81::t82::t83::t84::t85::t86::t87::t88::t89::t90::t91::t92::t93::s94::s95::s96::s97::s98::s99::s100::s101::s102::s103::s104::s105::s106::s107::s108::s109::s110::s111::s112::s113::s114::s115::s116::s117::s118::s119::s120::s121::s122::s123::t124::t125::t126::t127::t128::t129::t130::t131::t132::t133::t134::t135::t136::t137::t138::t139::t140::t141::t142::t143::t144::t145::t146::t147::t148::t149::t150::t151::t152::t153::t154::t155::[]),[]⟩ wx) :
  Code.wp Tryz.prog (plC [1,1,1,1,1,1,1,0,1,4,4,1,0,4,1,1,1,1,0]) Q ⟨List.toArray (t0::t1::t2::t3::t4::(.int .i64 m)::t6::t7::t8::t9::t10::t11::t12::(.slice (some ⟨ub,uo,none⟩) (1:Nat) uc)::(.int .i64 er)::(.string st)::(.int .i64 er)::t17::t18::t19::t20::t21::t22::t23::t24::t25::t26::t27::t28::t29::t30::t31::t32::t33::t34::t35::t36::t37::t38::t39::t40::t41::t42::t43::t44::t45::t46::t47::t48::t49::t50::t51::t52::t53::t54::t55::t56::t57::t58::t59::t60::t61::t62::t63::t64::t65::t66::t67::t68::t69::t70::t71::t72::t73::t74::t75::t76::t77::t78::t79::t80::t81::t82::t83::t84::t85::t86::t87::t88::t89::t90::t91::t92::t93::t94::t95::t96::t97::t98::t99::t100::t101::t102::t103::t104::t105::t106::t107::t108::t109::t110::t111::t112::t113::t114::t115::t116::t117::t118::t119::t120::t121::t122::t123::t124::t125::t126::t127::t128::t129::t130::t131::t132::t133::t134::t135::t136::t137::t138::t139::t140::t141::t142::t143::t144::t145::t146::t147::t148::t149::t150::t151::t152::t153::t154::t155::[]),[]⟩ y:=by
 conv => arg 2;whnf
 have q1:(er != er)=false:=by simp
 have q2:(st.toList != [])=true:=by cases h:st.toList <;> simp_all
 have q3:(st.toList == [])=false:=by cases h:st.toList <;> simp_all
 have q4:(m == m)=true:=by simp
 have HB:=Zh (Below.refl y.heap.size y)
 go_wp2_with fail
 first | exact hQ _ _ _ _ _ _ _ _ _ _ _ _ _ _ _ _ _ _ _ _ _ _ _ _ _ _ _ _ _ _ _ HB.out | exact HB.out
end Go.Proofs.YtdacanghbepjpaaGreatDoor
namespace Go.Proofs.YtdacanghbepjpaaGreatDoor
open Go.RowKit Go.Maps
open Dsk
set_option maxHeartbeats 32000000 in
theorem pl_host {Q:Exit→Act→World→Prop} {w1 y:World} {jh jt bd9 j9 jx9 q kl kc:Nat} {kx:Option Addr} {kd nd nn zt zi zp za zd ah af an er m mf mt:Int} {zs zh zn adt md st:ByteArray} {own:Bool} {o o2:Hs} {ms:List Ml} {K:Nat→Prop} {s9:Nat}
  (HDO:Hid (Calls Tryz.prog 45 #[.pointer (some ⟨jh,0,none⟩),.agg #[.int .i64 kd,.int .i64 nd,.int .i64 nn,.int .i64 zt,.int .i64 zi,.int .i64 zp,.string zs,.string zh,.int .i64 za,.int .i64 zd,.string zn,.slice kx kl kc,.bool own,.int .i64 ah,.int .i64 af,.int .i64 an,.string adt],.int .i64 m] y fun e w9 => ∃ u bd j jx,e=.returned (.tuple #[u,.int .i64 er])∧OwnMl w9 y.heap.size u ms∧HT w1 w9 (KU K u) jh bd j jx o2 jt bd9 j9 jx9 o∧Keeps K y w9))
  (HBK:Hid (Blk y q 95 #[.int .i64 kd,.int .i64 nd,.int .i64 nn,.int .i64 zt,.int .i64 zi,.int .i64 zp,.string zs,.string zh,.int .i64 za,.int .i64 zd,.string zn,.slice kx kl kc,.bool own,.int .i64 ah,.int .i64 af,.int .i64 an,.string adt])) (HKQ:Hid (K q)) {rl:Nat} (HRL:Hid (rl=ms.length)) {t0 t1 t2 t3 t4 t7 t8 t9 t11 t13 t14 t15 t16 t17 t18 t19 t20 t21 t22 t23 t24 t25 t26 t27 t28 t29 t30 t31 t32 t33 t34 t35 t36 t37 t38 t39 t40 t41 t42 t43 t44 t45 t46 t47 t48 t49 t50 t51 t52 t53 t54 t55 t56 t57 t58 t59 t60 t61 t62 t63 t64 t65 t66 t67 t68 t69 t70 t71 t72 t73 t74 t75 t76 t77 t78 t79 t80 t81 t82 t83 t84 t85 t86 t87 t88 t89 t90 t91 t92 t93 t94 t95 t96 t97 t98 t99 t100 t101 t102 t103 t104 t105 t106 t107 t108 t109 t110 t111 t112 t113 t114 t115 t116 t117 t118 t119 t120 t121 t122 t123 t124 t125 t126 t127 t128 t129 t130 t131 t132 t133 t134 t135 t136 t137 t138 t139 t140 t141 t142 t143 t144 t145 t146 t147 t148 t149 t150 t151 t152 t153 t154 t155:Value}
  (hP:∀ c (a:Act) o v w,Q (.panic c) (a.put o v) w→Q (.panic c) a w) (hQ:∀ (s77 s78 s79 s80 s81 s82 s83:Value) (ux:Option Addr) (uc:Nat) (wx:World),((∃ bd j jx,HT w1 wx (KU K (.slice ux rl uc)) jh bd j jx o2 jt bd9 j9 jx9 o)∧OwnMl wx y.heap.size (.slice ux rl uc) ms∧Keeps K y wx)→Q .normal ⟨List.toArray (t0::t1::t2::t3::t4::(.int .i64 m)::(.pointer (some ⟨jh,0,none⟩))::t7::t8::t9::(.pointer (some ⟨jt,0,none⟩))::t11::(.pointer (some ⟨q,0,none⟩))::(.slice ux rl uc)::(.int .i64 er)::t15::t16::t17::t18::t19::t20::t21::t22::t23::t24::t25::t26::t27::t28::t29::t30::t31::t32::t33::t34::t35::t36::t37::t38::t39::t40::t41::t42::t43::t44::t45::t46::t47::t48::t49::t50::t51::t52::t53::t54::t55::t56::t57::t58::t59::t60::t61::t62::t63::t64::t65::t66::t67::t68::t69::t70::t71::t72::t73::t74::t75::t76::s77::s78::s79::s80::s81::s82::s83::t84::t85::t86::t87::t88::t89::t90::t91::t92::t93::t94::t95::t96::t97::t98::t99::t100::t101::t102::t103::t104::t105::t106::t107::t108::t109::t110::t111::t112::t113::t114::t115::t116::t117::t118::t119::t120::t121::t122::t123::t124::t125::t126::t127::t128::t129::t130::t131::t132::t133::t134::t135::t136::t137::t138::t139::t140::t141::t142::t143::t144::t145::t146::t147::t148::t149::t150::t151::t152::t153::t154::t155::[]),[]⟩ wx) :
  Code.wp Tryz.prog (plC [1,1,1,1,1,1,1,0,1,4,4,1,0,4,1,1,0]) Q ⟨List.toArray (t0::t1::t2::t3::t4::(.int .i64 m)::(.pointer (some ⟨jh,0,none⟩))::t7::t8::t9::(.pointer (some ⟨jt,0,none⟩))::t11::(.pointer (some ⟨q,0,none⟩))::t13::t14::t15::t16::t17::t18::t19::t20::t21::t22::t23::t24::t25::t26::t27::t28::t29::t30::t31::t32::t33::t34::t35::t36::t37::t38::t39::t40::t41::t42::t43::t44::t45::t46::t47::t48::t49::t50::t51::t52::t53::t54::t55::t56::t57::t58::t59::t60::t61::t62::t63::t64::t65::t66::t67::t68::t69::t70::t71::t72::t73::t74::t75::t76::t77::t78::t79::t80::t81::t82::t83::t84::t85::t86::t87::t88::t89::t90::t91::t92::t93::t94::t95::t96::t97::t98::t99::t100::t101::t102::t103::t104::t105::t106::t107::t108::t109::t110::t111::t112::t113::t114::t115::t116::t117::t118::t119::t120::t121::t122::t123::t124::t125::t126::t127::t128::t129::t130::t131::t132::t133::t134::t135::t136::t137::t138::t139::t140::t141::t142::t143::t144::t145::t146::t147::t148::t149::t150::t151::t152::t153::t154::t155::[]),[]⟩ y:=by
 conv => arg 2;whnf
 have HTT:=Zh (fun (W:World) (hW:Blk W q 95 #[.int .i64 kd,.int .i64 nd,.int .i64 nn,.int .i64 zt,.int .i64 zi,.int .i64 zp,.string zs,.string zh,.int .i64 za,.int .i64 zd,.string zn,.slice kx kl kc,.bool own,.int .i64 ah,.int .i64 af,.int .i64 an,.string adt]) => show W.cell? ⟨q,0,none⟩=some (.int .i64 kd)∧W.cell? ⟨q,1,none⟩=some (.int .i64 nd)∧W.cell? ⟨q,2,none⟩=some (.int .i64 nn)∧W.cell? ⟨q,3,none⟩=some (.int .i64 zt)∧W.cell? ⟨q,4,none⟩=some (.int .i64 zi)∧W.cell? ⟨q,5,none⟩=some (.int .i64 zp)∧W.cell? ⟨q,6,none⟩=some (.string zs)∧W.cell? ⟨q,7,none⟩=some (.string zh)∧W.cell? ⟨q,8,none⟩=some (.int .i64 za)∧W.cell? ⟨q,9,none⟩=some (.int .i64 zd)∧W.cell? ⟨q,10,none⟩=some (.string zn)∧W.cell? ⟨q,11,none⟩=some (.slice kx kl kc)∧W.cell? ⟨q,12,none⟩=some (.bool own)∧W.cell? ⟨q,13,none⟩=some (.int .i64 ah)∧W.cell? ⟨q,14,none⟩=some (.int .i64 af)∧W.cell? ⟨q,15,none⟩=some (.int .i64 an)∧W.cell? ⟨q,16,none⟩=some (.string adt) from
  ⟨hW.cell 0,hW.cell 1,hW.cell 2,hW.cell 3,hW.cell 4,hW.cell 5,hW.cell 6,hW.cell 7,hW.cell 8,hW.cell 9,hW.cell 10,hW.cell 11,hW.cell 12,hW.cell 13,hW.cell 14,hW.cell 15,hW.cell 16⟩)
 obtain ⟨k0,k1,k2,k3,k4,k5,k6,k7,k8,k9,k10,k11,k12,k13,k14,k15,k16⟩:=HTT.out y HBK.out
 clear HTT HBK
 go_wp2_with fail
 refine HDO.out.mono ?_
 rintro e y2 ⟨u,bd2,j2,jx2,rfl,hu2,hh2,hk2⟩
 obtain ⟨ux,uc,hux⟩:=OwnRow.shape hu2
 rw [← HRL.out] at hux
 subst hux
 have HU:=Zh (show (∃ bd j jx,HT w1 y2 (KU K (.slice ux rl uc)) jh bd j jx o2 jt bd9 j9 jx9 o)∧OwnMl y2 y.heap.size (.slice ux rl uc) ms∧Keeps K y y2 from ⟨⟨bd2,j2,jx2,hh2⟩,hu2,hk2⟩)
 clear hu2 hh2 hk2 HDO k0 k1 k2 k3 k4 k5 k6 k7 k8 k9 k10 k11 k12 k13 k14 k15 k16
 go_wp2_with fail
 first | exact hQ _ _ _ _ _ _ _ _ _ _ HU.out | exact HU.out
end Go.Proofs.YtdacanghbepjpaaGreatDoor
namespace Go.Proofs.YtdacanghbepjpaaGreatDoor
open Go.RowKit Go.Maps
open Dsk
set_option maxHeartbeats 32000000 in
theorem pl_twin {Q:Exit→Act→World→Prop} {w1 y:World} {jh jt bd9 j9 jx9 q kl kc:Nat} {kx:Option Addr} {kd nd nn zt zi zp za zd ah af an er m mf mt:Int} {zs zh zn adt md st:ByteArray} {own:Bool} {o o2:Hs} {ms:List Ml} {K:Nat→Prop} {s9:Nat} {bd2 j2 jx2:Nat}
  (HDT:Hid (∀ (W:World) (K:Nat→Prop) (bd j jx:Nat),Below w1.heap.size w1 W→HT w1 W K jh bd j jx o2 jt bd9 j9 jx9 o→Calls Tryz.prog 59 #[.pointer (some ⟨jt,0,none⟩),.agg #[.int .i64 kd,.int .i64 nd,.int .i64 nn,.int .i64 zt,.int .i64 zi,.int .i64 zp,.string zs,.string zh,.int .i64 za,.int .i64 zd,.string zn,.slice kx kl kc],.agg #[.int .i64 mf,.int .i64 mt,.string md]] W fun e w9 => e=.returned (.tuple #[.string st,.int .i64 er])∧(∃ bd9 j9 jx9,HT w1 w9 K jh bd j jx o2 jt bd9 j9 jx9 o2)∧Keeps K W w9))
  (HML:Hid (∀ (W:World),Calls Tryz.prog 54 #[.agg #[.int .i64 kd,.int .i64 nd,.int .i64 nn,.int .i64 zt,.int .i64 zi,.int .i64 zp,.string zs,.string zh,.int .i64 za,.int .i64 zd,.string zn,.slice kx kl kc,.bool own,.int .i64 ah,.int .i64 af,.int .i64 an,.string adt],.int .i64 m] W fun e w9 => e=.returned (.agg #[.int .i64 mf,.int .i64 mt,.string md])∧Below W.heap.size W w9))
  (HBK:Hid (Blk y q 95 #[.int .i64 kd,.int .i64 nd,.int .i64 nn,.int .i64 zt,.int .i64 zi,.int .i64 zp,.string zs,.string zh,.int .i64 za,.int .i64 zd,.string zn,.slice kx kl kc,.bool own,.int .i64 ah,.int .i64 af,.int .i64 an,.string adt])) (HKQ:Hid (K q)) (HH2:Hid (HT w1 y K jh bd2 j2 jx2 o2 jt bd9 j9 jx9 o)) {t0 t1 t2 t3 t4 t7 t8 t9 t11 t13 t14 t15 t16 t17 t18 t19 t20 t21 t22 t23 t24 t25 t26 t27 t28 t29 t30 t31 t32 t33 t34 t35 t36 t37 t38 t39 t40 t41 t42 t43 t44 t45 t46 t47 t48 t49 t50 t51 t52 t53 t54 t55 t56 t57 t58 t59 t60 t61 t62 t63 t64 t65 t66 t67 t68 t69 t70 t71 t72 t73 t74 t75 t76 t77 t78 t79 t80 t81 t82 t83 t84 t85 t86 t87 t88 t89 t90 t91 t92 t93 t94 t95 t96 t97 t98 t99 t100 t101 t102 t103 t104 t105 t106 t107 t108 t109 t110 t111 t112 t113 t114 t115 t116 t117 t118 t119 t120 t121 t122 t123 t124 t125 t126 t127 t128 t129 t130 t131 t132 t133 t134 t135 t136 t137 t138 t139 t140 t141 t142 t143 t144 t145 t146 t147 t148 t149 t150 t151 t152 t153 t154 t155:Value}
  (hP:∀ c (a:Act) o v w,Q (.panic c) (a.put o v) w→Q (.panic c) a w) (hQ:∀ (s84 s85 s86 s87 s88 s89 s90 s91 s92 s93:Value)  (wx:World),((∃ bd j jx,HT w1 wx K jh bd2 j2 jx2 o2 jt bd j jx o2)∧Keeps K y wx)→Q .normal ⟨List.toArray (t0::t1::t2::t3::t4::(.int .i64 m)::(.pointer (some ⟨jh,0,none⟩))::t7::t8::t9::(.pointer (some ⟨jt,0,none⟩))::t11::(.pointer (some ⟨q,0,none⟩))::t13::t14::(.string st)::(.int .i64 er)::t17::t18::t19::t20::t21::t22::t23::t24::t25::t26::t27::t28::t29::t30::t31::t32::t33::t34::t35::t36::t37::t38::t39::t40::t41::t42::t43::t44::t45::t46::t47::t48::t49::t50::t51::t52::t53::t54::t55::t56::t57::t58::t59::t60::t61::t62::t63::t64::t65::t66::t67::t68::t69::t70::t71::t72::t73::t74::t75::t76::t77::t78::t79::t80::t81::t82::t83::s84::s85::s86::s87::s88::s89::s90::s91::s92::s93::t94::t95::t96::t97::t98::t99::t100::t101::t102::t103::t104::t105::t106::t107::t108::t109::t110::t111::t112::t113::t114::t115::t116::t117::t118::t119::t120::t121::t122::t123::t124::t125::t126::t127::t128::t129::t130::t131::t132::t133::t134::t135::t136::t137::t138::t139::t140::t141::t142::t143::t144::t145::t146::t147::t148::t149::t150::t151::t152::t153::t154::t155::[]),[]⟩ wx) :
  Code.wp Tryz.prog (plC [1,1,1,1,1,1,1,0,1,4,4,1,0,4,1,1,1,0]) Q ⟨List.toArray (t0::t1::t2::t3::t4::(.int .i64 m)::(.pointer (some ⟨jh,0,none⟩))::t7::t8::t9::(.pointer (some ⟨jt,0,none⟩))::t11::(.pointer (some ⟨q,0,none⟩))::t13::t14::t15::t16::t17::t18::t19::t20::t21::t22::t23::t24::t25::t26::t27::t28::t29::t30::t31::t32::t33::t34::t35::t36::t37::t38::t39::t40::t41::t42::t43::t44::t45::t46::t47::t48::t49::t50::t51::t52::t53::t54::t55::t56::t57::t58::t59::t60::t61::t62::t63::t64::t65::t66::t67::t68::t69::t70::t71::t72::t73::t74::t75::t76::t77::t78::t79::t80::t81::t82::t83::t84::t85::t86::t87::t88::t89::t90::t91::t92::t93::t94::t95::t96::t97::t98::t99::t100::t101::t102::t103::t104::t105::t106::t107::t108::t109::t110::t111::t112::t113::t114::t115::t116::t117::t118::t119::t120::t121::t122::t123::t124::t125::t126::t127::t128::t129::t130::t131::t132::t133::t134::t135::t136::t137::t138::t139::t140::t141::t142::t143::t144::t145::t146::t147::t148::t149::t150::t151::t152::t153::t154::t155::[]),[]⟩ y:=by
 conv => arg 2;whnf
 have HTT:=Zh (fun (W:World) (hW:Blk W q 95 #[.int .i64 kd,.int .i64 nd,.int .i64 nn,.int .i64 zt,.int .i64 zi,.int .i64 zp,.string zs,.string zh,.int .i64 za,.int .i64 zd,.string zn,.slice kx kl kc,.bool own,.int .i64 ah,.int .i64 af,.int .i64 an,.string adt]) => show W.cell? ⟨q,0,none⟩=some (.int .i64 kd)∧W.cell? ⟨q,1,none⟩=some (.int .i64 nd)∧W.cell? ⟨q,2,none⟩=some (.int .i64 nn)∧W.cell? ⟨q,3,none⟩=some (.int .i64 zt)∧W.cell? ⟨q,4,none⟩=some (.int .i64 zi)∧W.cell? ⟨q,5,none⟩=some (.int .i64 zp)∧W.cell? ⟨q,6,none⟩=some (.string zs)∧W.cell? ⟨q,7,none⟩=some (.string zh)∧W.cell? ⟨q,8,none⟩=some (.int .i64 za)∧W.cell? ⟨q,9,none⟩=some (.int .i64 zd)∧W.cell? ⟨q,10,none⟩=some (.string zn)∧W.cell? ⟨q,11,none⟩=some (.slice kx kl kc)∧W.cell? ⟨q,12,none⟩=some (.bool own)∧W.cell? ⟨q,13,none⟩=some (.int .i64 ah)∧W.cell? ⟨q,14,none⟩=some (.int .i64 af)∧W.cell? ⟨q,15,none⟩=some (.int .i64 an)∧W.cell? ⟨q,16,none⟩=some (.string adt) from
  ⟨hW.cell 0,hW.cell 1,hW.cell 2,hW.cell 3,hW.cell 4,hW.cell 5,hW.cell 6,hW.cell 7,hW.cell 8,hW.cell 9,hW.cell 10,hW.cell 11,hW.cell 12,hW.cell 13,hW.cell 14,hW.cell 15,hW.cell 16⟩)
 obtain ⟨x1,hx1⟩:∃ x,x=y.drew:=⟨_,rfl⟩
 have HX1:=Zh (Zd hx1)
 have hT:=HTT.out x1 (HBK.out.below HX1.out)
 have hS:True:=trivial
 go_wp2_with fail
 refine wp_region_two (T:=fun W => W.cell? ⟨q,0,none⟩=some (.int .i64 kd)∧W.cell? ⟨q,1,none⟩=some (.int .i64 nd)∧W.cell? ⟨q,2,none⟩=some (.int .i64 nn)∧W.cell? ⟨q,3,none⟩=some (.int .i64 zt)∧W.cell? ⟨q,4,none⟩=some (.int .i64 zi)∧W.cell? ⟨q,5,none⟩=some (.int .i64 zp)∧W.cell? ⟨q,6,none⟩=some (.string zs)∧W.cell? ⟨q,7,none⟩=some (.string zh)∧W.cell? ⟨q,8,none⟩=some (.int .i64 za)∧W.cell? ⟨q,9,none⟩=some (.int .i64 zd)∧W.cell? ⟨q,10,none⟩=some (.string zn)∧W.cell? ⟨q,11,none⟩=some (.slice kx kl kc)∧W.cell? ⟨q,12,none⟩=some (.bool own)∧W.cell? ⟨q,13,none⟩=some (.int .i64 ah)∧W.cell? ⟨q,14,none⟩=some (.int .i64 af)∧W.cell? ⟨q,15,none⟩=some (.int .i64 an)∧W.cell? ⟨q,16,none⟩=some (.string adt)) (S:=fun _ => True) (n:=99) (by kernel_rfl) ?_
 rw [← hx1]
 clear hx1
 refine tk 0 85 hT hS ?_ (hQ:=fun _ _ _ h => hP _ _ _ _ _ h)
 refine tk 1 86 hT hS ?_ (hQ:=fun _ _ _ h => hP _ _ _ _ _ h)
 try simp only [xq]
 refine tk 2 87 hT hS ?_ (hQ:=fun _ _ _ h => hP _ _ _ _ _ h)
 refine tk 3 88 hT hS ?_ (hQ:=fun _ _ _ h => hP _ _ _ _ _ h)
 try simp only [xq]
 refine tk 4 89 hT hS ?_ (hQ:=fun _ _ _ h => hP _ _ _ _ _ h)
 try simp only [xq]
 refine two_one 5 rfl (by kernel_rfl) ?_
 intro K0 hK0
 go_simp
 refine (HML.out x1).mono ?_
 rintro e y3 ⟨rfl,hb3⟩
 have HX3:=Zh (HX1.out.trans (hb3.mono HX1.out.size))
 have hT3:=HTT.out y3 (HBK.out.below HX3.out)
 refine hK0.out _ _ hT3 (fun _ _ => hS) ?_
 clear hK0 K0
 try simp only [xq]
 clear hT hb3
 have hT:=hT3
 clear hT3
 have HDU:=Zh (HDT.out y3 _ _ _ _ (HH2.out.below HX3.out).base (HH2.out.below HX3.out))
 clear HDT
 refine two_one 6 rfl (by kernel_rfl) ?_
 intro K0 hK0
 go_simp
 refine HDU.out.mono ?_
 rintro e y4 ⟨rfl,hh4,hk4⟩
 have HB4:=Zh ((HBK.out.below HX3.out).chg hk4 fun e => e HKQ.out)
 have HU:=Zh (show (∃ bd j jx,HT w1 y4 K jh bd2 j2 jx2 o2 jt bd j jx o2)∧Keeps K y y4 from ⟨hh4,(Keeps.below HX3.out).trans hk4⟩)
 have hT3:=HTT.out y4 HB4.out
 refine hK0.out _ _ hT3 (fun _ _ => hS) ?_
 clear hK0 K0
 try simp only [xq]
 clear hT hh4 hk4 HDU HML HX3 HX1
 have hT:=hT3
 clear hT3
 refine tk 7 84 hT hS ?_ (hQ:=fun _ _ _ h => hP _ _ _ _ _ h)
 refine tk 8 92 hT hS ?_ (hQ:=fun _ _ _ h => hP _ _ _ _ _ h)
 try simp only [xq]
 refine tk 9 93 hT hS ?_ (hQ:=fun _ _ _ h => hP _ _ _ _ _ h)
 refine tk 10 15 hT hS ?_ (hQ:=fun _ _ _ h => hP _ _ _ _ _ h)
 try simp only [xq]
 refine tk 11 16 hT hS ?_ (hQ:=fun _ _ _ h => hP _ _ _ _ _ h)
 try simp only [xq]
 refine two_done (by kernel_rfl) ?_ _
 clear hT HTT HB4
 go_wp2_with fail
 first | exact hQ _ _ _ _ _ _ _ _ _ _ _ HU.out | exact HU.out
end Go.Proofs.YtdacanghbepjpaaGreatDoor
namespace Go.Proofs.YtdacanghbepjpaaGreatDoor
open Go.RowKit Go.Maps
open Dsk
set_option maxHeartbeats 32000000 in
theorem pl_round {Q:Exit→Act→World→Prop} {w1 y:World} {jh jt bd9 j9 jx9 q kl kc:Nat} {kx:Option Addr} {kd nd nn zt zi zp za zd ah af an er m mf mt:Int} {zs zh zn adt md st:ByteArray} {own:Bool} {o o2:Hs} {ms:List Ml} {K:Nat→Prop} {s9:Nat}
  (HDO:Hid (Calls Tryz.prog 45 #[.pointer (some ⟨jh,0,none⟩),.agg #[.int .i64 kd,.int .i64 nd,.int .i64 nn,.int .i64 zt,.int .i64 zi,.int .i64 zp,.string zs,.string zh,.int .i64 za,.int .i64 zd,.string zn,.slice kx kl kc,.bool own,.int .i64 ah,.int .i64 af,.int .i64 an,.string adt],.int .i64 m] y fun e w9 => ∃ u bd j jx,e=.returned (.tuple #[u,.int .i64 er])∧OwnMl w9 y.heap.size u ms∧HT w1 w9 (KU K u) jh bd j jx o2 jt bd9 j9 jx9 o∧Keeps K y w9))
  (HDT:Hid (∀ (W:World) (K:Nat→Prop) (bd j jx:Nat),Below w1.heap.size w1 W→HT w1 W K jh bd j jx o2 jt bd9 j9 jx9 o→Calls Tryz.prog 59 #[.pointer (some ⟨jt,0,none⟩),.agg #[.int .i64 kd,.int .i64 nd,.int .i64 nn,.int .i64 zt,.int .i64 zi,.int .i64 zp,.string zs,.string zh,.int .i64 za,.int .i64 zd,.string zn,.slice kx kl kc],.agg #[.int .i64 mf,.int .i64 mt,.string md]] W fun e w9 => e=.returned (.tuple #[.string st,.int .i64 er])∧(∃ bd9 j9 jx9,HT w1 w9 K jh bd j jx o2 jt bd9 j9 jx9 o2)∧Keeps K W w9))
  (HML:Hid (∀ (W:World),Calls Tryz.prog 54 #[.agg #[.int .i64 kd,.int .i64 nd,.int .i64 nn,.int .i64 zt,.int .i64 zi,.int .i64 zp,.string zs,.string zh,.int .i64 za,.int .i64 zd,.string zn,.slice kx kl kc,.bool own,.int .i64 ah,.int .i64 af,.int .i64 an,.string adt],.int .i64 m] W fun e w9 => e=.returned (.agg #[.int .i64 mf,.int .i64 mt,.string md])∧Below W.heap.size W w9))
  (HBK:Hid (Blk y q 95 #[.int .i64 kd,.int .i64 nd,.int .i64 nn,.int .i64 zt,.int .i64 zi,.int .i64 zp,.string zs,.string zh,.int .i64 za,.int .i64 zd,.string zn,.slice kx kl kc,.bool own,.int .i64 ah,.int .i64 af,.int .i64 an,.string adt])) (HKQ:Hid (K q)) (HMS:Hid ((ms=[]∧st.toList.isEmpty=true)∨(ms=[⟨m,-1,st⟩]∧st.toList.isEmpty=false)))
  (HE:Hid (LEnv w1)) (HF:Hid (o2.up=true→Few o2.d o2.h s9 o2.x)) {t0 t1 t2 t3 t4 t7 t8 t9 t11 t13 t14 t15 t16 t17 t18 t19 t20 t21 t22 t23 t24 t25 t26 t27 t28 t29 t30 t31 t32 t33 t34 t35 t36 t37 t38 t39 t40 t41 t42 t43 t44 t45 t46 t47 t48 t49 t50 t51 t52 t53 t54 t55 t56 t57 t58 t59 t60 t61 t62 t63 t64 t65 t66 t67 t68 t69 t70 t71 t72 t73 t74 t75 t76 t77 t78 t79 t80 t81 t82 t83 t84 t85 t86 t87 t88 t89 t90 t91 t92 t93 t94 t95 t96 t97 t98 t99 t100 t101 t102 t103 t104 t105 t106 t107 t108 t109 t110 t111 t112 t113 t114 t115 t116 t117 t118 t119 t120 t121 t122 t123 t124 t125 t126 t127 t128 t129 t130 t131 t132 t133 t134 t135 t136 t137 t138 t139 t140 t141 t142 t143 t144 t145 t146 t147 t148 t149 t150 t151 t152 t153 t154 t155:Value}
  (hP:∀ c (a:Act) o v w,Q (.panic c) (a.put o v) w→Q (.panic c) a w) (hQ:∀ (s13 s14 s15 s16 s77 s78 s79 s80 s81 s82 s83 s84 s85 s86 s87 s88 s89 s90 s91 s92 s93 s94 s95 s96 s97 s98 s99 s100 s101 s102 s103 s104 s105 s106 s107 s108 s109 s110 s111 s112 s113 s114 s115 s116 s117 s118 s119 s120 s121 s122 s123 s124 s125 s126 s127 s128 s129 s130 s131 s132 s133 s134 s135 s136 s137 s138 s139 s140 s141 s142 s143 s144 s145 s146 s147 s148 s149 s150 s151 s152 s153 s154:Value) (wx:World),(∃ bd2 j2 jx2 bd9 j9 jx9,HT w1 wx NoK jh bd2 j2 jx2 o2 jt bd9 j9 jx9 o2)→Q .normal ⟨List.toArray (t0::t1::t2::t3::t4::(.int .i64 m)::(.pointer (some ⟨jh,0,none⟩))::t7::t8::t9::(.pointer (some ⟨jt,0,none⟩))::t11::(.pointer (some ⟨q,0,none⟩))::s13::s14::s15::s16::t17::t18::t19::t20::t21::t22::t23::t24::t25::t26::t27::t28::t29::t30::t31::t32::t33::t34::t35::t36::t37::t38::t39::t40::t41::t42::t43::t44::t45::t46::t47::t48::t49::t50::t51::t52::t53::t54::t55::t56::t57::t58::t59::t60::t61::t62::t63::t64::t65::t66::t67::t68::t69::t70::t71::t72::t73::t74::t75::t76::s77::s78::s79::s80::s81::s82::s83::s84::s85::s86::s87::s88::s89::s90::s91::s92::s93::s94::s95::s96::s97::s98::s99::s100::s101::s102::s103::s104::s105::s106::s107::s108::s109::s110::s111::s112::s113::s114::s115::s116::s117::s118::s119::s120::s121::s122::s123::s124::s125::s126::s127::s128::s129::s130::s131::s132::s133::s134::s135::s136::s137::s138::s139::s140::s141::s142::s143::s144::s145::s146::s147::s148::s149::s150::s151::s152::s153::s154::t155::[]),[]⟩ wx) :
  Code.wp Tryz.prog (plC [1,1,1,1,1,1,1,0,1,4,4,1,0,4,1,1]) Q ⟨List.toArray (t0::t1::t2::t3::t4::(.int .i64 m)::(.pointer (some ⟨jh,0,none⟩))::t7::t8::t9::(.pointer (some ⟨jt,0,none⟩))::t11::(.pointer (some ⟨q,0,none⟩))::t13::t14::t15::t16::t17::t18::t19::t20::t21::t22::t23::t24::t25::t26::t27::t28::t29::t30::t31::t32::t33::t34::t35::t36::t37::t38::t39::t40::t41::t42::t43::t44::t45::t46::t47::t48::t49::t50::t51::t52::t53::t54::t55::t56::t57::t58::t59::t60::t61::t62::t63::t64::t65::t66::t67::t68::t69::t70::t71::t72::t73::t74::t75::t76::t77::t78::t79::t80::t81::t82::t83::t84::t85::t86::t87::t88::t89::t90::t91::t92::t93::t94::t95::t96::t97::t98::t99::t100::t101::t102::t103::t104::t105::t106::t107::t108::t109::t110::t111::t112::t113::t114::t115::t116::t117::t118::t119::t120::t121::t122::t123::t124::t125::t126::t127::t128::t129::t130::t131::t132::t133::t134::t135::t136::t137::t138::t139::t140::t141::t142::t143::t144::t145::t146::t147::t148::t149::t150::t151::t152::t153::t154::t155::[]),[]⟩ y:=by
 conv => arg 2;whnf
 obtain ⟨rl,hrl⟩:∃ rl,rl=ms.length:=⟨_,rfl⟩
 have HRL:=Zh hrl
 clear hrl
 refine wp_seq_k fun L1 hL1 => ?_
 refine pl_host (Q:=Exit.then L1 Q) (s9:=s9) (st:=st) (md:=md) (mf:=mf) (mt:=mt) HDO HBK HKQ HRL (fun c a o v w h => hP c a o v w h) ?_
 intros
 rename_i ux uc y2 hu
 obtain ⟨⟨bd2,j2,jx2,hh2⟩,hu2,hk2⟩:=hu
 have HB2:=Zh (HBK.out.chg hk2 fun e => e HKQ.out)
 have HU2:=Zh hu2
 have HH2:=Zh hh2
 clear hu2 hh2 hk2 HDO HBK
 refine hL1 _ _ ?_
 refine wp_seq_k fun L2 hL2 => ?_
 refine pl_twin (Q:=Exit.then L2 Q) (ms:=ms) (s9:=s9) HDT HML HB2 (Zh (.inl HKQ.out)) HH2 (fun c a o v w h => hP c a o v w h) ?_
 intros
 rename_i y4 hu
 obtain ⟨⟨bd4,j4,jx4,hh4⟩,hk4⟩:=hu
 have HU4:=Zh (OwnRow.chg HU2.out hk4 fun k hk e => e (.inr hk))
 have HH5:=Zh (hh4.drop (K2:=NoK) fun k e => e.elim)
 clear hh4 hk4 HDT HML
 refine hL2 _ _ ?_
 refine wp_seq_k fun L3 hL3 => ?_
 have HR4:=Zh (OwnRow.rd mlRow_len HU4.out)
 rcases HMS.out with ⟨hm,hst⟩ | ⟨hm,hst⟩
 · obtain rfl:rl=0:=by rw [HRL.out,hm];rfl
   refine pl_none (Q:=Exit.then L3 Q) hst (fun c a o v w h => hP c a o v w h) ?_
   intros
   rename_i wx hwx
   refine hL3 _ _ ?_
   refine pl_same (Zh (HH5.out.below hwx)) HE HF hP ?_
   intros
   rename_i wz hwz
   exact hQ _ _ _ _ _ _ _ _ _ _ _ _ _ _ _ _ _ _ _ _ _ _ _ _ _ _ _ _ _ _ _ _ _ _ _ _ _ _ _ _ _ _ _ _ _ _ _ _ _ _ _ _ _ _ _ _ _ _ _ _ _ _ _ _ _ _ _ _ _ _ _ _ _ _ _ _ _ _ _ _ _ _ _ ⟨_,_,_,_,_,_,(HH5.out.below hwx).below hwz⟩
 obtain rfl:rl=1:=by rw [HRL.out,hm];rfl
 rw [hm] at HR4
 obtain ⟨ub,uo,hub,a0,a1,a2⟩:∃ b off,ux=some ⟨b,off,none⟩∧y4.cell? ⟨b,off,none⟩=some (.int .i64 m)∧y4.cell? ⟨b,off+1,none⟩=some (.int .i64 (-1))∧y4.cell? ⟨b,off+2,none⟩=some (.string st):=by
  obtain ⟨y9,c2,hv2,_,hel⟩:=HR4.out
  injection hv2 with e1 e2 e3
  subst e1
  obtain ⟨b,off,rfl,_,hc⟩:=hel 0 (by simp)
  exact ⟨b,off,rfl,hc 0 _ (by simp [mlRow]),hc 1 _ (by simp [mlRow]),hc 2 _ (by simp [mlRow])⟩
 subst hub
 refine pl_one (Q:=Exit.then L3 Q) hst a0 a1 a2 (fun c a o v w h => hP c a o v w h) ?_
 intros
 rename_i wx hwx
 refine hL3 _ _ ?_
 refine pl_same (Zh (HH5.out.below hwx)) HE HF hP ?_
 intros
 rename_i wz hwz
 exact hQ _ _ _ _ _ _ _ _ _ _ _ _ _ _ _ _ _ _ _ _ _ _ _ _ _ _ _ _ _ _ _ _ _ _ _ _ _ _ _ _ _ _ _ _ _ _ _ _ _ _ _ _ _ _ _ _ _ _ _ _ _ _ _ _ _ _ _ _ _ _ _ _ _ _ _ _ _ _ _ _ _ _ _ ⟨_,_,_,_,_,_,(HH5.out.below hwx).below hwz⟩
end Go.Proofs.YtdacanghbepjpaaGreatDoor
