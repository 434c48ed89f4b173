/- pieces: the end of a round of DaemonPlays. pieces: the log is told its numbers in DaemonPlays. pieces: the log's numbers are looked at in DaemonPlays. pieces: a write is followed in DaemonPlays. pieces: a write in DaemonPlays. -/
import Derived.Test.YtdacanghbepjpaaGreatDoorG12
import Derived.Test.YtdacanghbepjpaaGreatDoorG9
import Derived.Test.YtdacanghbepjpaaGreatDoorSink2
import Derived.Deep.DeepCutAuto
import Derived.Deep.CutBlock
namespace Go.Proofs.YtdacanghbepjpaaGreatDoor
set_option linter.unusedSimpArgs false
set_option linter.unusedVariables false
set_option maxRecDepth 100000
open Go.RowKit Go.Maps
open Dsk
def navH:List Nat→Code→Code
 | [],c => c
 | 0::p,.seq a _ => navH p a
 | 1::p,.seq _ b => navH p b
 | 2::p,.cond _ a _ => navH p a
 | 3::p,.cond _ _ b => navH p b
 | 4::p,.block _ c => navH p c
 | 4::p,.loop c => navH p c
 | 4::p,.scope c => navH p c
 | _,c => c
noncomputable def pyC (p:List Nat):Code:=navH p ((Tryz.f6.body).getD .skip)
set_option maxHeartbeats 32000000 in
theorem py_end {Q:Exit→Act→World→Prop} {w u1:World} {K:Nat→Prop} {jn jr jl bd j jx:Nat} {d:Dk} {h:Hl} {x:Dm} {s k:Nat} {Ls:List Sp.Span} {LV:Value} {v:Int}
  (HN:Hid (NE w u1 K jn bd j jx d h x)) (HM:Hid (PyM w u1 K jn jr jl x v (firstOf h.l) (sureOf h.l s) LV Ls)) (HWM:Hid (decide (x.many>0)=!x.out.toList.isEmpty)) {t0 t1 t2 t3 t4 t5 t8 t9 t10 t11 t12 t13 t14 t15 t16 t17 t18 t19 t20 t21 t22 t23 t24 t25 t26 t27 t28 t29 t30 t31 t32 t33 t34 t35 t36 t37 t38 t39 t40 t41 t42 t43 t44 t45 t46 t47 t48 t49 t50 t51 t52 t53 t54 t55 t56 t57 t58 t59 t60 t61 t62 t63 t64 t65 t66 t67 t68 t69 t70 t71 t72 t73 t74 t75 t76 t77 t78 t79 t80 t81 t82 t83 t84 t85 t86 t87 t88 t89 t90 t91 t92 t93 t94 t95 t96 t97 t98 t99 t100 t101 t102 t103 t104 t105 t106 t107 t108 t109 t110 t111 t112 t113 t114 t115 t116 t117 t118 t119 t120 t121 t122 t123 t124 t125 t126 t127 t128 t129 t130 t131 t132 t133 t134 t135 t136 t137 t138 t139 t140 t141 t142 t143 t144 t145 t146 t147 t148 t149 t150 t151 t152 t153 t154 t155 t156 t157 t158 t159 t160 t161 t162 t163 t164 t165 t166 t167 t168 t169 t170 t171 t172 t173 t174 t175 t176 t177 t178 t179 t180 t181 t182 t183 t184 t185 t186 t187 t188 t189 t190 t191 t192 t193 t194 t195 t196 t197 t198 t199 t200 t201 t202 t203 t204 t205 t206 t207 t208 t209 t210 t211 t212 t213 t214 t215 t216 t217 t218 t219 t220 t221 t222 t223 t224 t225 t226 t227 t228 t229 t230 t231 t232 t233 t234 t235 t236 t237 t238 t239 t240 t241:Value}
  (hP:∀ c (a:Act) o v w,Q (.panic c) (a.put o v) w→Q (.panic c) a w) (hQ:∀ (s218 s219 s220 s221 s222 s223 s224 s225 s226 s227 s228 s229 s230 s231 s232 s233 s234 s235 s236 s237 s238 s239 s240:Value)  (wx:World),(Below u1.heap.size u1 wx)→Q (.normal) ⟨List.toArray (t0::t1::t2::t3::t4::t5::(.pointer (some ⟨jn,0,none⟩))::(.pointer (some ⟨jr,0,none⟩))::t8::t9::t10::t11::t12::t13::t14::t15::t16::t17::t18::t19::t20::t21::t22::t23::t24::t25::t26::t27::t28::t29::t30::t31::t32::t33::t34::t35::t36::t37::t38::t39::t40::t41::t42::t43::t44::t45::t46::t47::t48::t49::t50::t51::t52::t53::t54::t55::t56::t57::t58::t59::t60::t61::t62::t63::t64::t65::t66::t67::t68::t69::t70::t71::t72::t73::t74::t75::t76::t77::t78::t79::t80::t81::t82::t83::t84::t85::t86::t87::t88::t89::t90::t91::t92::t93::t94::t95::t96::t97::t98::t99::t100::t101::t102::t103::t104::t105::t106::t107::t108::t109::t110::t111::t112::t113::t114::t115::t116::t117::t118::t119::t120::t121::t122::t123::t124::t125::t126::t127::t128::t129::t130::t131::t132::t133::t134::t135::t136::t137::t138::t139::t140::t141::t142::t143::t144::t145::t146::t147::t148::t149::t150::t151::t152::t153::t154::t155::t156::t157::t158::t159::t160::t161::t162::t163::t164::t165::t166::t167::t168::t169::t170::t171::t172::t173::t174::t175::t176::t177::t178::t179::t180::t181::t182::t183::t184::t185::t186::t187::t188::t189::t190::t191::t192::t193::t194::t195::t196::t197::t198::t199::t200::t201::t202::t203::t204::t205::t206::t207::t208::t209::t210::t211::t212::t213::t214::t215::t216::t217::s218::s219::s220::s221::s222::s223::s224::s225::s226::s227::s228::s229::s230::s231::s232::s233::s234::s235::s236::s237::s238::s239::s240::t241::[]),[]⟩ wx) :
  Code.wp Tryz.prog (pyC [1,1,1,1,1,1,1,1,0,1,4,4,1,0,4,1,1,1,1]) Q ⟨List.toArray (t0::t1::t2::t3::t4::t5::(.pointer (some ⟨jn,0,none⟩))::(.pointer (some ⟨jr,0,none⟩))::t8::t9::t10::t11::t12::t13::t14::t15::t16::t17::t18::t19::t20::t21::t22::t23::t24::t25::t26::t27::t28::t29::t30::t31::t32::t33::t34::t35::t36::t37::t38::t39::t40::t41::t42::t43::t44::t45::t46::t47::t48::t49::t50::t51::t52::t53::t54::t55::t56::t57::t58::t59::t60::t61::t62::t63::t64::t65::t66::t67::t68::t69::t70::t71::t72::t73::t74::t75::t76::t77::t78::t79::t80::t81::t82::t83::t84::t85::t86::t87::t88::t89::t90::t91::t92::t93::t94::t95::t96::t97::t98::t99::t100::t101::t102::t103::t104::t105::t106::t107::t108::t109::t110::t111::t112::t113::t114::t115::t116::t117::t118::t119::t120::t121::t122::t123::t124::t125::t126::t127::t128::t129::t130::t131::t132::t133::t134::t135::t136::t137::t138::t139::t140::t141::t142::t143::t144::t145::t146::t147::t148::t149::t150::t151::t152::t153::t154::t155::t156::t157::t158::t159::t160::t161::t162::t163::t164::t165::t166::t167::t168::t169::t170::t171::t172::t173::t174::t175::t176::t177::t178::t179::t180::t181::t182::t183::t184::t185::t186::t187::t188::t189::t190::t191::t192::t193::t194::t195::t196::t197::t198::t199::t200::t201::t202::t203::t204::t205::t206::t207::t208::t209::t210::t211::t212::t213::t214::t215::t216::t217::t218::t219::t220::t221::t222::t223::t224::t225::t226::t227::t228::t229::t230::t231::t232::t233::t234::t235::t236::t237::t238::t239::t240::t241::[]),[]⟩ u1:=by
 conv => arg 2;whnf
 obtain ⟨bw,hbw⟩:∃ b,b=!x.out.toList.isEmpty:=⟨_,rfl⟩
 obtain ⟨nx,hnx⟩:∃ n,n=x.next:=⟨_,rfl⟩
 obtain ⟨gp,hgp⟩:∃ n,n=x.gap:=⟨_,rfl⟩
 obtain ⟨mn,hmn⟩:∃ n,n=x.many:=⟨_,rfl⟩
 have HCU:=Lib.hid (fun (W:World) (hW:Below u1.heap.size u1 W) => show Calls Tryz.prog 16 #[.pointer (some ⟨jx,0,none⟩)] W fun e w' => e=.returned (.agg #[.int .i64 nx,.int .i64 gp])∧Below W.heap.size W w' from by
  rw [hnx,hgp]
  exact (HN.out.below hW).cursor)
 have HWT:=Lib.hid (fun (W:World) (hW:Below u1.heap.size u1 W) => show Calls Tryz.prog 17 #[.pointer (some ⟨jx,0,none⟩)] W fun e w' => e=.returned (.bool bw)∧W=w' from by
  rw [hbw]
  exact (HN.out.below hW).waiting)
 have HTT:=Lib.hid (fun (W:World) (hW:Below u1.heap.size u1 W) => show W.cell? ⟨jn,2,none⟩=some (.pointer (some ⟨jx,0,none⟩))∧W.cell? ⟨jr,1,none⟩=some (.int .i64 nx)∧W.cell? ⟨jr,2,none⟩=some (.int .i64 gp)∧W.cell? ⟨jr,4,none⟩=some (.int .i64 mn) from by
  have b:=HM.out.rb.below hW
  rw [hnx,hgp,hmn]
  exact ⟨(HN.out.below hW).cells.2.2,b.cell 1,b.cell 2,b.cell 4⟩)
 have q1:decide (mn>0)=bw:=by rw [hmn,hbw];exact HWM.out
 have q2:decide (0<mn)=bw:=q1
 have q3:(bw != bw)=false:=by simp
 clear hbw hnx hgp hmn HN HM HWM
 refine wp_seq_k fun L0 hL0 => ?_
 have HL0:=Lib.hid hL0
 clear hL0
 obtain ⟨x1,hx1⟩:∃ y,y=u1.drew:=⟨_,rfl⟩
 have HX1:=Lib.hid (show Below u1.heap.size u1 x1 by rw [hx1];exact (Below.refl _ _).drew)
 have hT:=HTT.out x1 HX1.out
 have hS:True:=trivial
 go_wp2_with fail
 refine wp_region_two (T:=fun W => W.cell? ⟨jn,2,none⟩=some (.pointer (some ⟨jx,0,none⟩))∧W.cell? ⟨jr,1,none⟩=some (.int .i64 nx)∧W.cell? ⟨jr,2,none⟩=some (.int .i64 gp)∧W.cell? ⟨jr,4,none⟩=some (.int .i64 mn)) (S:=fun _ => True) (n:=99) (by kernel_rfl) ?_
 rw [← hx1]
 clear hx1
 refine tk 0 218 hT hS ?_ (hQ:=fun _ _ _ h => hP _ _ _ _ _ h)
 refine tk 1 219 hT hS ?_ (hQ:=fun _ _ _ h => hP _ _ _ _ _ h)
 try simp only [xq]
 refine tk 2 220 hT hS ?_ (hQ:=fun _ _ _ h => hP _ _ _ _ _ h)
 refine tk 3 221 hT hS ?_ (hQ:=fun _ _ _ h => hP _ _ _ _ _ h)
 try simp only [xq]
 refine tk 5 223 hT hS ?_ (hQ:=fun _ _ _ h => hP _ _ _ _ _ h)
 refine tk 6 224 hT hS ?_ (hQ:=fun _ _ _ h => hP _ _ _ _ _ h)
 try simp only [xq]
 refine tk 7 225 hT hS ?_ (hQ:=fun _ _ _ h => hP _ _ _ _ _ h)
 refine tk 8 226 hT hS ?_ (hQ:=fun _ _ _ h => hP _ _ _ _ _ h)
 try simp only [xq]
 refine two_one 4 rfl (by kernel_rfl) ?_
 intro K0 hK0
 go_simp
 refine (HCU.out _ HX1.out).mono ?_
 rintro e y1 ⟨rfl,hb⟩
 have HY1:=Lib.hid (HX1.out.trans (hb.mono HX1.out.size))
 have hT3:=HTT.out y1 HY1.out
 refine hK0.out _ _ hT3 (fun _ _ => hS) ?_
 clear hK0 K0
 try simp only [xq]
 clear hT hb
 have hT:=hT3
 clear hT3
 refine tk 9 227 hT hS ?_ (hQ:=fun _ _ _ h => hP _ _ _ _ _ h)
 refine tk 10 228 hT hS ?_ (hQ:=fun _ _ _ h => hP _ _ _ _ _ h)
 try simp only [xq]
 refine tk 11 229 hT hS ?_ (hQ:=fun _ _ _ h => hP _ _ _ _ _ h)
 refine tk 12 230 hT hS ?_ (hQ:=fun _ _ _ h => hP _ _ _ _ _ h)
 try simp only [xq]
 refine tk 13 231 hT hS ?_ (hQ:=fun _ _ _ h => hP _ _ _ _ _ h)
 refine tk 14 232 hT hS ?_ (hQ:=fun _ _ _ h => hP _ _ _ _ _ h)
 try simp only [xq]
 refine tk 16 234 hT hS ?_ (hQ:=fun _ _ _ h => hP _ _ _ _ _ h)
 refine tk 17 235 hT hS ?_ (hQ:=fun _ _ _ h => hP _ _ _ _ _ h)
 try simp only [xq]
 refine tk 18 236 hT hS ?_ (hQ:=fun _ _ _ h => hP _ _ _ _ _ h)
 refine tk 19 237 hT hS ?_ (hQ:=fun _ _ _ h => hP _ _ _ _ _ h)
 try simp only [xq]
 refine tk 20 238 hT hS ?_ (hQ:=fun _ _ _ h => hP _ _ _ _ _ h)
 try simp only [xq]
 refine two_one 15 rfl (by kernel_rfl) ?_
 intro K0 hK0
 go_simp
 refine (HWT.out _ HY1.out).mono ?_
 rintro e y2 ⟨rfl,rfl⟩
 refine hK0.out _ _ hT (fun _ _ => hS) ?_
 clear hK0 K0
 try simp only [xq]
 refine tk 21 239 hT hS ?_ (hQ:=fun _ _ _ h => hP _ _ _ _ _ h)
 refine tk 22 240 hT hS ?_ (hQ:=fun _ _ _ h => hP _ _ _ _ _ h)
 try simp only [xq]
 refine two_done (by kernel_rfl) ?_ _
 clear hT HCU HWT HTT q1 q2 q3
 go_wp2_with fail
 refine HL0.out _ _ ?_
 clear HL0
 go_wp2_with fail
 first | exact hQ _ _ _ _ _ _ _ _ _ _ _ _ _ _ _ _ _ _ _ _ _ _ _ _ HY1.out | exact HY1.out
end Go.Proofs.YtdacanghbepjpaaGreatDoor
namespace Go.Proofs.YtdacanghbepjpaaGreatDoor
set_option linter.unusedSimpArgs false
set_option linter.unusedVariables false
set_option maxRecDepth 100000
open Go.RowKit Go.Maps
open Dsk
set_option maxHeartbeats 32000000 in
theorem py_nums {Q:Exit→Act→World→Prop} {w u1:World} {K:Nat→Prop} {jn jr jl bd j jx:Nat} {d:Dk} {h:Hl} {x:Dm} {s k:Nat} {Ls:List Sp.Span} {LV:Value} {v:Int} {fi su:Nat}
  (HN:Hid (NE w u1 K jn bd j jx d h x)) (HC:Hid (NodeC d h s x Ls 1048576 k)) (hk:k≤150) (HM:Hid (PyM w u1 K jn jr jl x v fi su LV Ls)) (HE:Hid (LEnv w)) {t0 t1 t2 t3 t4 t5 t7 t9 t10 t11 t12 t13 t14 t15 t16 t17 t18 t19 t20 t21 t22 t23 t24 t25 t26 t27 t28 t29 t30 t31 t32 t33 t34 t35 t36 t37 t38 t39 t40 t41 t42 t43 t44 t45 t46 t47 t48 t49 t50 t51 t52 t53 t54 t55 t56 t57 t58 t59 t60 t61 t62 t63 t64 t65 t66 t67 t68 t69 t70 t71 t72 t73 t74 t75 t76 t77 t78 t79 t80 t81 t82 t83 t84 t85 t86 t87 t88 t89 t90 t91 t92 t93 t94 t95 t96 t97 t98 t99 t100 t101 t102 t103 t104 t105 t106 t107 t108 t109 t110 t111 t112 t113 t114 t115 t116 t117 t118 t119 t120 t121 t122 t123 t124 t125 t126 t127 t128 t129 t130 t131 t132 t133 t134 t135 t136 t137 t138 t139 t140 t141 t142 t143 t144 t145 t146 t147 t148 t149 t150 t151 t152 t153 t154 t155 t156 t157 t158 t159 t160 t161 t162 t163 t164 t165 t166 t167 t168 t169 t170 t171 t172 t173 t174 t175 t176 t177 t178 t179 t180 t181 t182 t183 t184 t185 t186 t187 t188 t189 t190 t191 t192 t193 t194 t195 t196 t197 t198 t199 t200 t201 t202 t203 t204 t205 t206 t207 t208 t209 t210 t211 t212 t213 t214 t215 t216 t217 t218 t219 t220 t221 t222 t223 t224 t225 t226 t227 t228 t229 t230 t231 t232 t233 t234 t235 t236 t237 t238 t239 t240 t241:Value}
  (hP:∀ c (a:Act) o v w,Q (.panic c) (a.put o v) w→Q (.panic c) a w) (hQ:∀ (s73 s74 s75 s76 s77 s78 s79 s80 s81 s82 s83 s84 s85 s86 s87 s88:Value)  (wx:World),(NE w wx K jn bd j jx d h x∧PyM w wx K jn jr jl x v (firstOf h.l) (sureOf h.l s) LV Ls)→Q (.normal) ⟨List.toArray (t0::t1::t2::t3::t4::t5::(.pointer (some ⟨jn,0,none⟩))::t7::(.pointer (some ⟨jl,0,none⟩))::t9::t10::t11::t12::t13::t14::t15::t16::t17::t18::t19::t20::t21::t22::t23::t24::t25::t26::t27::t28::t29::t30::t31::t32::t33::t34::t35::t36::t37::t38::t39::t40::t41::t42::t43::t44::t45::t46::t47::t48::t49::t50::t51::t52::t53::t54::t55::t56::t57::t58::t59::t60::t61::t62::t63::t64::t65::t66::t67::t68::t69::t70::t71::t72::s73::s74::s75::s76::s77::s78::s79::s80::s81::s82::s83::s84::s85::s86::s87::s88::t89::t90::t91::t92::t93::t94::t95::t96::t97::t98::t99::t100::t101::t102::t103::t104::t105::t106::t107::t108::t109::t110::t111::t112::t113::t114::t115::t116::t117::t118::t119::t120::t121::t122::t123::t124::t125::t126::t127::t128::t129::t130::t131::t132::t133::t134::t135::t136::t137::t138::t139::t140::t141::t142::t143::t144::t145::t146::t147::t148::t149::t150::t151::t152::t153::t154::t155::t156::t157::t158::t159::t160::t161::t162::t163::t164::t165::t166::t167::t168::t169::t170::t171::t172::t173::t174::t175::t176::t177::t178::t179::t180::t181::t182::t183::t184::t185::t186::t187::t188::t189::t190::t191::t192::t193::t194::t195::t196::t197::t198::t199::t200::t201::t202::t203::t204::t205::t206::t207::t208::t209::t210::t211::t212::t213::t214::t215::t216::t217::t218::t219::t220::t221::t222::t223::t224::t225::t226::t227::t228::t229::t230::t231::t232::t233::t234::t235::t236::t237::t238::t239::t240::t241::[]),[]⟩ wx) :
  Code.wp Tryz.prog (pyC [1,1,1,1,1,1,1,1,0,1,4,4,1,0,4,1,1,0,1,2,1,0]) Q ⟨List.toArray (t0::t1::t2::t3::t4::t5::(.pointer (some ⟨jn,0,none⟩))::t7::(.pointer (some ⟨jl,0,none⟩))::t9::t10::t11::t12::t13::t14::t15::t16::t17::t18::t19::t20::t21::t22::t23::t24::t25::t26::t27::t28::t29::t30::t31::t32::t33::t34::t35::t36::t37::t38::t39::t40::t41::t42::t43::t44::t45::t46::t47::t48::t49::t50::t51::t52::t53::t54::t55::t56::t57::t58::t59::t60::t61::t62::t63::t64::t65::t66::t67::t68::t69::t70::t71::t72::t73::t74::t75::t76::t77::t78::t79::t80::t81::t82::t83::t84::t85::t86::t87::t88::t89::t90::t91::t92::t93::t94::t95::t96::t97::t98::t99::t100::t101::t102::t103::t104::t105::t106::t107::t108::t109::t110::t111::t112::t113::t114::t115::t116::t117::t118::t119::t120::t121::t122::t123::t124::t125::t126::t127::t128::t129::t130::t131::t132::t133::t134::t135::t136::t137::t138::t139::t140::t141::t142::t143::t144::t145::t146::t147::t148::t149::t150::t151::t152::t153::t154::t155::t156::t157::t158::t159::t160::t161::t162::t163::t164::t165::t166::t167::t168::t169::t170::t171::t172::t173::t174::t175::t176::t177::t178::t179::t180::t181::t182::t183::t184::t185::t186::t187::t188::t189::t190::t191::t192::t193::t194::t195::t196::t197::t198::t199::t200::t201::t202::t203::t204::t205::t206::t207::t208::t209::t210::t211::t212::t213::t214::t215::t216::t217::t218::t219::t220::t221::t222::t223::t224::t225::t226::t227::t228::t229::t230::t231::t232::t233::t234::t235::t236::t237::t238::t239::t240::t241::[]),[]⟩ u1:=by
 conv => arg 2;whnf
 have FW:=Lib.hid (HC.out.few (by omega) (by omega))
 have HFI:=Lib.hid (fun (W:World) (hW:Below u1.heap.size u1 W) => (HN.out.below hW).first FW.out)
 have HSU:=Lib.hid (fun (W:World) (hW:Below u1.heap.size u1 W) => (HN.out.below hW).sure HE.out FW.out)
 have HTT:=Lib.hid (fun (W:World) (n:NE w W K jn bd j jx d h x) => show W.cell? ⟨jn,1,none⟩=some (.pointer (some ⟨j,0,none⟩)) from n.cells.2.1)
 obtain ⟨n1,hn1⟩:∃ n1:Nat,n1=firstOf h.l:=⟨_,rfl⟩
 obtain ⟨n2,hn2⟩:∃ n1:Nat,n1=sureOf h.l s:=⟨_,rfl⟩
 rw [← hn1] at HFI
 rw [← hn2] at HSU
 have HNN:=Lib.hid (And.intro hn1 hn2)
 clear hn1 hn2 FW HC
 obtain ⟨x1,hx1⟩:∃ y,y=u1.drew:=⟨_,rfl⟩
 have HX1:=Lib.hid (show Below u1.heap.size u1 x1 by rw [hx1];exact (Below.refl _ _).drew)
 have hT:=HTT.out x1 (HN.out.below HX1.out)
 have hS:True:=trivial
 go_wp2_with fail
 refine wp_region_two (T:=fun W => W.cell? ⟨jn,1,none⟩=some (.pointer (some ⟨j,0,none⟩))) (S:=fun _ => True) (n:=99) (by kernel_rfl) ?_
 rw [← hx1]
 clear hx1
 refine tk 0 73 hT hS ?_ (hQ:=fun _ _ _ h => hP _ _ _ _ _ h)
 refine tk 1 74 hT hS ?_ (hQ:=fun _ _ _ h => hP _ _ _ _ _ h)
 try simp only [xq]
 refine tk 2 75 hT hS ?_ (hQ:=fun _ _ _ h => hP _ _ _ _ _ h)
 refine tk 3 76 hT hS ?_ (hQ:=fun _ _ _ h => hP _ _ _ _ _ h)
 try simp only [xq]
 refine tk 4 77 hT hS ?_ (hQ:=fun _ _ _ h => hP _ _ _ _ _ h)
 refine tk 5 78 hT hS ?_ (hQ:=fun _ _ _ h => hP _ _ _ _ _ h)
 try simp only [xq]
 refine tk 7 80 hT hS ?_ (hQ:=fun _ _ _ h => hP _ _ _ _ _ h)
 refine tk 8 81 hT hS ?_ (hQ:=fun _ _ _ h => hP _ _ _ _ _ h)
 try simp only [xq]
 refine tk 9 82 hT hS ?_ (hQ:=fun _ _ _ h => hP _ _ _ _ _ h)
 refine tk 10 83 hT hS ?_ (hQ:=fun _ _ _ h => hP _ _ _ _ _ h)
 try simp only [xq]
 refine two_one 6 rfl (by kernel_rfl) ?_
 intro K0 hK0
 go_simp
 refine (HFI.out _ HX1.out).mono ?_
 rintro e y1 ⟨rfl,hb⟩
 have HY1:=Lib.hid (HX1.out.trans (hb.mono HX1.out.size))
 have hT3:=HTT.out y1 (HN.out.below HY1.out)
 refine hK0.out _ _ hT3 (fun _ _ => hS) ?_
 clear hK0 K0
 try simp only [xq]
 clear hT hb
 have hT:=hT3
 clear hT3
 refine two_one 11 rfl (by kernel_rfl) ?_
 intro K0 hK0
 go_simp
 refine (HSU.out _ HY1.out).mono ?_
 rintro e y2 ⟨rfl,hb⟩
 have HY2:=Lib.hid (HY1.out.trans (hb.mono HY1.out.size))
 have hT3:=HTT.out y2 (HN.out.below HY2.out)
 refine hK0.out _ _ hT3 (fun _ _ => hS) ?_
 clear hK0 K0
 try simp only [xq]
 clear hT hb HFI HSU
 have hT:=hT3
 clear hT3
 refine tk 12 85 hT hS ?_ (hQ:=fun _ _ _ h => hP _ _ _ _ _ h)
 refine tk 13 86 hT hS ?_ (hQ:=fun _ _ _ h => hP _ _ _ _ _ h)
 try simp only [xq]
 have HM2:=Lib.hid (HM.out.below HY2.out)
 obtain ⟨hm3,hc3⟩:=HM2.out.nums (fi':=n1) (su':=n2)
 have HM3:=Lib.hid hm3
 have HN3:=Lib.hid ((HN.out.below HY2.out).row hc3 HM2.out.logS)
 have g0:=HM2.out.lb.free 0
 have g1:=HM2.out.lb.free 1
 have g2:=HM2.out.lb.cell 0
 have g3:=HM2.out.lb.cell 1
 simp only [List.getElem?_toArray,List.getElem?_cons_zero,List.getElem?_cons_succ] at g2 g3
 have hlb:=HM2.out.lb.set 0 (.int .i64 (n1:Int))
 simp only [List.setIfInBounds_toArray,List.set_cons_zero,List.set_cons_succ] at hlb
 have HN9:=Lib.hid ((HN.out.below HY2.out).row ((Chg.refl (fun k => k=jl) y2).setCell (p:=⟨jl,0,none⟩) (fun _ => rfl) (.int .i64 (n1:Int))) HM2.out.logS)
 obtain ⟨y3,hy3⟩:∃ y,y=y2.setCell ⟨jl,0,none⟩ (.int .i64 (n1:Int)):=⟨_,rfl⟩
 rw [← hy3] at hlb HN9 HM3 HN3
 have hT3:=HTT.out y3 HN9.out
 clear hm3 hc3
 refine two_one 14 rfl (by kernel_rfl) ?_
 intro K0 hK0
 go_simp
 rw [← hy3]
 refine hK0.out _ _ hT3 (fun _ _ => hS) ?_
 clear hK0 K0
 try simp only [xq]
 clear hT g0 g1 g2 g3 hy3
 have hT:=hT3
 clear hT3
 refine tk 15 87 hT hS ?_ (hQ:=fun _ _ _ h => hP _ _ _ _ _ h)
 refine tk 16 88 hT hS ?_ (hQ:=fun _ _ _ h => hP _ _ _ _ _ h)
 try simp only [xq]
 have g1:=hlb.free 1
 have g3:=hlb.cell 1
 simp only [List.getElem?_toArray,List.getElem?_cons_zero,List.getElem?_cons_succ] at g3
 obtain ⟨y4,hy4⟩:∃ y,y=y3.setCell ⟨jl,1,none⟩ (.int .i64 (n2:Int)):=⟨_,rfl⟩
 rw [← hy4] at HM3 HN3
 have hT3:=HTT.out y4 HN3.out
 refine two_one 17 rfl (by kernel_rfl) ?_
 intro K0 hK0
 go_simp
 rw [← hy4]
 refine hK0.out _ _ hT3 (fun _ _ => hS) ?_
 clear hK0 K0
 try simp only [xq]
 clear hT g1 g3 hy4 hlb hT3
 refine two_done (by kernel_rfl) ?_ _
 have HFX:=Lib.hid (show NE w y4 K jn bd j jx d h x∧PyM w y4 K jn jr jl x v (firstOf h.l) (sureOf h.l s) LV Ls from by
  rw [← HNN.out.1,← HNN.out.2]
  exact ⟨HN3.out,HM3.out⟩)
 clear HN3 HM3 HN9 HM2
 go_wp2_with fail
 first | exact hQ _ _ _ _ _ _ _ _ _ _ _ _ _ _ _ _ _ HFX.out | exact HFX.out
end Go.Proofs.YtdacanghbepjpaaGreatDoor
namespace Go.Proofs.YtdacanghbepjpaaGreatDoor
set_option linter.unusedSimpArgs false
set_option linter.unusedVariables false
set_option maxRecDepth 100000
open Go.RowKit Go.Maps
open Dsk
set_option maxHeartbeats 32000000 in
theorem py_chk {Q:Exit→Act→World→Prop} {w u1:World} {K:Nat→Prop} {jn jr jl bd j jx:Nat} {d:Dk} {h:Hl} {x:Dm} {s k:Nat} {Ls:List Sp.Span} {LV:Value} {v:Int}
  (HN:Hid (NE w u1 K jn bd j jx d h x)) (HC:Hid (NodeC d h s x Ls 1048576 k)) (hk:k≤150) (HM:Hid (PyM w u1 K jn jr jl x v (firstOf h.l) (sureOf h.l s) LV Ls)) {t0 t1 t2 t3 t4 t5 t7 t9 t10 t11 t12 t13 t14 t15 t16 t17 t18 t19 t20 t21 t22 t23 t24 t25 t26 t27 t28 t29 t30 t31 t32 t33 t34 t35 t36 t37 t38 t39 t40 t41 t42 t43 t44 t45 t46 t47 t48 t49 t50 t51 t52 t53 t54 t55 t56 t57 t58 t59 t60 t61 t62 t63 t64 t65 t66 t67 t68 t69 t70 t71 t72 t73 t74 t75 t76 t77 t78 t79 t80 t81 t82 t83 t84 t85 t86 t87 t88 t89 t90 t91 t92 t93 t94 t95 t96 t97 t98 t99 t100 t101 t102 t103 t104 t105 t106 t107 t108 t109 t110 t111 t112 t113 t114 t115 t116 t117 t118 t119 t120 t121 t122 t123 t124 t125 t126 t127 t128 t129 t130 t131 t132 t133 t134 t135 t136 t137 t138 t139 t140 t141 t142 t143 t144 t145 t146 t147 t148 t149 t150 t151 t152 t153 t154 t155 t156 t157 t158 t159 t160 t161 t162 t163 t164 t165 t166 t167 t168 t169 t170 t171 t172 t173 t174 t175 t176 t177 t178 t179 t180 t181 t182 t183 t184 t185 t186 t187 t188 t189 t190 t191 t192 t193 t194 t195 t196 t197 t198 t199 t200 t201 t202 t203 t204 t205 t206 t207 t208 t209 t210 t211 t212 t213 t214 t215 t216 t217 t218 t219 t220 t221 t222 t223 t224 t225 t226 t227 t228 t229 t230 t231 t232 t233 t234 t235 t236 t237 t238 t239 t240 t241:Value}
  (hP:∀ c (a:Act) o v w,Q (.panic c) (a.put o v) w→Q (.panic c) a w) (hQ:∀ (s89 s90 s91 s92 s93 s94 s95 s96 s97 s98 s99 s100 s101 s102 s103 s104 s105 s106 s107 s108 s109 s110 s111 s112 s113 s114 s115 s116 s117 s118 s119 s120 s121 s122:Value)  (wx:World),(Below u1.heap.size u1 wx)→Q (.normal) ⟨List.toArray (t0::t1::t2::t3::t4::t5::(.pointer (some ⟨jn,0,none⟩))::t7::(.pointer (some ⟨jl,0,none⟩))::t9::t10::t11::t12::t13::t14::t15::t16::t17::t18::t19::t20::t21::t22::t23::t24::t25::t26::t27::t28::t29::t30::t31::t32::t33::t34::t35::t36::t37::t38::t39::t40::t41::t42::t43::t44::t45::t46::t47::t48::t49::t50::t51::t52::t53::t54::t55::t56::t57::t58::t59::t60::t61::t62::t63::t64::t65::t66::t67::t68::t69::t70::t71::t72::t73::t74::t75::t76::t77::t78::t79::t80::t81::t82::t83::t84::t85::t86::t87::t88::s89::s90::s91::s92::s93::s94::s95::s96::s97::s98::s99::s100::s101::s102::s103::s104::s105::s106::s107::s108::s109::s110::s111::s112::s113::s114::s115::s116::s117::s118::s119::s120::s121::s122::t123::t124::t125::t126::t127::t128::t129::t130::t131::t132::t133::t134::t135::t136::t137::t138::t139::t140::t141::t142::t143::t144::t145::t146::t147::t148::t149::t150::t151::t152::t153::t154::t155::t156::t157::t158::t159::t160::t161::t162::t163::t164::t165::t166::t167::t168::t169::t170::t171::t172::t173::t174::t175::t176::t177::t178::t179::t180::t181::t182::t183::t184::t185::t186::t187::t188::t189::t190::t191::t192::t193::t194::t195::t196::t197::t198::t199::t200::t201::t202::t203::t204::t205::t206::t207::t208::t209::t210::t211::t212::t213::t214::t215::t216::t217::t218::t219::t220::t221::t222::t223::t224::t225::t226::t227::t228::t229::t230::t231::t232::t233::t234::t235::t236::t237::t238::t239::t240::t241::[]),[]⟩ wx) :
  Code.wp Tryz.prog (pyC [1,1,1,1,1,1,1,1,0,1,4,4,1,0,4,1,1,0,1,2,1,1,0]) Q ⟨List.toArray (t0::t1::t2::t3::t4::t5::(.pointer (some ⟨jn,0,none⟩))::t7::(.pointer (some ⟨jl,0,none⟩))::t9::t10::t11::t12::t13::t14::t15::t16::t17::t18::t19::t20::t21::t22::t23::t24::t25::t26::t27::t28::t29::t30::t31::t32::t33::t34::t35::t36::t37::t38::t39::t40::t41::t42::t43::t44::t45::t46::t47::t48::t49::t50::t51::t52::t53::t54::t55::t56::t57::t58::t59::t60::t61::t62::t63::t64::t65::t66::t67::t68::t69::t70::t71::t72::t73::t74::t75::t76::t77::t78::t79::t80::t81::t82::t83::t84::t85::t86::t87::t88::t89::t90::t91::t92::t93::t94::t95::t96::t97::t98::t99::t100::t101::t102::t103::t104::t105::t106::t107::t108::t109::t110::t111::t112::t113::t114::t115::t116::t117::t118::t119::t120::t121::t122::t123::t124::t125::t126::t127::t128::t129::t130::t131::t132::t133::t134::t135::t136::t137::t138::t139::t140::t141::t142::t143::t144::t145::t146::t147::t148::t149::t150::t151::t152::t153::t154::t155::t156::t157::t158::t159::t160::t161::t162::t163::t164::t165::t166::t167::t168::t169::t170::t171::t172::t173::t174::t175::t176::t177::t178::t179::t180::t181::t182::t183::t184::t185::t186::t187::t188::t189::t190::t191::t192::t193::t194::t195::t196::t197::t198::t199::t200::t201::t202::t203::t204::t205::t206::t207::t208::t209::t210::t211::t212::t213::t214::t215::t216::t217::t218::t219::t220::t221::t222::t223::t224::t225::t226::t227::t228::t229::t230::t231::t232::t233::t234::t235::t236::t237::t238::t239::t240::t241::[]),[]⟩ u1:=by
 conv => arg 2;whnf
 have HEN:=Lib.hid (fun (W:World) (hW:Below u1.heap.size u1 W) => (HN.out.below hW).end_ (HC.out.few (by omega) (by omega)))
 have hnx:=HC.out.next
 have hmn:=HC.out.many
 have hle:=HC.out.le
 rw [hnx] at HEN
 obtain ⟨lx,lc,hlv⟩:=HM.out.shape
 obtain ⟨n0,hn0⟩:∃ n,n=Ls.length:=⟨_,rfl⟩
 obtain ⟨n1,hn1⟩:∃ n1:Nat,n1=firstOf h.l:=⟨_,rfl⟩
 obtain ⟨n2,hn2⟩:∃ n1:Nat,n1=sureOf h.l s:=⟨_,rfl⟩
 have HTT:=Lib.hid (fun (W:World) (hW:Below u1.heap.size u1 W) => show W.cell? ⟨jn,1,none⟩=some (.pointer (some ⟨j,0,none⟩))∧W.cell? ⟨jl,0,none⟩=some (.int .i64 n1)∧W.cell? ⟨jl,1,none⟩=some (.int .i64 n2)∧W.cell? ⟨jl,2,none⟩=some (.slice lx n0 lc) from by
  have b:=HM.out.lb.below hW
  rw [hn1,hn2,hn0,← hlv]
  exact ⟨(HN.out.below hW).cells.2.1,b.cell 0,b.cell 1,b.cell 2⟩)
 rw [← hn0] at HEN hnx hmn hle
 rw [← hn1,← hn2] at hle
 have q1:((n0:Int) != n0)=false:=by simp
 have q2:decide ((n2:Int)>n0)=false:=decide_eq_false (by omega)
 have q3:decide (n0<n2)=false:=decide_eq_false (by omega)
 have q4:decide ((n0:Int)<n2)=false:=decide_eq_false (by omega)
 have q5:decide ((n1:Int)>n2)=false:=decide_eq_false (by omega)
 have q6:decide (n2<n1)=false:=decide_eq_false (by omega)
 have q7:decide ((n2:Int)<n1)=false:=decide_eq_false (by omega)
 clear hn0 hn1 hn2 hlv hnx hle HM HC
 refine wp_seq_k fun L0 hL0 => ?_
 have HL0:=Lib.hid hL0
 clear hL0
 obtain ⟨x1,hx1⟩:∃ y,y=u1.drew:=⟨_,rfl⟩
 have HX1:=Lib.hid (show Below u1.heap.size u1 x1 by rw [hx1];exact (Below.refl _ _).drew)
 have hT:=HTT.out x1 HX1.out
 have hS:True:=trivial
 go_wp2_with fail
 refine wp_region_two (T:=fun W => W.cell? ⟨jn,1,none⟩=some (.pointer (some ⟨j,0,none⟩))∧W.cell? ⟨jl,0,none⟩=some (.int .i64 n1)∧W.cell? ⟨jl,1,none⟩=some (.int .i64 n2)∧W.cell? ⟨jl,2,none⟩=some (.slice lx n0 lc)) (S:=fun _ => True) (n:=99) (by kernel_rfl) ?_
 rw [← hx1]
 clear hx1
 refine tk 0 89 hT hS ?_ (hQ:=fun _ _ _ h => hP _ _ _ _ _ h)
 refine tk 1 90 hT hS ?_ (hQ:=fun _ _ _ h => hP _ _ _ _ _ h)
 try simp only [xq]
 refine tk 2 91 hT hS ?_ (hQ:=fun _ _ _ h => hP _ _ _ _ _ h)
 refine tk 3 92 hT hS ?_ (hQ:=fun _ _ _ h => hP _ _ _ _ _ h)
 try simp only [xq]
 refine tk 5 94 hT hS ?_ (hQ:=fun _ _ _ h => hP _ _ _ _ _ h)
 refine tk 6 95 hT hS ?_ (hQ:=fun _ _ _ h => hP _ _ _ _ _ h)
 try simp only [xq]
 refine tk 7 96 hT hS ?_ (hQ:=fun _ _ _ h => hP _ _ _ _ _ h)
 refine tk 8 97 hT hS ?_ (hQ:=fun _ _ _ h => hP _ _ _ _ _ h)
 try simp only [xq]
 refine tk 9 98 hT hS ?_ (hQ:=fun _ _ _ h => hP _ _ _ _ _ h)
 try simp only [xq]
 refine two_one 4 rfl (by kernel_rfl) ?_
 intro K0 hK0
 go_simp
 refine (HEN.out _ HX1.out).mono ?_
 rintro e y1 ⟨rfl,hb⟩
 have HY1:=Lib.hid (HX1.out.trans (hb.mono HX1.out.size))
 have hT3:=HTT.out y1 HY1.out
 refine hK0.out _ _ hT3 (fun _ _ => hS) ?_
 clear hK0 K0
 try simp only [xq]
 clear hT hb
 have hT:=hT3
 clear hT3
 refine tk 10 99 hT hS ?_ (hQ:=fun _ _ _ h => hP _ _ _ _ _ h)
 refine tk 11 100 hT hS ?_ (hQ:=fun _ _ _ h => hP _ _ _ _ _ h)
 try simp only [xq]
 refine tk 12 101 hT hS ?_ (hQ:=fun _ _ _ h => hP _ _ _ _ _ h)
 refine tk 13 102 hT hS ?_ (hQ:=fun _ _ _ h => hP _ _ _ _ _ h)
 try simp only [xq]
 refine tk 14 103 hT hS ?_ (hQ:=fun _ _ _ h => hP _ _ _ _ _ h)
 refine tk 15 104 hT hS ?_ (hQ:=fun _ _ _ h => hP _ _ _ _ _ h)
 try simp only [xq]
 refine tk 16 105 hT hS ?_ (hQ:=fun _ _ _ h => hP _ _ _ _ _ h)
 refine tk 17 106 hT hS ?_ (hQ:=fun _ _ _ h => hP _ _ _ _ _ h)
 try simp only [xq]
 refine tk 18 107 hT hS ?_ (hQ:=fun _ _ _ h => hP _ _ _ _ _ h)
 refine tk 19 108 hT hS ?_ (hQ:=fun _ _ _ h => hP _ _ _ _ _ h)
 try simp only [xq]
 refine tk 20 109 hT hS ?_ (hQ:=fun _ _ _ h => hP _ _ _ _ _ h)
 refine tk 21 110 hT hS ?_ (hQ:=fun _ _ _ h => hP _ _ _ _ _ h)
 try simp only [xq]
 refine tk 22 111 hT hS ?_ (hQ:=fun _ _ _ h => hP _ _ _ _ _ h)
 refine tk 23 112 hT hS ?_ (hQ:=fun _ _ _ h => hP _ _ _ _ _ h)
 try simp only [xq]
 refine tk 24 113 hT hS ?_ (hQ:=fun _ _ _ h => hP _ _ _ _ _ h)
 refine tk 25 114 hT hS ?_ (hQ:=fun _ _ _ h => hP _ _ _ _ _ h)
 try simp only [xq]
 refine tk 26 115 hT hS ?_ (hQ:=fun _ _ _ h => hP _ _ _ _ _ h)
 refine tk 27 116 hT hS ?_ (hQ:=fun _ _ _ h => hP _ _ _ _ _ h)
 try simp only [xq]
 refine tk 28 117 hT hS ?_ (hQ:=fun _ _ _ h => hP _ _ _ _ _ h)
 refine tk 29 118 hT hS ?_ (hQ:=fun _ _ _ h => hP _ _ _ _ _ h)
 try simp only [xq]
 refine tk 30 119 hT hS ?_ (hQ:=fun _ _ _ h => hP _ _ _ _ _ h)
 refine tk 31 120 hT hS ?_ (hQ:=fun _ _ _ h => hP _ _ _ _ _ h)
 try simp only [xq]
 refine tk 32 121 hT hS ?_ (hQ:=fun _ _ _ h => hP _ _ _ _ _ h)
 refine tk 33 122 hT hS ?_ (hQ:=fun _ _ _ h => hP _ _ _ _ _ h)
 try simp only [xq]
 refine two_done (by kernel_rfl) ?_ _
 clear hT HEN HTT
 go_wp2_with fail
 refine HL0.out _ _ ?_
 clear HL0
 go_wp2_with fail
 first | exact hQ _ _ _ _ _ _ _ _ _ _ _ _ _ _ _ _ _ _ _ _ _ _ _ _ _ _ _ _ _ _ _ _ _ _ _ HY1.out | exact HY1.out
end Go.Proofs.YtdacanghbepjpaaGreatDoor
namespace Go.Proofs.YtdacanghbepjpaaGreatDoor
set_option linter.unusedSimpArgs false
set_option linter.unusedVariables false
set_option maxRecDepth 100000
open Go.RowKit Go.Maps
open Dsk
set_option maxHeartbeats 32000000 in
theorem py_app {Q:Exit→Act→World→Prop} {w u1:World} {K:Nat→Prop} {jn jr jl bd j jx:Nat} {d:Dk} {h:Hl} {x:Dm} {s k:Nat} {Ls:List Sp.Span} {LV:Value} {v:Int} {q kd an:Nat} {zt zi zp za zd aa af ab:Int} {zs zh zn adt:ByteArray} {fi su n0:Nat} {Ls2:List Sp.Span}
  (HN:Hid (NE w u1 K jn bd j jx d h x)) (HC:Hid (NodeC d h s x Ls2 1048576 k)) (hk:k≤150) (HM:Hid (PyM w u1 K jn jr jl x v fi su LV Ls))
  (HQ:Hid (Blk u1 q 59 #[.int .u8 kd,.int .i64 zt,.int .i64 zi,.int .i64 zp,.string zs,.string zh,.int .i64 za,.int .i64 zd,.string zn,.int .u8 an,.int .i64 aa,.int .i64 af,.int .i64 ab,.string adt])) (HQN:Hid (∀ b,LV.ownBlock=some b→¬ q=b)) (HE:Hid (LEnv w)) (HLN:Hid (n0=Ls.length)) (HLS:Hid (Ls2=Ls∨Ls2=Ls++[(⟨zt,zi,zp,zs,zh,za,zd,zn⟩:Sp.Span)])) {t0 t1 t2 t3 t4 t5 t7 t9 t10 t13 t14 t15 t16 t17 t18 t19 t20 t21 t22 t23 t24 t25 t26 t27 t28 t29 t30 t31 t32 t33 t34 t35 t36 t37 t38 t39 t40 t41 t42 t43 t44 t45 t46 t47 t48 t49 t50 t51 t52 t53 t54 t55 t56 t57 t58 t59 t60 t61 t62 t63 t64 t65 t66 t67 t68 t69 t70 t71 t72 t73 t74 t75 t76 t77 t78 t79 t80 t81 t82 t83 t84 t85 t86 t87 t88 t89 t90 t91 t92 t93 t94 t95 t96 t97 t98 t99 t100 t101 t102 t103 t104 t105 t106 t107 t108 t109 t110 t111 t112 t113 t114 t115 t116 t117 t118 t119 t120 t121 t122 t123 t124 t125 t126 t127 t128 t129 t130 t131 t132 t133 t134 t135 t136 t137 t138 t139 t140 t141 t142 t143 t144 t145 t146 t147 t148 t149 t150 t151 t152 t153 t154 t155 t156 t157 t158 t159 t160 t161 t162 t163 t164 t165 t166 t167 t168 t169 t170 t171 t172 t173 t174 t175 t176 t177 t178 t179 t180 t181 t182 t183 t184 t185 t186 t187 t188 t189 t190 t191 t192 t193 t194 t195 t196 t197 t198 t199 t200 t201 t202 t203 t204 t205 t206 t207 t208 t209 t210 t211 t212 t213 t214 t215 t216 t217 t218 t219 t220 t221 t222 t223 t224 t225 t226 t227 t228 t229 t230 t231 t232 t233 t234 t235 t236 t237 t238 t239 t240 t241:Value}
  (hP:∀ c (a:Act) o v w,Q (.panic c) (a.put o v) w→Q (.panic c) a w) (hQ:∀ (s54 s55 s56 s57 s58 s59 s60 s61 s62 s63 s64 s65 s66 s67 s68 s69 s70 s71 s72:Value)  (wx:World),(∃ K2 LV2,NE w wx K2 jn bd j jx d h x∧PyM w wx K2 jn jr jl x v fi su LV2 Ls2)→Q (.normal) ⟨List.toArray (t0::t1::t2::t3::t4::t5::(.pointer (some ⟨jn,0,none⟩))::t7::(.pointer (some ⟨jl,0,none⟩))::t9::t10::(.pointer (some ⟨q,0,none⟩))::(.int .i64 n0)::t13::t14::t15::t16::t17::t18::t19::t20::t21::t22::t23::t24::t25::t26::t27::t28::t29::t30::t31::t32::t33::t34::t35::t36::t37::t38::t39::t40::t41::t42::t43::t44::t45::t46::t47::t48::t49::t50::t51::t52::t53::s54::s55::s56::s57::s58::s59::s60::s61::s62::s63::s64::s65::s66::s67::s68::s69::s70::s71::s72::t73::t74::t75::t76::t77::t78::t79::t80::t81::t82::t83::t84::t85::t86::t87::t88::t89::t90::t91::t92::t93::t94::t95::t96::t97::t98::t99::t100::t101::t102::t103::t104::t105::t106::t107::t108::t109::t110::t111::t112::t113::t114::t115::t116::t117::t118::t119::t120::t121::t122::t123::t124::t125::t126::t127::t128::t129::t130::t131::t132::t133::t134::t135::t136::t137::t138::t139::t140::t141::t142::t143::t144::t145::t146::t147::t148::t149::t150::t151::t152::t153::t154::t155::t156::t157::t158::t159::t160::t161::t162::t163::t164::t165::t166::t167::t168::t169::t170::t171::t172::t173::t174::t175::t176::t177::t178::t179::t180::t181::t182::t183::t184::t185::t186::t187::t188::t189::t190::t191::t192::t193::t194::t195::t196::t197::t198::t199::t200::t201::t202::t203::t204::t205::t206::t207::t208::t209::t210::t211::t212::t213::t214::t215::t216::t217::t218::t219::t220::t221::t222::t223::t224::t225::t226::t227::t228::t229::t230::t231::t232::t233::t234::t235::t236::t237::t238::t239::t240::t241::[]),[]⟩ wx) :
  Code.wp Tryz.prog (pyC [1,1,1,1,1,1,1,1,0,1,4,4,1,0,4,1,1,0,1,2,0]) Q ⟨List.toArray (t0::t1::t2::t3::t4::t5::(.pointer (some ⟨jn,0,none⟩))::t7::(.pointer (some ⟨jl,0,none⟩))::t9::t10::(.pointer (some ⟨q,0,none⟩))::(.int .i64 n0)::t13::t14::t15::t16::t17::t18::t19::t20::t21::t22::t23::t24::t25::t26::t27::t28::t29::t30::t31::t32::t33::t34::t35::t36::t37::t38::t39::t40::t41::t42::t43::t44::t45::t46::t47::t48::t49::t50::t51::t52::t53::t54::t55::t56::t57::t58::t59::t60::t61::t62::t63::t64::t65::t66::t67::t68::t69::t70::t71::t72::t73::t74::t75::t76::t77::t78::t79::t80::t81::t82::t83::t84::t85::t86::t87::t88::t89::t90::t91::t92::t93::t94::t95::t96::t97::t98::t99::t100::t101::t102::t103::t104::t105::t106::t107::t108::t109::t110::t111::t112::t113::t114::t115::t116::t117::t118::t119::t120::t121::t122::t123::t124::t125::t126::t127::t128::t129::t130::t131::t132::t133::t134::t135::t136::t137::t138::t139::t140::t141::t142::t143::t144::t145::t146::t147::t148::t149::t150::t151::t152::t153::t154::t155::t156::t157::t158::t159::t160::t161::t162::t163::t164::t165::t166::t167::t168::t169::t170::t171::t172::t173::t174::t175::t176::t177::t178::t179::t180::t181::t182::t183::t184::t185::t186::t187::t188::t189::t190::t191::t192::t193::t194::t195::t196::t197::t198::t199::t200::t201::t202::t203::t204::t205::t206::t207::t208::t209::t210::t211::t212::t213::t214::t215::t216::t217::t218::t219::t220::t221::t222::t223::t224::t225::t226::t227::t228::t229::t230::t231::t232::t233::t234::t235::t236::t237::t238::t239::t240::t241::[]),[]⟩ u1:=by
 conv => arg 2;whnf
 have HEN:=Lib.hid (HN.out.end_ (HC.out.few (by omega) (by omega)))
 have hnx:=HC.out.next
 have hmn:=HC.out.many
 rw [hnx] at HEN
 obtain ⟨_,c1,_⟩:=HN.out.cells
 have hwn:IntKind.i64.wrap ((n0:Int)+1)=(n0:Int)+1:=by
  have h1:=HLN.out
  rw [IntKind.wrap_i64]
  rcases HLS.out with e | e
  · rw [e] at hmn;omega
  · rw [e,List.length_append] at hmn;omega
 refine wp_seq_k fun L0 hL0 => ?_
 have HL0:=Lib.hid hL0
 clear hL0
 rcases HLS.out with hls | hls
 case inl =>
  have q1:((Ls2.length:Int) == (n0:Int)+1)=false:=by rw [beq_eq_false_iff_ne,hls,HLN.out];omega
  have HLE:=Lib.hid hls
  clear hls hnx hmn
  go_wp2_with fail
  refine HEN.out.mono ?_
  rintro e y1 ⟨rfl,hb1⟩
  have HFI:=Lib.hid (show ∃ K2 LV2,NE w y1 K2 jn bd j jx d h x∧PyM w y1 K2 jn jr jl x v fi su LV2 Ls2 from by
   rw [HLE.out]
   exact ⟨K,LV,HN.out.below hb1,HM.out.below hb1⟩)
  clear hb1 HEN c1
  go_wp2_with fail
  refine HL0.out _ _ ?_
  clear HL0
  go_wp2_with fail
  first | exact hQ _ _ _ _ _ _ _ _ _ _ _ _ _ _ _ _ _ _ _ _ HFI.out | exact HFI.out
 case inr =>
 have hl2:Ls2.length=n0+1:=by rw [hls,List.length_append,HLN.out];rfl
 have q1:((Ls2.length:Int) == (n0:Int)+1)=true:=by rw [beq_iff_eq,hl2];omega
 have HLE:=Lib.hid hls
 have HNB:=Lib.hid (show n0≤1000 by omega)
 clear hls hnx hmn hl2
 go_wp2_with fail
 refine HEN.out.mono ?_
 rintro e y1 ⟨rfl,hb1⟩
 have HY1:=Lib.hid hb1
 clear hb1 HEN c1
 go_wp2_with fail
 refine HL0.out _ _ ?_
 clear HL0 q1 hwn
 obtain ⟨lx,lc,hlv⟩:=HM.out.shape
 rw [← HLN.out] at hlv
 obtain ⟨x1,hx1⟩:∃ y,y=y1.drew:=⟨_,rfl⟩
 have HX1:=Lib.hid (show Below u1.heap.size u1 x1 by rw [hx1];exact HY1.out.drew)
 have hT:(fun W:World => W.cell? ⟨q,1,none⟩=some (.int .i64 zt)∧W.cell? ⟨q,2,none⟩=some (.int .i64 zi)∧W.cell? ⟨q,3,none⟩=some (.int .i64 zp)∧W.cell? ⟨q,4,none⟩=some (.string zs)∧W.cell? ⟨q,5,none⟩=some (.string zh)∧W.cell? ⟨q,6,none⟩=some (.int .i64 za)∧W.cell? ⟨q,7,none⟩=some (.int .i64 zd)∧W.cell? ⟨q,8,none⟩=some (.string zn)) x1:=by
  have b:=HQ.out.below HX1.out
  exact ⟨b.cell 1,b.cell 2,b.cell 3,b.cell 4,b.cell 5,b.cell 6,b.cell 7,b.cell 8⟩
 have hS:x1.cell? ⟨jl,2,none⟩=some (.slice lx n0 lc):=by rw [← hlv];exact (HM.out.lb.below HX1.out).cell 2
 go_wp2_with fail
 refine wp_region_two (T:=fun W => W.cell? ⟨q,1,none⟩=some (.int .i64 zt)∧W.cell? ⟨q,2,none⟩=some (.int .i64 zi)∧W.cell? ⟨q,3,none⟩=some (.int .i64 zp)∧W.cell? ⟨q,4,none⟩=some (.string zs)∧W.cell? ⟨q,5,none⟩=some (.string zh)∧W.cell? ⟨q,6,none⟩=some (.int .i64 za)∧W.cell? ⟨q,7,none⟩=some (.int .i64 zd)∧W.cell? ⟨q,8,none⟩=some (.string zn)) (S:=fun W => W.cell? ⟨jl,2,none⟩=some (.slice lx n0 lc)) (n:=11) (by kernel_rfl) ?_
 rw [← hx1]
 clear hx1
 refine tk 0 62 hT hS ?_ (hQ:=fun _ _ _ h => hP _ _ _ _ _ h)
 refine tk 1 63 hT hS ?_ (hQ:=fun _ _ _ h => hP _ _ _ _ _ h)
 try simp only [xq]
 refine tk 2 64 hT hS ?_ (hQ:=fun _ _ _ h => hP _ _ _ _ _ h)
 refine tk 3 65 hT hS ?_ (hQ:=fun _ _ _ h => hP _ _ _ _ _ h)
 try simp only [xq]
 refine two_take 4 (some 66) (v:=?_) rfl rfl (by kernel_rfl) (by kernel_rfl) (by kernel_rfl) (by kernel_rfl) (by decide) (by kernel_rfl) (fun _ _ _ h => hP _ _ _ _ _ h) (Or.inl ⟨by rfl,?hy4⟩) hT hS ?_
 case hy4 => (intro w' hS';(try unfold S8 at hS');(try unfold T8 at hS');go_simp;(try with_reducible rfl))
 try simp only [xq]
 refine tk 5 67 hT hS ?_ (hQ:=fun _ _ _ h => hP _ _ _ _ _ h)
 refine tk 6 68 hT hS ?_ (hQ:=fun _ _ _ h => hP _ _ _ _ _ h)
 try simp only [xq]
 refine two_one 7 rfl (by kernel_rfl) ?_
 intro K0 hK0
 go_simp
 obtain ⟨x2,hx2⟩:∃ y,y=x1.alloc (.cells #[.int .i64 zt,.int .i64 zi,.int .i64 zp,.string zs,.string zh,.int .i64 za,.int .i64 zd,.string zn] 47 (0,0)):=⟨_,rfl⟩
 rw [← hx2]
 have hb2:Below x1.heap.size x1 x2:=by rw [hx2];exact (Below.refl _ _).alloc (Nat.le_refl _) _
 have HK2:=Lib.hid (show Blk x2 x1.heap.size 47 #[.int .i64 zt,.int .i64 zi,.int .i64 zp,.string zs,.string zh,.int .i64 za,.int .i64 zd,.string zn] by rw [hx2];exact Blk.alloc_new x1 _ _)
 have HX2:=Lib.hid (HX1.out.trans (hb2.mono HX1.out.size))
 have HM2:=Lib.hid (HM.out.add HN.out.jlt HN.out.base.size HX2.out)
 have HN2:=Lib.hid (HN.out.add HX2.out)
 have HQ2:=Lib.hid (HQ.out.below HX2.out)
 have hT1:(fun W:World => W.cell? ⟨q,1,none⟩=some (.int .i64 zt)∧W.cell? ⟨q,2,none⟩=some (.int .i64 zi)∧W.cell? ⟨q,3,none⟩=some (.int .i64 zp)∧W.cell? ⟨q,4,none⟩=some (.string zs)∧W.cell? ⟨q,5,none⟩=some (.string zh)∧W.cell? ⟨q,6,none⟩=some (.int .i64 za)∧W.cell? ⟨q,7,none⟩=some (.int .i64 zd)∧W.cell? ⟨q,8,none⟩=some (.string zn)) x2:=by
  have b:=HQ2.out
  exact ⟨b.cell 1,b.cell 2,b.cell 3,b.cell 4,b.cell 5,b.cell 6,b.cell 7,b.cell 8⟩
 have hS1:x2.cell? ⟨jl,2,none⟩=some (.slice lx n0 lc):=by rw [← hlv];exact HM2.out.lb.cell 2
 refine hK0.out _ _ hT1 (fun _ _ => hS1) ?_
 clear hK0 K0 hT hS hb2 hx2
 have hT:=hT1
 have hS:=hS1
 clear hT1 hS1
 try simp only [xq]
 refine two_one 8 rfl (by kernel_rfl) ?_
 intro K0 hK0
 refine step_append_rows rfl (.tmp 66) (.tmp 69) (by rfl) spRow_len (by omega) under_spans Tryz.info_span rfl (by omega) (show OwnRow spRow 8 47 x2 w.heap.size (.slice lx n0 lc) Ls from by rw [← hlv];exact HM2.out.row) (by rfl) (m:=[(⟨zt,zi,zp,zs,zh,za,zd,zn⟩:Sp.Span)]) (by rfl) (RdRow.one HK2.out rfl) (fun a _ => spRow_one a) (by have h1:=HLN.out;have h2:=HNB.out;simp;omega) (by have h1:=HLN.out;have h2:=HNB.out;simp;omega) (Nat.le_trans HN.out.base.size HX2.out.size) ?_
 intro u3 x3 hown3 hgr3 hb3
 have hch3:=chg_of_grown hgr3
 have hq3:=HQ2.out.chg hch3 (fun e => HQN.out _ (by rw [hlv];exact e) rfl)
 have hl3:=HM2.out.lb.chg hch3 (fun e => (HM2.out.kv jl (by rw [hlv];exact e)).2.2 rfl)
 obtain ⟨ux3,uc3,hu3⟩:=hown3.shape
 obtain ⟨n3,hn3⟩:∃ n3,n3=(Ls++[(⟨zt,zi,zp,zs,zh,za,zd,zn⟩:Sp.Span)]).length:=⟨_,rfl⟩
 rw [← hn3] at hu3
 subst hu3
 obtain ⟨hg1,hg2⟩:=HM2.out.grown HN2.out.jlt HN2.out.base.size (u:=.slice ux3 n3 uc3) hown3 (by
  rcases hb3 with e | e
  · rw [hlv];exact .inl e
  · exact .inr ⟨_,e,Nat.le_refl _⟩) (by rw [hlv];exact hch3)
 have hT1:(fun W:World => W.cell? ⟨q,1,none⟩=some (.int .i64 zt)∧W.cell? ⟨q,2,none⟩=some (.int .i64 zi)∧W.cell? ⟨q,3,none⟩=some (.int .i64 zp)∧W.cell? ⟨q,4,none⟩=some (.string zs)∧W.cell? ⟨q,5,none⟩=some (.string zh)∧W.cell? ⟨q,6,none⟩=some (.int .i64 za)∧W.cell? ⟨q,7,none⟩=some (.int .i64 zd)∧W.cell? ⟨q,8,none⟩=some (.string zn)) x3:=⟨hq3.cell 1,hq3.cell 2,hq3.cell 3,hq3.cell 4,hq3.cell 5,hq3.cell 6,hq3.cell 7,hq3.cell 8⟩
 have hS1:x3.cell? ⟨jl,2,none⟩=some (.slice lx n0 lc):=by rw [← hlv];exact hl3.cell 2
 have f2:=hl3.free 2
 have HFI:=Lib.hid (show ∃ K2 LV2,NE w (x3.setCell ⟨jl,2,none⟩ (.slice ux3 n3 uc3)) K2 jn bd j jx d h x∧PyM w (x3.setCell ⟨jl,2,none⟩ (.slice ux3 n3 uc3)) K2 jn jr jl x v fi su LV2 Ls2 from by
  rw [HLE.out]
  exact ⟨_,_,HN2.out.rowAdd hg2 HM2.out.grownS,hg1⟩)
 have hqj:¬ q=jl∨q=jl:=(Classical.em _).symm
 have HQJ:=Lib.hid (show ¬ q=jl from fun e => by
  have h1:=HQ2.out
  have h2:=HM2.out.lb
  rw [e] at h1
  unfold Blk at h1 h2
  rw [h1] at h2
  injection h2 with h2
  injection h2 with h2
  have:=congrArg Array.size h2
  simp at this)
 have HQ3:=Lib.hid hq3
 refine hK0.out _ _ hT1 (fun _ _ => hS1) ?_
 clear hK0 K0 hT hS hown3 hgr3 hb3 hch3 hq3 hl3 hn3 hg1 hg2 hqj
 have hT:=hT1
 have hS:=hS1
 clear hT1 hS1
 try simp only [xq]
 refine tk 9 71 hT hS ?_ (hQ:=fun _ _ _ h => hP _ _ _ _ _ h)
 refine tk 10 72 hT hS ?_ (hQ:=fun _ _ _ h => hP _ _ _ _ _ h)
 try simp only [xq]
 refine two_one 11 rfl (by kernel_rfl) ?_
 intro K0 hK0
 go_simp
 obtain ⟨x4,hx4⟩:∃ y,y=x3.setCell ⟨jl,2,none⟩ (.slice ux3 n3 uc3):=⟨_,rfl⟩
 rw [← hx4] at HFI ⊢
 have hq4:Blk x4 q 59 #[.int .u8 kd,.int .i64 zt,.int .i64 zi,.int .i64 zp,.string zs,.string zh,.int .i64 za,.int .i64 zd,.string zn,.int .u8 an,.int .i64 aa,.int .i64 af,.int .i64 ab,.string adt]:=by rw [hx4];exact HQ3.out.chg ((Chg.refl (fun k => k=jl) x3).setCell (p:=⟨jl,2,none⟩) (fun _ => rfl) _) HQJ.out
 have hT1:(fun W:World => W.cell? ⟨q,1,none⟩=some (.int .i64 zt)∧W.cell? ⟨q,2,none⟩=some (.int .i64 zi)∧W.cell? ⟨q,3,none⟩=some (.int .i64 zp)∧W.cell? ⟨q,4,none⟩=some (.string zs)∧W.cell? ⟨q,5,none⟩=some (.string zh)∧W.cell? ⟨q,6,none⟩=some (.int .i64 za)∧W.cell? ⟨q,7,none⟩=some (.int .i64 zd)∧W.cell? ⟨q,8,none⟩=some (.string zn)) x4:=⟨hq4.cell 1,hq4.cell 2,hq4.cell 3,hq4.cell 4,hq4.cell 5,hq4.cell 6,hq4.cell 7,hq4.cell 8⟩
 refine hK0.out _ _ hT1 (fun _ e => absurd rfl e) ?_
 clear hK0 K0 hT hS f2 hx4 hq4 hT1
 try simp only [xq]
 refine two_done (by kernel_rfl) ?_ _
 go_wp2_with fail
 first | exact hQ _ _ _ _ _ _ _ _ _ _ _ _ _ _ _ _ _ _ _ _ HFI.out | exact HFI.out
end Go.Proofs.YtdacanghbepjpaaGreatDoor
namespace Go.Proofs.YtdacanghbepjpaaGreatDoor
set_option linter.unusedSimpArgs false
set_option linter.unusedVariables false
set_option maxRecDepth 100000
open Go.RowKit Go.Maps
open Dsk
set_option maxHeartbeats 32000000 in
theorem py_wrote {Q:Exit→Act→World→Prop} {w u1:World} {K:Nat→Prop} {jn jr jl bd j jx:Nat} {d:Dk} {h:Hl} {x:Dm} {s k:Nat} {Ls:List Sp.Span} {LV:Value} {v:Int} {q kd an:Nat} {zt zi zp za zd aa af ab:Int} {zs zh zn adt:ByteArray} {fi su n0:Nat} {Ls2:List Sp.Span}
  (HN:Hid (NE w u1 K jn bd j jx d h x)) (HC:Hid (NodeC d h s x Ls2 1048576 k)) (hk:k≤150) (HM:Hid (PyM w u1 K jn jr jl x v fi su LV Ls))
  (HQ:Hid (Blk u1 q 59 #[.int .u8 kd,.int .i64 zt,.int .i64 zi,.int .i64 zp,.string zs,.string zh,.int .i64 za,.int .i64 zd,.string zn,.int .u8 an,.int .i64 aa,.int .i64 af,.int .i64 ab,.string adt])) (HQN:Hid (∀ b,LV.ownBlock=some b→¬ q=b)) (HE:Hid (LEnv w)) (HLN:Hid (n0=Ls.length)) (HLS:Hid (Ls2=Ls∨Ls2=Ls++[(⟨zt,zi,zp,zs,zh,za,zd,zn⟩:Sp.Span)])) {t0 t1 t2 t3 t4 t5 t7 t9 t10 t13 t14 t15 t16 t17 t18 t19 t20 t21 t22 t23 t24 t25 t26 t27 t28 t29 t30 t31 t32 t33 t34 t35 t36 t37 t38 t39 t40 t41 t42 t43 t44 t45 t46 t47 t48 t49 t50 t51 t52 t53 t54 t55 t56 t57 t58 t59 t60 t61 t62 t63 t64 t65 t66 t67 t68 t69 t70 t71 t72 t73 t74 t75 t76 t77 t78 t79 t80 t81 t82 t83 t84 t85 t86 t87 t88 t89 t90 t91 t92 t93 t94 t95 t96 t97 t98 t99 t100 t101 t102 t103 t104 t105 t106 t107 t108 t109 t110 t111 t112 t113 t114 t115 t116 t117 t118 t119 t120 t121 t122 t123 t124 t125 t126 t127 t128 t129 t130 t131 t132 t133 t134 t135 t136 t137 t138 t139 t140 t141 t142 t143 t144 t145 t146 t147 t148 t149 t150 t151 t152 t153 t154 t155 t156 t157 t158 t159 t160 t161 t162 t163 t164 t165 t166 t167 t168 t169 t170 t171 t172 t173 t174 t175 t176 t177 t178 t179 t180 t181 t182 t183 t184 t185 t186 t187 t188 t189 t190 t191 t192 t193 t194 t195 t196 t197 t198 t199 t200 t201 t202 t203 t204 t205 t206 t207 t208 t209 t210 t211 t212 t213 t214 t215 t216 t217 t218 t219 t220 t221 t222 t223 t224 t225 t226 t227 t228 t229 t230 t231 t232 t233 t234 t235 t236 t237 t238 t239 t240 t241:Value}
  (hP:∀ c (a:Act) o v w,Q (.panic c) (a.put o v) w→Q (.panic c) a w) (hQ:∀ (s54 s55 s56 s57 s58 s59 s60 s61 s62 s63 s64 s65 s66 s67 s68 s69 s70 s71 s72 s73 s74 s75 s76 s77 s78 s79 s80 s81 s82 s83 s84 s85 s86 s87 s88 s89 s90 s91 s92 s93 s94 s95 s96 s97 s98 s99 s100 s101 s102 s103 s104 s105 s106 s107 s108 s109 s110 s111 s112 s113 s114 s115 s116 s117 s118 s119 s120 s121 s122:Value)  (wx:World),(∃ K2 LV2,NE w wx K2 jn bd j jx d h x∧PyM w wx K2 jn jr jl x v (firstOf h.l) (sureOf h.l s) LV2 Ls2)→Q (.exit 1) ⟨List.toArray (t0::t1::t2::t3::t4::t5::(.pointer (some ⟨jn,0,none⟩))::t7::(.pointer (some ⟨jl,0,none⟩))::t9::t10::(.pointer (some ⟨q,0,none⟩))::(.int .i64 n0)::t13::t14::t15::t16::t17::t18::t19::t20::t21::t22::t23::t24::t25::t26::t27::t28::t29::t30::t31::t32::t33::t34::t35::t36::t37::t38::t39::t40::t41::t42::t43::t44::t45::t46::t47::t48::t49::t50::t51::t52::t53::s54::s55::s56::s57::s58::s59::s60::s61::s62::s63::s64::s65::s66::s67::s68::s69::s70::s71::s72::s73::s74::s75::s76::s77::s78::s79::s80::s81::s82::s83::s84::s85::s86::s87::s88::s89::s90::s91::s92::s93::s94::s95::s96::s97::s98::s99::s100::s101::s102::s103::s104::s105::s106::s107::s108::s109::s110::s111::s112::s113::s114::s115::s116::s117::s118::s119::s120::s121::s122::t123::t124::t125::t126::t127::t128::t129::t130::t131::t132::t133::t134::t135::t136::t137::t138::t139::t140::t141::t142::t143::t144::t145::t146::t147::t148::t149::t150::t151::t152::t153::t154::t155::t156::t157::t158::t159::t160::t161::t162::t163::t164::t165::t166::t167::t168::t169::t170::t171::t172::t173::t174::t175::t176::t177::t178::t179::t180::t181::t182::t183::t184::t185::t186::t187::t188::t189::t190::t191::t192::t193::t194::t195::t196::t197::t198::t199::t200::t201::t202::t203::t204::t205::t206::t207::t208::t209::t210::t211::t212::t213::t214::t215::t216::t217::t218::t219::t220::t221::t222::t223::t224::t225::t226::t227::t228::t229::t230::t231::t232::t233::t234::t235::t236::t237::t238::t239::t240::t241::[]),[]⟩ wx) :
  Code.wp Tryz.prog (pyC [1,1,1,1,1,1,1,1,0,1,4,4,1,0,4,1,1,0,1,2]) Q ⟨List.toArray (t0::t1::t2::t3::t4::t5::(.pointer (some ⟨jn,0,none⟩))::t7::(.pointer (some ⟨jl,0,none⟩))::t9::t10::(.pointer (some ⟨q,0,none⟩))::(.int .i64 n0)::t13::t14::t15::t16::t17::t18::t19::t20::t21::t22::t23::t24::t25::t26::t27::t28::t29::t30::t31::t32::t33::t34::t35::t36::t37::t38::t39::t40::t41::t42::t43::t44::t45::t46::t47::t48::t49::t50::t51::t52::t53::t54::t55::t56::t57::t58::t59::t60::t61::t62::t63::t64::t65::t66::t67::t68::t69::t70::t71::t72::t73::t74::t75::t76::t77::t78::t79::t80::t81::t82::t83::t84::t85::t86::t87::t88::t89::t90::t91::t92::t93::t94::t95::t96::t97::t98::t99::t100::t101::t102::t103::t104::t105::t106::t107::t108::t109::t110::t111::t112::t113::t114::t115::t116::t117::t118::t119::t120::t121::t122::t123::t124::t125::t126::t127::t128::t129::t130::t131::t132::t133::t134::t135::t136::t137::t138::t139::t140::t141::t142::t143::t144::t145::t146::t147::t148::t149::t150::t151::t152::t153::t154::t155::t156::t157::t158::t159::t160::t161::t162::t163::t164::t165::t166::t167::t168::t169::t170::t171::t172::t173::t174::t175::t176::t177::t178::t179::t180::t181::t182::t183::t184::t185::t186::t187::t188::t189::t190::t191::t192::t193::t194::t195::t196::t197::t198::t199::t200::t201::t202::t203::t204::t205::t206::t207::t208::t209::t210::t211::t212::t213::t214::t215::t216::t217::t218::t219::t220::t221::t222::t223::t224::t225::t226::t227::t228::t229::t230::t231::t232::t233::t234::t235::t236::t237::t238::t239::t240::t241::[]),[]⟩ u1:=by
 conv => arg 2;whnf
 refine wp_seq_k fun L1 hL1 => ?_
 refine py_app (Q:=Exit.then L1 Q) HN HC hk HM HQ HQN HE HLN HLS (fun c a o v w h => hP c a o v w h) ?_
 intros
 rename_i y1 hy1
 obtain ⟨K1,LV1,h1,h2⟩:=hy1
 have HN1:=Lib.hid h1
 have HM1:=Lib.hid h2
 clear h1 h2
 refine hL1 _ _ ?_
 refine wp_seq_k fun L2 hL2 => ?_
 refine py_nums (Q:=Exit.then L2 Q) HN1 HC hk HM1 HE (fun c a o v w h => hP c a o v w h) ?_
 intros
 rename_i y2 hy2
 have HN2:=Lib.hid hy2.1
 have HM2:=Lib.hid hy2.2
 clear hy2
 refine hL2 _ _ ?_
 refine wp_seq_k fun L3 hL3 => ?_
 refine py_chk (Q:=Exit.then L3 Q) HN2 HC hk HM2 (fun c a o v w h => hP c a o v w h) ?_
 intros
 rename_i y3 hy3
 have HFI:=Lib.hid (show ∃ K2 LV2,NE w y3 K2 jn bd j jx d h x∧PyM w y3 K2 jn jr jl x v (firstOf h.l) (sureOf h.l s) LV2 Ls2 from ⟨_,_,HN2.out.below hy3,HM2.out.below hy3⟩)
 refine hL3 _ _ ?_
 clear hL1 hL2 hL3
 go_wp2_with fail
 first | exact hQ _ _ _ _ _ _ _ _ _ _ _ _ _ _ _ _ _ _ _ _ _ _ _ _ _ _ _ _ _ _ _ _ _ _ _ _ _ _ _ _ _ _ _ _ _ _ _ _ _ _ _ _ _ _ _ _ _ _ _ _ _ _ _ _ _ _ _ _ _ _ HFI.out | exact HFI.out
end Go.Proofs.YtdacanghbepjpaaGreatDoor
