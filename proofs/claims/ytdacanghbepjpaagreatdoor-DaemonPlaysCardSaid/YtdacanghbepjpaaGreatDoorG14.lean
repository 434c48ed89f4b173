/- pieces: a step in DaemonPlays. pieces: an answer in DaemonPlays. pieces: which bytes come in DaemonPlays. pieces: the switch in DaemonPlays. -/
import Derived.Test.YtdacanghbepjpaaGreatDoorG13
import Derived.Test.YtdacanghbepjpaaGreatDoorSink2
import Derived.Deep.DeepCutAuto
import Derived.Deep.CutBlock
namespace Go.Proofs.YtdacanghbepjpaaGreatDoor
set_option linter.unusedSimpArgs false
set_option linter.unusedVariables false
set_option maxRecDepth 100000
open Go.RowKit Go.Maps
open Dsk
set_option maxHeartbeats 32000000 in
theorem py_step {Q:Exit→Act→World→Prop} {w u1:World} {K:Nat→Prop} {jn jr jl bd j jx:Nat} {d:Dk} {h:Hl} {x:Dm} {s k:Nat} {Ls:List Sp.Span} {LV:Value} {v:Int} {q kd an:Nat} {zt zi zp za zd aa af ab:Int} {zs zh zn adt:ByteArray} {now am:Int}
  (HN:Hid (NE w u1 K jn bd j jx d h x)) (HC:Hid (NodeC d h s x Ls 1048576 k)) (hk:k≤150) (HM:Hid (PyM w u1 K jn jr jl x v (firstOf h.l) (sureOf h.l s) LV Ls))
  (HQ:Hid (Blk u1 q 59 #[.int .u8 kd,.int .i64 zt,.int .i64 zi,.int .i64 zp,.string zs,.string zh,.int .i64 za,.int .i64 zd,.string zn,.int .u8 an,.int .i64 aa,.int .i64 af,.int .i64 ab,.string adt])) (HE:Hid (LEnv w)) (han:an<256) (ham:am=((an % 5:Nat):Int)) (hnow:0≤now∧now≤1000000) (hsent:0≤x.sent∧x.sent≤now) {t0 t1 t2 t3 t4 t5 t10 t12 t13 t14 t15 t16 t17 t18 t19 t20 t21 t22 t23 t24 t25 t26 t27 t28 t29 t30 t31 t32 t33 t34 t35 t36 t37 t38 t39 t40 t41 t42 t43 t44 t45 t46 t47 t48 t49 t50 t51 t52 t53 t54 t55 t56 t57 t58 t59 t60 t61 t62 t63 t64 t65 t66 t67 t68 t69 t70 t71 t72 t73 t74 t75 t76 t77 t78 t79 t80 t81 t82 t83 t84 t85 t86 t87 t88 t89 t90 t91 t92 t93 t94 t95 t96 t97 t98 t99 t100 t101 t102 t103 t104 t105 t106 t107 t108 t109 t110 t111 t112 t113 t114 t115 t116 t117 t118 t119 t120 t121 t122 t123 t124 t125 t126 t127 t128 t129 t130 t131 t132 t133 t134 t135 t136 t137 t138 t139 t140 t141 t142 t143 t144 t145 t146 t147 t148 t149 t150 t151 t152 t153 t154 t155 t156 t157 t158 t159 t160 t161 t162 t163 t164 t165 t166 t167 t168 t169 t170 t171 t172 t173 t174 t175 t176 t177 t178 t179 t180 t181 t182 t183 t184 t185 t186 t187 t188 t189 t190 t191 t192 t193 t194 t195 t196 t197 t198 t199 t200 t201 t202 t203 t204 t205 t206 t207 t208 t209 t210 t211 t212 t213 t214 t215 t216 t217 t218 t219 t220 t221 t222 t223 t224 t225 t226 t227 t228 t229 t230 t231 t232 t233 t234 t235 t236 t237 t238 t239 t240 t241:Value}
  (hP:∀ c (a:Act) o v w,Q (.panic c) (a.put o v) w→Q (.panic c) a w) (hQ:∀ (s19 s20 s126 s127 s128 s129 s130 s131 s132 s133 s134 s135 s136 s137 s138 s139 s140 s141 s142 s143 s144 s145 s146 s147 s148 s149 s150:Value)  (wx:World),(∃ d2 v2,NE w wx K jn bd j jx d2 h (stpR (firstOf h.l) (sureOf h.l s) Ls (now+am) x).2∧NodeC d2 h s (stpR (firstOf h.l) (sureOf h.l s) Ls (now+am) x).2 Ls 1048576 (k+1)∧PyM w wx K jn jr jl (stpR (firstOf h.l) (sureOf h.l s) Ls (now+am) x).2 v2 (firstOf h.l) (sureOf h.l s) LV Ls)→Q (.normal) ⟨List.toArray (t0::t1::t2::t3::t4::t5::(.pointer (some ⟨jn,0,none⟩))::(.pointer (some ⟨jr,0,none⟩))::(.pointer (some ⟨jl,0,none⟩))::(.int .i64 (now+am))::t10::(.pointer (some ⟨q,0,none⟩))::t12::t13::t14::t15::t16::t17::t18::s19::s20::t21::t22::t23::t24::t25::t26::t27::t28::t29::t30::t31::t32::t33::t34::t35::t36::t37::t38::t39::t40::t41::t42::t43::t44::t45::t46::t47::t48::t49::t50::t51::t52::t53::t54::t55::t56::t57::t58::t59::t60::t61::t62::t63::t64::t65::t66::t67::t68::t69::t70::t71::t72::t73::t74::t75::t76::t77::t78::t79::t80::t81::t82::t83::t84::t85::t86::t87::t88::t89::t90::t91::t92::t93::t94::t95::t96::t97::t98::t99::t100::t101::t102::t103::t104::t105::t106::t107::t108::t109::t110::t111::t112::t113::t114::t115::t116::t117::t118::t119::t120::t121::t122::t123::t124::t125::s126::s127::s128::s129::s130::s131::s132::s133::s134::s135::s136::s137::s138::s139::s140::s141::s142::s143::s144::s145::s146::s147::s148::s149::s150::t151::t152::t153::t154::t155::t156::t157::t158::t159::t160::t161::t162::t163::t164::t165::t166::t167::t168::t169::t170::t171::t172::t173::t174::t175::t176::t177::t178::t179::t180::t181::t182::t183::t184::t185::t186::t187::t188::t189::t190::t191::t192::t193::t194::t195::t196::t197::t198::t199::t200::t201::t202::t203::t204::t205::t206::t207::t208::t209::t210::t211::t212::t213::t214::t215::t216::t217::t218::t219::t220::t221::t222::t223::t224::t225::t226::t227::t228::t229::t230::t231::t232::t233::t234::t235::t236::t237::t238::t239::t240::t241::[]),[]⟩ wx) :
  Code.wp Tryz.prog (pyC [1,1,1,1,1,1,1,1,0,1,4,4,1,0,4,1,1,1,0,1,4,1,3]) Q ⟨List.toArray (t0::t1::t2::t3::t4::t5::(.pointer (some ⟨jn,0,none⟩))::(.pointer (some ⟨jr,0,none⟩))::(.pointer (some ⟨jl,0,none⟩))::(.int .i64 now)::t10::(.pointer (some ⟨q,0,none⟩))::t12::t13::t14::t15::t16::t17::t18::t19::t20::t21::t22::t23::t24::t25::t26::t27::t28::t29::t30::t31::t32::t33::t34::t35::t36::t37::t38::t39::t40::t41::t42::t43::t44::t45::t46::t47::t48::t49::t50::t51::t52::t53::t54::t55::t56::t57::t58::t59::t60::t61::t62::t63::t64::t65::t66::t67::t68::t69::t70::t71::t72::t73::t74::t75::t76::t77::t78::t79::t80::t81::t82::t83::t84::t85::t86::t87::t88::t89::t90::t91::t92::t93::t94::t95::t96::t97::t98::t99::t100::t101::t102::t103::t104::t105::t106::t107::t108::t109::t110::t111::t112::t113::t114::t115::t116::t117::t118::t119::t120::t121::t122::t123::t124::t125::t126::t127::t128::t129::t130::t131::t132::t133::t134::t135::t136::t137::t138::t139::t140::t141::t142::t143::t144::t145::t146::t147::t148::t149::t150::t151::t152::t153::t154::t155::t156::t157::t158::t159::t160::t161::t162::t163::t164::t165::t166::t167::t168::t169::t170::t171::t172::t173::t174::t175::t176::t177::t178::t179::t180::t181::t182::t183::t184::t185::t186::t187::t188::t189::t190::t191::t192::t193::t194::t195::t196::t197::t198::t199::t200::t201::t202::t203::t204::t205::t206::t207::t208::t209::t210::t211::t212::t213::t214::t215::t216::t217::t218::t219::t220::t221::t222::t223::t224::t225::t226::t227::t228::t229::t230::t231::t232::t233::t234::t235::t236::t237::t238::t239::t240::t241::[]),[]⟩ u1:=by
 conv => arg 2;whnf
 have hn2:now+am≤1000004:=by omega
 have hn3:0≤now+am:=by omega
 obtain ⟨d2,e1,n2⟩:=HC.out.stpR (by omega) (by omega) (now+am)
 have hst:=HN.out.step HE.out (HC.out.few (by omega) (by omega)) (now+am) ⟨by omega,by omega⟩ e1
 obtain ⟨R,hR⟩:∃ R,R=stpR (firstOf h.l) (sureOf h.l s) Ls (now+am) x:=⟨_,rfl⟩
 rw [← hR] at hst n2
 simp only at hst
 have HRS:=Lib.hid (fun (W:World) (m:PyM w W K jn jr jl x v (firstOf h.l) (sureOf h.l s) LV Ls) => show Calls Tryz.prog 33 #[.pointer (some ⟨jr,0,none⟩),.pointer (some ⟨jl,0,none⟩),.int .i64 (now+am)] W (StepD jr W R) from by
  rw [hR]
  exact refStep_node HC.out (by omega) (by omega) m ⟨by omega,by omega⟩ ⟨by omega,by omega⟩)
 have HST:=Lib.hid hst
 have HN2:=Lib.hid n2
 have HR2:=Lib.hid hR
 obtain ⟨_,_,c2⟩:=HN.out.cells
 have c9:=HQ.out.cell 9
 simp only [List.getElem?_toArray,List.getElem?_cons_zero,List.getElem?_cons_succ] at c9
 have hwa:IntKind.i64.wrap (an:Int)=(an:Int):=by rw [IntKind.wrap_i64];omega
 have htm:(an:Int).tmod 5=am:=by rw [ham,Int.tmod_eq_emod_of_nonneg (by omega)];rfl
 have hwn:IntKind.i64.wrap (now+am)=now+am:=by rw [IntKind.wrap_i64];omega
 obtain ⟨ob,X2⟩:=R
 have q1:(ob.toList != ob.toList)=false:=by simp
 clear hst n2 hR e1 ham
 simp only at HST HN2
 refine wp_seq_k fun L0 hL0 => ?_
 have HL0:=Lib.hid hL0
 clear hL0
 go_wp2_with fail
 refine HL0.out _ _ ?_
 clear HL0 c9 hwa htm hwn
 refine wp_seq_k fun L1 hL1 => ?_
 have HL1:=Lib.hid hL1
 clear hL1
 go_wp2_with fail
 refine HST.out.mono ?_
 rintro e y1 ⟨rfl,hn4,hk4⟩
 have HN4:=Lib.hid hn4
 have HM4:=Lib.hid (HM.out.keeps hk4)
 clear hn4 hk4 HST HN c2
 go_wp2_with fail
 refine HL1.out _ _ ?_
 clear HL1
 go_wp2_with fail
 refine (HRS.out y1 HM4.out).mono ?_
 rintro e y2 ⟨rfl,⟨v2,hb2,hs2⟩,hc2⟩
 have HFI:=Lib.hid (show ∃ d2 v2,NE w y2 K jn bd j jx d2 h (stpR (firstOf h.l) (sureOf h.l s) Ls (now+am) x).2∧NodeC d2 h s (stpR (firstOf h.l) (sureOf h.l s) Ls (now+am) x).2 Ls 1048576 (k+1)∧PyM w y2 K jn jr jl (stpR (firstOf h.l) (sureOf h.l s) Ls (now+am) x).2 v2 (firstOf h.l) (sureOf h.l s) LV Ls from by
  rw [← HR2.out]
  exact ⟨d2,v2,HN4.out.row hc2 HM4.out.turnS,HN2.out,HM4.out.turned hb2 hs2 hc2⟩)
 clear hb2 hs2 hc2 HRS HN4 HM4 HN2 HR2
 go_wp2_with fail
 first | exact hQ _ _ _ _ _ _ _ _ _ _ _ _ _ _ _ _ _ _ _ _ _ _ _ _ _ _ _ _ HFI.out | exact HFI.out
end Go.Proofs.YtdacanghbepjpaaGreatDoor
namespace Go.Proofs.YtdacanghbepjpaaGreatDoor
set_option linter.unusedSimpArgs false
set_option linter.unusedVariables false
set_option maxRecDepth 100000
open Go.RowKit Go.Maps
open Dsk
set_option maxHeartbeats 32000000 in
theorem py_take {Q:Exit→Act→World→Prop} {w u1:World} {K:Nat→Prop} {jn jr jl bd j jx:Nat} {d:Dk} {h:Hl} {x:Dm} {s k:Nat} {Ls:List Sp.Span} {LV:Value} {v:Int} {dt:ByteArray}
  (HN:Hid (NE w u1 K jn bd j jx d h x)) (HC:Hid (NodeC d h s x Ls 1048576 k)) (hk:k≤150) (HM:Hid (PyM w u1 K jn jr jl x v (firstOf h.l) (sureOf h.l s) LV Ls)) (hdt:dt.size≤maxLen) {t0 t1 t2 t3 t4 t5 t8 t9 t10 t11 t12 t14 t15 t16 t17 t18 t19 t20 t21 t22 t23 t24 t25 t26 t27 t28 t29 t30 t31 t32 t33 t34 t35 t36 t37 t38 t39 t40 t41 t42 t43 t44 t45 t46 t47 t48 t49 t50 t51 t52 t53 t54 t55 t56 t57 t58 t59 t60 t61 t62 t63 t64 t65 t66 t67 t68 t69 t70 t71 t72 t73 t74 t75 t76 t77 t78 t79 t80 t81 t82 t83 t84 t85 t86 t87 t88 t89 t90 t91 t92 t93 t94 t95 t96 t97 t98 t99 t100 t101 t102 t103 t104 t105 t106 t107 t108 t109 t110 t111 t112 t113 t114 t115 t116 t117 t118 t119 t120 t121 t122 t123 t124 t125 t126 t127 t128 t129 t130 t131 t132 t133 t134 t135 t136 t137 t138 t139 t140 t141 t142 t143 t144 t145 t146 t147 t148 t149 t150 t151 t152 t153 t154 t155 t156 t157 t158 t159 t160 t161 t162 t163 t164 t165 t166 t167 t168 t169 t170 t171 t172 t173 t174 t175 t176 t177 t178 t179 t180 t181 t182 t183 t184 t185 t186 t187 t188 t189 t190 t191 t192 t193 t194 t195 t196 t197 t198 t199 t200 t201 t202 t203 t204 t205 t206 t207 t208 t209 t210 t211 t212 t213 t214 t215 t216 t217 t218 t219 t220 t221 t222 t223 t224 t225 t226 t227 t228 t229 t230 t231 t232 t233 t234 t235 t236 t237 t238 t239 t240 t241:Value}
  (hP:∀ c (a:Act) o v w,Q (.panic c) (a.put o v) w→Q (.panic c) a w) (hQ:∀ (s15 s16 s17 s18 s195 s196 s197 s198 s199 s200 s201 s202 s203 s204 s205 s206 s207 s208 s209 s210 s211 s212 s213 s214 s215 s216 s217:Value)  (wx:World),(∃ d2 v2,NE w wx K jn bd j jx d2 h (tkR dt.data.toList x).2∧NodeC d2 h s (tkR dt.data.toList x).2 Ls 1048576 (k+1)∧PyM w wx K jn jr jl (tkR dt.data.toList x).2 v2 (firstOf h.l) (sureOf h.l s) LV Ls)→Q (.normal) ⟨List.toArray (t0::t1::t2::t3::t4::t5::(.pointer (some ⟨jn,0,none⟩))::(.pointer (some ⟨jr,0,none⟩))::t8::t9::t10::t11::t12::(.string dt)::t14::s15::s16::s17::s18::t19::t20::t21::t22::t23::t24::t25::t26::t27::t28::t29::t30::t31::t32::t33::t34::t35::t36::t37::t38::t39::t40::t41::t42::t43::t44::t45::t46::t47::t48::t49::t50::t51::t52::t53::t54::t55::t56::t57::t58::t59::t60::t61::t62::t63::t64::t65::t66::t67::t68::t69::t70::t71::t72::t73::t74::t75::t76::t77::t78::t79::t80::t81::t82::t83::t84::t85::t86::t87::t88::t89::t90::t91::t92::t93::t94::t95::t96::t97::t98::t99::t100::t101::t102::t103::t104::t105::t106::t107::t108::t109::t110::t111::t112::t113::t114::t115::t116::t117::t118::t119::t120::t121::t122::t123::t124::t125::t126::t127::t128::t129::t130::t131::t132::t133::t134::t135::t136::t137::t138::t139::t140::t141::t142::t143::t144::t145::t146::t147::t148::t149::t150::t151::t152::t153::t154::t155::t156::t157::t158::t159::t160::t161::t162::t163::t164::t165::t166::t167::t168::t169::t170::t171::t172::t173::t174::t175::t176::t177::t178::t179::t180::t181::t182::t183::t184::t185::t186::t187::t188::t189::t190::t191::t192::t193::t194::s195::s196::s197::s198::s199::s200::s201::s202::s203::s204::s205::s206::s207::s208::s209::s210::s211::s212::s213::s214::s215::s216::s217::t218::t219::t220::t221::t222::t223::t224::t225::t226::t227::t228::t229::t230::t231::t232::t233::t234::t235::t236::t237::t238::t239::t240::t241::[]),[]⟩ wx) :
  Code.wp Tryz.prog (pyC [1,1,1,1,1,1,1,1,0,1,4,4,1,0,4,1,1,1,0,1,4,1,2,1,1]) Q ⟨List.toArray (t0::t1::t2::t3::t4::t5::(.pointer (some ⟨jn,0,none⟩))::(.pointer (some ⟨jr,0,none⟩))::t8::t9::t10::t11::t12::(.string dt)::t14::t15::t16::t17::t18::t19::t20::t21::t22::t23::t24::t25::t26::t27::t28::t29::t30::t31::t32::t33::t34::t35::t36::t37::t38::t39::t40::t41::t42::t43::t44::t45::t46::t47::t48::t49::t50::t51::t52::t53::t54::t55::t56::t57::t58::t59::t60::t61::t62::t63::t64::t65::t66::t67::t68::t69::t70::t71::t72::t73::t74::t75::t76::t77::t78::t79::t80::t81::t82::t83::t84::t85::t86::t87::t88::t89::t90::t91::t92::t93::t94::t95::t96::t97::t98::t99::t100::t101::t102::t103::t104::t105::t106::t107::t108::t109::t110::t111::t112::t113::t114::t115::t116::t117::t118::t119::t120::t121::t122::t123::t124::t125::t126::t127::t128::t129::t130::t131::t132::t133::t134::t135::t136::t137::t138::t139::t140::t141::t142::t143::t144::t145::t146::t147::t148::t149::t150::t151::t152::t153::t154::t155::t156::t157::t158::t159::t160::t161::t162::t163::t164::t165::t166::t167::t168::t169::t170::t171::t172::t173::t174::t175::t176::t177::t178::t179::t180::t181::t182::t183::t184::t185::t186::t187::t188::t189::t190::t191::t192::t193::t194::t195::t196::t197::t198::t199::t200::t201::t202::t203::t204::t205::t206::t207::t208::t209::t210::t211::t212::t213::t214::t215::t216::t217::t218::t219::t220::t221::t222::t223::t224::t225::t226::t227::t228::t229::t230::t231::t232::t233::t234::t235::t236::t237::t238::t239::t240::t241::[]),[]⟩ u1:=by
 conv => arg 2;whnf
 obtain ⟨a1,a2,a3,a4,a5,a6,a7⟩:=HC.out.asks (by omega)
 have hpo:=HC.out.node.out.pos
 obtain ⟨d2,e1,n2⟩:=HC.out.tkR (by omega) (by omega) dt.data.toList
 have hst:=HN.out.take (HC.out.few (by omega) (by omega)) dt hdt e1
 have hms:=tk_many dt.data.toList x
 have hsn:=tk_sent dt.data.toList x
 have hrt:=fun (W:World) (m:PyM w W K jn jr jl x v (firstOf h.l) (sureOf h.l s) LV Ls) => refTake_any dt hdt m.rb ⟨by omega,by omega⟩ ⟨by omega,by omega⟩
 obtain ⟨R,hR⟩:∃ R,R=tkR dt.data.toList x:=⟨_,rfl⟩
 rw [← hR] at hst n2 hms hsn hrt
 simp only at hst
 have HST:=Lib.hid hst
 have HN2:=Lib.hid n2
 have HR2:=Lib.hid hR
 have HRT:=Lib.hid hrt
 have HSN:=Lib.hid (fun (m:x.many>0→v=x.sent) => show R.2.many>0→v=R.2.sent from fun e => by rw [hsn];exact m (by omega))
 obtain ⟨_,_,c2⟩:=HN.out.cells
 obtain ⟨⟨rb,re⟩,X2⟩:=R
 have q1:(rb != rb)=false:=by simp
 have q2:(re != re)=false:=by simp
 clear hst n2 hR e1 hms hsn hrt a1 a2 a3 a4 a5 a6 a7 hpo
 simp only at HST HN2 HRT
 refine wp_seq_k fun L0 hL0 => ?_
 have HL0:=Lib.hid hL0
 clear hL0
 go_wp2_with fail
 refine HST.out.mono ?_
 rintro e y1 ⟨rfl,hn4,hk4⟩
 have HN4:=Lib.hid hn4
 have HM4:=Lib.hid (HM.out.keeps hk4)
 clear hn4 hk4 HST HN c2
 go_wp2_with fail
 refine HL0.out _ _ ?_
 clear HL0
 refine wp_seq_k fun L1 hL1 => ?_
 have HL1:=Lib.hid hL1
 clear hL1
 go_wp2_with fail
 refine (HRT.out y1 HM4.out).mono ?_
 rintro e y2 ⟨rfl,hb2,hc2⟩
 have HFI:=Lib.hid (show ∃ d2 v2,NE w y2 K jn bd j jx d2 h (tkR dt.data.toList x).2∧NodeC d2 h s (tkR dt.data.toList x).2 Ls 1048576 (k+1)∧PyM w y2 K jn jr jl (tkR dt.data.toList x).2 v2 (firstOf h.l) (sureOf h.l s) LV Ls from by
  rw [← HR2.out]
  exact ⟨d2,v,HN4.out.row hc2 HM4.out.turnS,HN2.out,HM4.out.turned hb2 (HSN.out HM4.out.snt) hc2⟩)
 clear hb2 hc2 HRT HN4 HM4 HN2 HR2 HSN
 go_wp2_with fail
 refine HL1.out _ _ ?_
 clear HL1
 go_wp2_with fail
 first | exact hQ _ _ _ _ _ _ _ _ _ _ _ _ _ _ _ _ _ _ _ _ _ _ _ _ _ _ _ _ HFI.out | exact HFI.out
end Go.Proofs.YtdacanghbepjpaaGreatDoor
namespace Go.Proofs.YtdacanghbepjpaaGreatDoor
set_option linter.unusedSimpArgs false
set_option linter.unusedVariables false
set_option maxRecDepth 100000
open Go.RowKit Go.Maps
open Dsk
theorem encAck_size (h f n:Int):(encAck h f n).1.size≤maxLen:=by
 unfold encAck
 split
 · rename_i k;exact ackB_size k
 · show (⟨#[]⟩:ByteArray).size≤maxLen;decide
set_option maxHeartbeats 32000000 in
theorem py_ack {Q:Exit→Act→World→Prop} {w u1:World} {K:Nat→Prop} {jn jr jl fi su:Nat} {x:Dm} {Ls:List Sp.Span} {LV:Value} {v:Int} {q kd an:Nat} {zt zi zp za zd aa af ab:Int} {zs zh zn adt:ByteArray} {ho:Int}
  (HM:Hid (PyM w u1 K jn jr jl x v fi su LV Ls)) (HQ:Hid (Blk u1 q 59 #[.int .u8 kd,.int .i64 zt,.int .i64 zi,.int .i64 zp,.string zs,.string zh,.int .i64 za,.int .i64 zd,.string zn,.int .u8 an,.int .i64 aa,.int .i64 af,.int .i64 ab,.string adt])) (han:an<256) (hb:-1000000000000≤x.next∧x.next≤1000000000000) (hm:0≤x.many∧x.many≤1000) {t0 t1 t2 t3 t4 t6 t8 t9 t10 t12 t14 t15 t16 t17 t18 t19 t20 t21 t22 t23 t24 t25 t26 t27 t28 t29 t30 t31 t32 t33 t34 t35 t36 t37 t38 t39 t40 t41 t42 t43 t44 t45 t46 t47 t48 t49 t50 t51 t52 t53 t54 t55 t56 t57 t58 t59 t60 t61 t62 t63 t64 t65 t66 t67 t68 t69 t70 t71 t72 t73 t74 t75 t76 t77 t78 t79 t80 t81 t82 t83 t84 t85 t86 t87 t88 t89 t90 t91 t92 t93 t94 t95 t96 t97 t98 t99 t100 t101 t102 t103 t104 t105 t106 t107 t108 t109 t110 t111 t112 t113 t114 t115 t116 t117 t118 t119 t120 t121 t122 t123 t124 t125 t126 t127 t128 t129 t130 t131 t132 t133 t134 t135 t136 t137 t138 t139 t140 t141 t142 t143 t144 t145 t146 t147 t148 t149 t150 t151 t152 t153 t154 t155 t156 t157 t158 t159 t160 t161 t162 t163 t164 t165 t166 t167 t168 t169 t170 t171 t172 t173 t174 t175 t176 t177 t178 t179 t180 t181 t182 t183 t184 t185 t186 t187 t188 t189 t190 t191 t192 t193 t194 t195 t196 t197 t198 t199 t200 t201 t202 t203 t204 t205 t206 t207 t208 t209 t210 t211 t212 t213 t214 t215 t216 t217 t218 t219 t220 t221 t222 t223 t224 t225 t226 t227 t228 t229 t230 t231 t232 t233 t234 t235 t236 t237 t238 t239 t240 t241:Value}
  (hP:∀ c (a:Act) o v w,Q (.panic c) (a.put o v) w→Q (.panic c) a w) (hQ:∀ (s14 s160 s161 s162 s163 s164 s165 s166 s167 s168 s169 s170 s171 s172 s173 s174 s175 s176 s177 s178 s179 s180 s181 s182 s183 s184 s185 s186 s187 s188 s189 s190 s191 s192 s193 s194:Value) (dt:ByteArray) (wx:World),(dt.size≤maxLen∧Below u1.heap.size u1 wx)→Q (.normal) ⟨List.toArray (t0::t1::t2::t3::t4::(.int .i64 ho)::t6::(.pointer (some ⟨jr,0,none⟩))::t8::t9::t10::(.pointer (some ⟨q,0,none⟩))::t12::(.string dt)::s14::t15::t16::t17::t18::t19::t20::t21::t22::t23::t24::t25::t26::t27::t28::t29::t30::t31::t32::t33::t34::t35::t36::t37::t38::t39::t40::t41::t42::t43::t44::t45::t46::t47::t48::t49::t50::t51::t52::t53::t54::t55::t56::t57::t58::t59::t60::t61::t62::t63::t64::t65::t66::t67::t68::t69::t70::t71::t72::t73::t74::t75::t76::t77::t78::t79::t80::t81::t82::t83::t84::t85::t86::t87::t88::t89::t90::t91::t92::t93::t94::t95::t96::t97::t98::t99::t100::t101::t102::t103::t104::t105::t106::t107::t108::t109::t110::t111::t112::t113::t114::t115::t116::t117::t118::t119::t120::t121::t122::t123::t124::t125::t126::t127::t128::t129::t130::t131::t132::t133::t134::t135::t136::t137::t138::t139::t140::t141::t142::t143::t144::t145::t146::t147::t148::t149::t150::t151::t152::t153::t154::t155::t156::t157::t158::t159::s160::s161::s162::s163::s164::s165::s166::s167::s168::s169::s170::s171::s172::s173::s174::s175::s176::s177::s178::s179::s180::s181::s182::s183::s184::s185::s186::s187::s188::s189::s190::s191::s192::s193::s194::t195::t196::t197::t198::t199::t200::t201::t202::t203::t204::t205::t206::t207::t208::t209::t210::t211::t212::t213::t214::t215::t216::t217::t218::t219::t220::t221::t222::t223::t224::t225::t226::t227::t228::t229::t230::t231::t232::t233::t234::t235::t236::t237::t238::t239::t240::t241::[]),[]⟩ wx) :
  Code.wp Tryz.prog (pyC [1,1,1,1,1,1,1,1,0,1,4,4,1,0,4,1,1,1,0,1,4,1,2,1,0,1,2]) Q ⟨List.toArray (t0::t1::t2::t3::t4::(.int .i64 ho)::t6::(.pointer (some ⟨jr,0,none⟩))::t8::t9::t10::(.pointer (some ⟨q,0,none⟩))::t12::(.string adt)::t14::t15::t16::t17::t18::t19::t20::t21::t22::t23::t24::t25::t26::t27::t28::t29::t30::t31::t32::t33::t34::t35::t36::t37::t38::t39::t40::t41::t42::t43::t44::t45::t46::t47::t48::t49::t50::t51::t52::t53::t54::t55::t56::t57::t58::t59::t60::t61::t62::t63::t64::t65::t66::t67::t68::t69::t70::t71::t72::t73::t74::t75::t76::t77::t78::t79::t80::t81::t82::t83::t84::t85::t86::t87::t88::t89::t90::t91::t92::t93::t94::t95::t96::t97::t98::t99::t100::t101::t102::t103::t104::t105::t106::t107::t108::t109::t110::t111::t112::t113::t114::t115::t116::t117::t118::t119::t120::t121::t122::t123::t124::t125::t126::t127::t128::t129::t130::t131::t132::t133::t134::t135::t136::t137::t138::t139::t140::t141::t142::t143::t144::t145::t146::t147::t148::t149::t150::t151::t152::t153::t154::t155::t156::t157::t158::t159::t160::t161::t162::t163::t164::t165::t166::t167::t168::t169::t170::t171::t172::t173::t174::t175::t176::t177::t178::t179::t180::t181::t182::t183::t184::t185::t186::t187::t188::t189::t190::t191::t192::t193::t194::t195::t196::t197::t198::t199::t200::t201::t202::t203::t204::t205::t206::t207::t208::t209::t210::t211::t212::t213::t214::t215::t216::t217::t218::t219::t220::t221::t222::t223::t224::t225::t226::t227::t228::t229::t230::t231::t232::t233::t234::t235::t236::t237::t238::t239::t240::t241::[]),[]⟩ u1:=by
 conv => arg 2;whnf
 obtain ⟨nx,hnx⟩:∃ n,n=x.next:=⟨_,rfl⟩
 obtain ⟨mn,hmn⟩:∃ n,n=x.many:=⟨_,rfl⟩
 have HRB:=Lib.hid (fun (W:World) (hW:Below u1.heap.size u1 W) => show W.cell? ⟨jr,1,none⟩=some (.int .i64 nx)∧W.cell? ⟨jr,4,none⟩=some (.int .i64 mn) from by
  have b:=HM.out.rb.below hW
  rw [hnx,hmn]
  exact ⟨b.cell 1,b.cell 4⟩)
 rw [← hnx] at hb
 rw [← hmn] at hm
 have HJQ:=Lib.hid (show jr<u1.heap.size from HM.out.rb.lt)
 obtain ⟨q2,hq2⟩:∃ z,z=u1.heap.size:=⟨_,rfl⟩
 obtain ⟨w2,hw2⟩:∃ z,z=u1.alloc (.cells #[.int .i64 aa,.int .i64 af,.int .i64 ab] 51 (0,0)):=⟨_,rfl⟩
 have hb2:Below u1.heap.size u1 w2:=by rw [hw2];exact (Below.refl _ _).alloc (Nat.le_refl _) _
 have hk2:Blk w2 q2 51 #[.int .i64 aa,.int .i64 af,.int .i64 ab]:=by rw [hw2,hq2];exact Blk.alloc_new u1 _ _
 have HB2:=Lib.hid hb2
 have HK2:=Lib.hid hk2
 have HW2:=Lib.hid hw2
 have HQ2:=Lib.hid hq2
 have c10:=HQ.out.cell 10
 have c11:=HQ.out.cell 11
 have c12:=HQ.out.cell 12
 have c9:=(HQ.out.below hb2).cell 9
 simp only [List.getElem?_toArray,List.getElem?_cons_zero,List.getElem?_cons_succ] at c9 c10 c11 c12
 have ht4:(an:Int).tmod 4=((an % 4:Nat):Int):=by rw [Int.tmod_eq_emod_of_nonneg (by omega)];rfl
 obtain ⟨r1,r4⟩:=HRB.out w2 hb2
 obtain ⟨a4,ha4⟩:∃ z,z=an % 4:=⟨_,rfl⟩
 rw [← ha4] at ht4
 have ha44:a4<4:=by omega
 clear hnx hmn hw2 hq2 hb2 hk2 HM ha4
 refine wp_seq_k fun L0 hL0 => ?_
 have HL0:=Lib.hid hL0
 clear hL0
 go_wp2_with fail
 rw [← HW2.out,← HQ2.out]
 clear c10 c11 c12
 refine HL0.out _ _ ?_
 clear HL0
 refine wp_seq_k fun L1 hL1 => ?_
 have HL1:=Lib.hid hL1
 clear hL1
 by_cases hm0:mn>0
 case neg =>
  have g1:decide (mn>0)=false:=decide_eq_false hm0
  have g2:decide (0<mn)=false:=decide_eq_false hm0
  clear hm0
  go_wp2_with fail
  have z0:=HK2.out.cell 0
  have z1:=HK2.out.cell 1
  have z2:=HK2.out.cell 2
  simp only [List.getElem?_toArray,List.getElem?_cons_zero,List.getElem?_cons_succ] at z0 z1 z2
  have HEA:=Lib.hid (encAck_any aa af ab w2)
  have HES:=Lib.hid (encAck_size aa af ab)
  obtain ⟨E,hE⟩:∃ E,E=encAck aa af ab:=⟨_,rfl⟩
  rw [← hE] at HEA HES
  clear hE
  unfold ackV at HEA
  refine HL1.out _ _ ?_
  clear HL1
  go_wp2_with fail
  refine HEA.out.mono ?_
  rintro e y9 ⟨rfl,hb9⟩
  have HB9:=Lib.hid (And.intro HES.out (HB2.out.trans (hb9.mono HB2.out.size)))
  clear hb9 HEA HES z0 z1 z2
  go_wp2_with fail
  first | exact hQ _ _ _ _ _ _ _ _ _ _ _ _ _ _ _ _ _ _ _ _ _ _ _ _ _ _ _ _ _ _ _ _ _ _ _ _ _ _ HB9.out | exact HB9.out
 case pos =>
 have g1:decide (mn>0)=true:=decide_eq_true hm0
 have g2:decide (0<mn)=true:=decide_eq_true hm0
 clear hm0
 by_cases h40:a4=0
 case pos =>
  subst h40
  go_wp2_with fail
  have z0:=HK2.out.cell 0
  have z1:=HK2.out.cell 1
  have z2:=HK2.out.cell 2
  simp only [List.getElem?_toArray,List.getElem?_cons_zero,List.getElem?_cons_succ] at z0 z1 z2
  have HEA:=Lib.hid (encAck_any aa af ab w2)
  have HES:=Lib.hid (encAck_size aa af ab)
  obtain ⟨E,hE⟩:∃ E,E=encAck aa af ab:=⟨_,rfl⟩
  rw [← hE] at HEA HES
  clear hE
  unfold ackV at HEA
  refine HL1.out _ _ ?_
  clear HL1
  go_wp2_with fail
  refine HEA.out.mono ?_
  rintro e y9 ⟨rfl,hb9⟩
  have HB9:=Lib.hid (And.intro HES.out (HB2.out.trans (hb9.mono HB2.out.size)))
  clear hb9 HEA HES z0 z1 z2
  go_wp2_with fail
  first | exact hQ _ _ _ _ _ _ _ _ _ _ _ _ _ _ _ _ _ _ _ _ _ _ _ _ _ _ _ _ _ _ _ _ _ _ _ _ _ _ HB9.out | exact HB9.out
 case neg =>
 have g3:decide ((a4:Int)>0)=true:=decide_eq_true (by omega)
 have g4:decide ((0:Int)<a4)=true:=decide_eq_true (by omega)
 have g5:decide (0<a4)=true:=decide_eq_true (by omega)
 have hws:IntKind.i64.wrap (nx+mn)=nx+mn:=by rw [IntKind.wrap_i64];omega
 clear h40
 obtain ⟨x1,hx1⟩:∃ y,y=w2.drew:=⟨_,rfl⟩
 have HX1:=Lib.hid (show Below w2.heap.size w2 x1 by rw [hx1];exact (Below.refl _ _).drew)
 have HBX:=Lib.hid (HB2.out.trans (HX1.out.mono HB2.out.size))
 have hT:=HRB.out x1 HBX.out
 have hS:True:=trivial
 go_wp2_with fail
 refine wp_region_two (T:=fun W => W.cell? ⟨jr,1,none⟩=some (.int .i64 nx)∧W.cell? ⟨jr,4,none⟩=some (.int .i64 mn)) (S:=fun _ => True) (n:=99) (by kernel_rfl) ?_
 rw [← hx1]
 clear hx1
 refine tk 0 173 hT hS ?_ (hQ:=fun _ _ _ h => hP _ _ _ _ _ h)
 refine tk 1 174 hT hS ?_ (hQ:=fun _ _ _ h => hP _ _ _ _ _ h)
 try simp only [xq]
 refine tk 2 175 hT hS ?_ (hQ:=fun _ _ _ h => hP _ _ _ _ _ h)
 refine tk 3 176 hT hS ?_ (hQ:=fun _ _ _ h => hP _ _ _ _ _ h)
 try simp only [xq]
 refine tk 4 177 hT hS ?_ (hQ:=fun _ _ _ h => hP _ _ _ _ _ h)
 refine tk 5 178 hT hS ?_ (hQ:=fun _ _ _ h => hP _ _ _ _ _ h)
 try simp only [xq]
 refine tk 6 179 hT hS ?_ (hQ:=fun _ _ _ h => hP _ _ _ _ _ h)
 refine tk 7 180 hT hS ?_ (hQ:=fun _ _ _ h => hP _ _ _ _ _ h)
 try simp only [xq]
 refine tk 8 181 hT hS ?_ (hQ:=fun _ _ _ h => hP _ _ _ _ _ h)
 refine tk 9 182 hT hS ?_ (hQ:=fun _ _ _ h => hP _ _ _ _ _ h)
 try simp only [xq]
 refine tk 10 183 hT hS ?_ (hQ:=fun _ _ _ h => hP _ _ _ _ _ h)
 refine tk 11 184 hT hS ?_ (hQ:=fun _ _ _ h => hP _ _ _ _ _ h)
 try simp only [xq]
 refine tk 12 185 hT hS ?_ (hQ:=fun _ _ _ h => hP _ _ _ _ _ h)
 refine tk 13 186 hT hS ?_ (hQ:=fun _ _ _ h => hP _ _ _ _ _ h)
 try simp only [xq]
 refine tk 14 187 hT hS ?_ (hQ:=fun _ _ _ h => hP _ _ _ _ _ h)
 refine tk 15 188 hT hS ?_ (hQ:=fun _ _ _ h => hP _ _ _ _ _ h)
 try simp only [xq]
 refine tk 16 189 hT hS ?_ (hQ:=fun _ _ _ h => hP _ _ _ _ _ h)
 try simp only [xq]
 have k8:=(((HK2.out.below HX1.out).set 0 (.int .i64 ho)).set 1 (.int .i64 nx)).set 2 (.int .i64 (nx+mn))
 have b8:=((HBX.out.setCell (p:=⟨q2,0,none⟩) (by rw [HQ2.out];exact Nat.le_refl _) (.int .i64 ho)).setCell (p:=⟨q2,1,none⟩) (by rw [HQ2.out];exact Nat.le_refl _) (.int .i64 nx)).setCell (p:=⟨q2,2,none⟩) (by rw [HQ2.out];exact Nat.le_refl _) (.int .i64 (nx+mn))
 simp only [List.setIfInBounds_toArray,List.set_cons_zero,List.set_cons_succ] at k8
 have f0:=(HK2.out.below HX1.out).free 0
 have f1:=(HK2.out.below HX1.out).free 1
 have f2:=(HK2.out.below HX1.out).free 2
 have z0:=(HK2.out.below HX1.out).cell 0
 have z1:=(HK2.out.below HX1.out).cell 1
 have z2:=(HK2.out.below HX1.out).cell 2
 simp only [List.getElem?_toArray,List.getElem?_cons_zero,List.getElem?_cons_succ] at z0 z1 z2
 obtain ⟨y8,hy8⟩:∃ z,z=((x1.setCell ⟨q2,0,none⟩ (.int .i64 ho)).setCell ⟨q2,1,none⟩ (.int .i64 nx)).setCell ⟨q2,2,none⟩ (.int .i64 (nx+mn)):=⟨_,rfl⟩
 rw [← hy8] at k8 b8
 have hT3:=HRB.out y8 b8
 have HK8:=Lib.hid k8
 have HB8:=Lib.hid b8
 refine two_one 17 rfl (by kernel_rfl) ?_
 intro K0 hK0
 go_simp
 rw [← hy8]
 refine hK0.out _ _ hT3 (fun _ _ => hS) ?_
 clear hK0 K0 hT k8 b8 f0 f1 f2 z0 z1 z2 hy8 hT3
 try simp only [xq]
 refine two_done (by kernel_rfl) ?_ _
 go_wp2_with fail
 have z0:=HK8.out.cell 0
 have z1:=HK8.out.cell 1
 have z2:=HK8.out.cell 2
 simp only [List.getElem?_toArray,List.getElem?_cons_zero,List.getElem?_cons_succ] at z0 z1 z2
 have HEA:=Lib.hid (encAck_any ho nx (nx+mn) y8)
 have HES:=Lib.hid (encAck_size ho nx (nx+mn))
 obtain ⟨E,hE⟩:∃ E,E=encAck ho nx (nx+mn):=⟨_,rfl⟩
 rw [← hE] at HEA HES
 clear hE
 unfold ackV at HEA
 refine HL1.out _ _ ?_
 clear HL1
 go_wp2_with fail
 refine HEA.out.mono ?_
 rintro e y9 ⟨rfl,hb9⟩
 have HB9:=Lib.hid (And.intro HES.out (HB8.out.trans (hb9.mono HB8.out.size)))
 clear hb9 HEA HES z0 z1 z2
 go_wp2_with fail
 first | exact hQ _ _ _ _ _ _ _ _ _ _ _ _ _ _ _ _ _ _ _ _ _ _ _ _ _ _ _ _ _ _ _ _ _ _ _ _ _ _ HB9.out | exact HB9.out
set_option maxHeartbeats 32000000 in
theorem py_data {Q:Exit→Act→World→Prop} {w u1:World} {K:Nat→Prop} {jn jr jl fi su:Nat} {x:Dm} {Ls:List Sp.Span} {LV:Value} {v:Int} {q kd an:Nat} {zt zi zp za zd aa af ab:Int} {zs zh zn adt:ByteArray} {ho:Int}
  (HM:Hid (PyM w u1 K jn jr jl x v fi su LV Ls)) (HQ:Hid (Blk u1 q 59 #[.int .u8 kd,.int .i64 zt,.int .i64 zi,.int .i64 zp,.string zs,.string zh,.int .i64 za,.int .i64 zd,.string zn,.int .u8 an,.int .i64 aa,.int .i64 af,.int .i64 ab,.string adt])) (hkd:kd % 9=7∨kd % 9=8) (hkd2:kd<256) (hdt:adt.size≤maxLen) (han:an<256) (hb:-1000000000000≤x.next∧x.next≤1000000000000) (hm:0≤x.many∧x.many≤1000) {t0 t1 t2 t3 t4 t6 t8 t9 t10 t12 t14 t15 t16 t17 t18 t19 t20 t21 t22 t23 t24 t25 t26 t27 t28 t29 t30 t31 t32 t33 t34 t35 t36 t37 t38 t39 t40 t41 t42 t43 t44 t45 t46 t47 t48 t49 t50 t51 t52 t53 t54 t55 t56 t57 t58 t59 t60 t61 t62 t63 t64 t65 t66 t67 t68 t69 t70 t71 t72 t73 t74 t75 t76 t77 t78 t79 t80 t81 t82 t83 t84 t85 t86 t87 t88 t89 t90 t91 t92 t93 t94 t95 t96 t97 t98 t99 t100 t101 t102 t103 t104 t105 t106 t107 t108 t109 t110 t111 t112 t113 t114 t115 t116 t117 t118 t119 t120 t121 t122 t123 t124 t125 t126 t127 t128 t129 t130 t131 t132 t133 t134 t135 t136 t137 t138 t139 t140 t141 t142 t143 t144 t145 t146 t147 t148 t149 t150 t151 t152 t153 t154 t155 t156 t157 t158 t159 t160 t161 t162 t163 t164 t165 t166 t167 t168 t169 t170 t171 t172 t173 t174 t175 t176 t177 t178 t179 t180 t181 t182 t183 t184 t185 t186 t187 t188 t189 t190 t191 t192 t193 t194 t195 t196 t197 t198 t199 t200 t201 t202 t203 t204 t205 t206 t207 t208 t209 t210 t211 t212 t213 t214 t215 t216 t217 t218 t219 t220 t221 t222 t223 t224 t225 t226 t227 t228 t229 t230 t231 t232 t233 t234 t235 t236 t237 t238 t239 t240 t241:Value}
  (hP:∀ c (a:Act) o v w,Q (.panic c) (a.put o v) w→Q (.panic c) a w) (hQ:∀ (s14 s156 s157 s158 s159 s160 s161 s162 s163 s164 s165 s166 s167 s168 s169 s170 s171 s172 s173 s174 s175 s176 s177 s178 s179 s180 s181 s182 s183 s184 s185 s186 s187 s188 s189 s190 s191 s192 s193 s194:Value) (dt:ByteArray) (wx:World),(dt.size≤maxLen∧Below u1.heap.size u1 wx)→Q (.normal) ⟨List.toArray (t0::t1::t2::t3::t4::(.int .i64 ho)::t6::(.pointer (some ⟨jr,0,none⟩))::t8::t9::t10::(.pointer (some ⟨q,0,none⟩))::t12::(.string dt)::s14::t15::t16::t17::t18::t19::t20::t21::t22::t23::t24::t25::t26::t27::t28::t29::t30::t31::t32::t33::t34::t35::t36::t37::t38::t39::t40::t41::t42::t43::t44::t45::t46::t47::t48::t49::t50::t51::t52::t53::t54::t55::t56::t57::t58::t59::t60::t61::t62::t63::t64::t65::t66::t67::t68::t69::t70::t71::t72::t73::t74::t75::t76::t77::t78::t79::t80::t81::t82::t83::t84::t85::t86::t87::t88::t89::t90::t91::t92::t93::t94::t95::t96::t97::t98::t99::t100::t101::t102::t103::t104::t105::t106::t107::t108::t109::t110::t111::t112::t113::t114::t115::t116::t117::t118::t119::t120::t121::t122::t123::t124::t125::t126::t127::t128::t129::t130::t131::t132::t133::t134::t135::t136::t137::t138::t139::t140::t141::t142::t143::t144::t145::t146::t147::t148::t149::t150::t151::t152::t153::t154::t155::s156::s157::s158::s159::s160::s161::s162::s163::s164::s165::s166::s167::s168::s169::s170::s171::s172::s173::s174::s175::s176::s177::s178::s179::s180::s181::s182::s183::s184::s185::s186::s187::s188::s189::s190::s191::s192::s193::s194::t195::t196::t197::t198::t199::t200::t201::t202::t203::t204::t205::t206::t207::t208::t209::t210::t211::t212::t213::t214::t215::t216::t217::t218::t219::t220::t221::t222::t223::t224::t225::t226::t227::t228::t229::t230::t231::t232::t233::t234::t235::t236::t237::t238::t239::t240::t241::[]),[]⟩ wx) :
  Code.wp Tryz.prog (pyC [1,1,1,1,1,1,1,1,0,1,4,4,1,0,4,1,1,1,0,1,4,1,2,1,0]) Q ⟨List.toArray (t0::t1::t2::t3::t4::(.int .i64 ho)::t6::(.pointer (some ⟨jr,0,none⟩))::t8::t9::t10::(.pointer (some ⟨q,0,none⟩))::t12::(.string adt)::t14::t15::t16::t17::t18::t19::t20::t21::t22::t23::t24::t25::t26::t27::t28::t29::t30::t31::t32::t33::t34::t35::t36::t37::t38::t39::t40::t41::t42::t43::t44::t45::t46::t47::t48::t49::t50::t51::t52::t53::t54::t55::t56::t57::t58::t59::t60::t61::t62::t63::t64::t65::t66::t67::t68::t69::t70::t71::t72::t73::t74::t75::t76::t77::t78::t79::t80::t81::t82::t83::t84::t85::t86::t87::t88::t89::t90::t91::t92::t93::t94::t95::t96::t97::t98::t99::t100::t101::t102::t103::t104::t105::t106::t107::t108::t109::t110::t111::t112::t113::t114::t115::t116::t117::t118::t119::t120::t121::t122::t123::t124::t125::t126::t127::t128::t129::t130::t131::t132::t133::t134::t135::t136::t137::t138::t139::t140::t141::t142::t143::t144::t145::t146::t147::t148::t149::t150::t151::t152::t153::t154::t155::t156::t157::t158::t159::t160::t161::t162::t163::t164::t165::t166::t167::t168::t169::t170::t171::t172::t173::t174::t175::t176::t177::t178::t179::t180::t181::t182::t183::t184::t185::t186::t187::t188::t189::t190::t191::t192::t193::t194::t195::t196::t197::t198::t199::t200::t201::t202::t203::t204::t205::t206::t207::t208::t209::t210::t211::t212::t213::t214::t215::t216::t217::t218::t219::t220::t221::t222::t223::t224::t225::t226::t227::t228::t229::t230::t231::t232::t233::t234::t235::t236::t237::t238::t239::t240::t241::[]),[]⟩ u1:=by
 conv => arg 2;whnf
 have c0:=HQ.out.cell 0
 simp only [List.getElem?_toArray,List.getElem?_cons_zero] at c0
 have ht9:(kd:Int).tmod 9=((kd % 9:Nat):Int):=by rw [Int.tmod_eq_emod_of_nonneg (by omega)];rfl
 refine wp_seq_k fun L0 hL0 => ?_
 have HL0:=Lib.hid hL0
 clear hL0
 rcases hkd with h7 | h8
 case inr =>
  have HB:=Lib.hid (And.intro hdt (Below.refl u1.heap.size u1))
  rw [h8] at ht9
  clear HM h8
  go_wp2_with fail
  refine HL0.out _ _ ?_
  clear HL0
  go_wp2_with fail
  first | exact hQ _ _ _ _ _ _ _ _ _ _ _ _ _ _ _ _ _ _ _ _ _ _ _ _ _ _ _ _ _ _ _ _ _ _ _ _ _ _ _ _ _ _ HB.out | exact HB.out
 case inl =>
 rw [h7] at ht9
 go_wp2_with fail
 refine HL0.out _ _ ?_
 clear HL0
 refine wp_cond_true rfl ?_
 refine py_ack HM HQ han hb hm hP ?_
 intros
 rename_i dt wx hdx
 exact hQ _ _ _ _ _ _ _ _ _ _ _ _ _ _ _ _ _ _ _ _ _ _ _ _ _ _ _ _ _ _ _ _ _ _ _ _ _ _ _ _ _ _ hdx
end Go.Proofs.YtdacanghbepjpaaGreatDoor
namespace Go.Proofs.YtdacanghbepjpaaGreatDoor
set_option linter.unusedSimpArgs false
set_option linter.unusedVariables false
set_option maxRecDepth 100000
open Go.RowKit Go.Maps
open Dsk
set_option maxHeartbeats 32000000 in
theorem py_switch {Q:Exit→Act→World→Prop} {w u1:World} {K:Nat→Prop} {jn jr jl bd j jx:Nat} {d:Dk} {h:Hl} {x:Dm} {s k:Nat} {Ls:List Sp.Span} {LV:Value} {v:Int} {q kd an:Nat} {zt zi zp za zd aa af ab:Int} {zs zh zn adt:ByteArray} {now ho:Int}
  (HN:Hid (NE w u1 K jn bd j jx d h x)) (HC:Hid (NodeC d h s x Ls 1048576 k)) (hk:k≤150) (HM:Hid (PyM w u1 K jn jr jl x v (firstOf h.l) (sureOf h.l s) LV Ls))
  (HQ:Hid (Blk u1 q 59 #[.int .u8 kd,.int .i64 zt,.int .i64 zi,.int .i64 zp,.string zs,.string zh,.int .i64 za,.int .i64 zd,.string zn,.int .u8 an,.int .i64 aa,.int .i64 af,.int .i64 ab,.string adt])) (HE:Hid (LEnv w)) (hkd:5≤kd % 9) (hkd2:kd<256) (han:an<256) (hdt:adt.size≤maxLen) (hnow:0≤now∧now≤1000000) (hsent:0≤x.sent∧x.sent≤now) {t0 t1 t2 t3 t4 t10 t12 t13 t14 t15 t16 t17 t18 t19 t20 t21 t22 t23 t24 t25 t26 t27 t28 t29 t30 t31 t32 t33 t34 t35 t36 t37 t38 t39 t40 t41 t42 t43 t44 t45 t46 t47 t48 t49 t50 t51 t52 t53 t54 t55 t56 t57 t58 t59 t60 t61 t62 t63 t64 t65 t66 t67 t68 t69 t70 t71 t72 t73 t74 t75 t76 t77 t78 t79 t80 t81 t82 t83 t84 t85 t86 t87 t88 t89 t90 t91 t92 t93 t94 t95 t96 t97 t98 t99 t100 t101 t102 t103 t104 t105 t106 t107 t108 t109 t110 t111 t112 t113 t114 t115 t116 t117 t118 t119 t120 t121 t122 t123 t124 t125 t126 t127 t128 t129 t130 t131 t132 t133 t134 t135 t136 t137 t138 t139 t140 t141 t142 t143 t144 t145 t146 t147 t148 t149 t150 t151 t152 t153 t154 t155 t156 t157 t158 t159 t160 t161 t162 t163 t164 t165 t166 t167 t168 t169 t170 t171 t172 t173 t174 t175 t176 t177 t178 t179 t180 t181 t182 t183 t184 t185 t186 t187 t188 t189 t190 t191 t192 t193 t194 t195 t196 t197 t198 t199 t200 t201 t202 t203 t204 t205 t206 t207 t208 t209 t210 t211 t212 t213 t214 t215 t216 t217 t218 t219 t220 t221 t222 t223 t224 t225 t226 t227 t228 t229 t230 t231 t232 t233 t234 t235 t236 t237 t238 t239 t240 t241:Value}
  (hP:∀ c (a:Act) o v w,Q (.panic c) (a.put o v) w→Q (.panic c) a w) (hQ:∀ (s13 s14 s15 s16 s17 s18 s19 s20 s123 s124 s125 s126 s127 s128 s129 s130 s131 s132 s133 s134 s135 s136 s137 s138 s139 s140 s141 s142 s143 s144 s145 s146 s147 s148 s149 s150 s151 s152 s153 s154 s155 s156 s157 s158 s159 s160 s161 s162 s163 s164 s165 s166 s167 s168 s169 s170 s171 s172 s173 s174 s175 s176 s177 s178 s179 s180 s181 s182 s183 s184 s185 s186 s187 s188 s189 s190 s191 s192 s193 s194 s195 s196 s197 s198 s199 s200 s201 s202 s203 s204 s205 s206 s207 s208 s209 s210 s211 s212 s213 s214 s215 s216 s217:Value) (nw:Int) (wx:World),(now≤nw∧nw≤now+4∧∃ d2 x2 v2,NE w wx K jn bd j jx d2 h x2∧NodeC d2 h s x2 Ls 1048576 (k+1)∧PyM w wx K jn jr jl x2 v2 (firstOf h.l) (sureOf h.l s) LV Ls∧0≤x2.sent∧x2.sent≤nw)→Q (.normal) ⟨List.toArray (t0::t1::t2::t3::t4::(.int .i64 ho)::(.pointer (some ⟨jn,0,none⟩))::(.pointer (some ⟨jr,0,none⟩))::(.pointer (some ⟨jl,0,none⟩))::(.int .i64 nw)::t10::(.pointer (some ⟨q,0,none⟩))::t12::s13::s14::s15::s16::s17::s18::s19::s20::t21::t22::t23::t24::t25::t26::t27::t28::t29::t30::t31::t32::t33::t34::t35::t36::t37::t38::t39::t40::t41::t42::t43::t44::t45::t46::t47::t48::t49::t50::t51::t52::t53::t54::t55::t56::t57::t58::t59::t60::t61::t62::t63::t64::t65::t66::t67::t68::t69::t70::t71::t72::t73::t74::t75::t76::t77::t78::t79::t80::t81::t82::t83::t84::t85::t86::t87::t88::t89::t90::t91::t92::t93::t94::t95::t96::t97::t98::t99::t100::t101::t102::t103::t104::t105::t106::t107::t108::t109::t110::t111::t112::t113::t114::t115::t116::t117::t118::t119::t120::t121::t122::s123::s124::s125::s126::s127::s128::s129::s130::s131::s132::s133::s134::s135::s136::s137::s138::s139::s140::s141::s142::s143::s144::s145::s146::s147::s148::s149::s150::s151::s152::s153::s154::s155::s156::s157::s158::s159::s160::s161::s162::s163::s164::s165::s166::s167::s168::s169::s170::s171::s172::s173::s174::s175::s176::s177::s178::s179::s180::s181::s182::s183::s184::s185::s186::s187::s188::s189::s190::s191::s192::s193::s194::s195::s196::s197::s198::s199::s200::s201::s202::s203::s204::s205::s206::s207::s208::s209::s210::s211::s212::s213::s214::s215::s216::s217::t218::t219::t220::t221::t222::t223::t224::t225::t226::t227::t228::t229::t230::t231::t232::t233::t234::t235::t236::t237::t238::t239::t240::t241::[]),[]⟩ wx) :
  Code.wp Tryz.prog (pyC [1,1,1,1,1,1,1,1,0,1,4,4,1,0,4,1,1,1,0]) Q ⟨List.toArray (t0::t1::t2::t3::t4::(.int .i64 ho)::(.pointer (some ⟨jn,0,none⟩))::(.pointer (some ⟨jr,0,none⟩))::(.pointer (some ⟨jl,0,none⟩))::(.int .i64 now)::t10::(.pointer (some ⟨q,0,none⟩))::t12::t13::t14::t15::t16::t17::t18::t19::t20::t21::t22::t23::t24::t25::t26::t27::t28::t29::t30::t31::t32::t33::t34::t35::t36::t37::t38::t39::t40::t41::t42::t43::t44::t45::t46::t47::t48::t49::t50::t51::t52::t53::t54::t55::t56::t57::t58::t59::t60::t61::t62::t63::t64::t65::t66::t67::t68::t69::t70::t71::t72::t73::t74::t75::t76::t77::t78::t79::t80::t81::t82::t83::t84::t85::t86::t87::t88::t89::t90::t91::t92::t93::t94::t95::t96::t97::t98::t99::t100::t101::t102::t103::t104::t105::t106::t107::t108::t109::t110::t111::t112::t113::t114::t115::t116::t117::t118::t119::t120::t121::t122::t123::t124::t125::t126::t127::t128::t129::t130::t131::t132::t133::t134::t135::t136::t137::t138::t139::t140::t141::t142::t143::t144::t145::t146::t147::t148::t149::t150::t151::t152::t153::t154::t155::t156::t157::t158::t159::t160::t161::t162::t163::t164::t165::t166::t167::t168::t169::t170::t171::t172::t173::t174::t175::t176::t177::t178::t179::t180::t181::t182::t183::t184::t185::t186::t187::t188::t189::t190::t191::t192::t193::t194::t195::t196::t197::t198::t199::t200::t201::t202::t203::t204::t205::t206::t207::t208::t209::t210::t211::t212::t213::t214::t215::t216::t217::t218::t219::t220::t221::t222::t223::t224::t225::t226::t227::t228::t229::t230::t231::t232::t233::t234::t235::t236::t237::t238::t239::t240::t241::[]),[]⟩ u1:=by
 conv => arg 2;whnf
 have c0:=HQ.out.cell 0
 simp only [List.getElem?_toArray,List.getElem?_cons_zero] at c0
 have ht9:(kd:Int).tmod 9=((kd % 9:Nat):Int):=by rw [Int.tmod_eq_emod_of_nonneg (by omega)];rfl
 obtain ⟨a1,a2,a3,a4,a5,a6,a7⟩:=HC.out.asks (by omega)
 have hpo:=HC.out.node.out.pos
 obtain ⟨m9,hm9⟩:∃ m,m=kd % 9:=⟨_,rfl⟩
 have he9:(kd:Int) % 9=(m9:Int):=by omega
 rw [← hm9] at ht9
 have hm99:m9<9:=by omega
 have hw9:IntKind.u8.wrap (m9:Int)=(m9:Int):=by rw [IntKind.wrap_u8];omega
 have HM9:=Lib.hid (show m9=kd % 9 from hm9)
 have hkd5:5≤m9:=by omega
 clear hm9 hkd
 refine wp_seq_k fun L0 hL0 => ?_
 have HL0:=Lib.hid hL0
 clear hL0
 go_wp2_with fail
 refine HL0.out _ _ ?_
 clear HL0 c0
 refine wp_block ?_
 refine wp_seq_k fun L1 hL1 => ?_
 have HL1:=Lib.hid hL1
 clear hL1
 by_cases h78:m9=7∨m9=8
 case neg =>
  have q7:((m9:Int) == 7)=false:=by rw [beq_eq_false_iff_ne];omega
  have q8:((m9:Int) == 8)=false:=by rw [beq_eq_false_iff_ne];omega
  have n7:(m9 == 7)=false:=by rw [beq_eq_false_iff_ne];omega
  have n8:(m9 == 8)=false:=by rw [beq_eq_false_iff_ne];omega
  clear h78
  go_wp2_with fail
  refine HL1.out _ _ ?_
  clear HL1 ht9 he9
  refine wp_cond_false rfl ?_
  refine py_step HN HC hk HM HQ HE han rfl hnow hsent (fun c a o v w h => hP c a o v w h) ?_
  intros
  rename_i wx hwx
  obtain ⟨d2,v2,h1,h2,h3⟩:=hwx
  have hs:=stp_sent (Ls:=Ls) (firstOf h.l) (sureOf h.l s) (now+((an % 5:Nat):Int)) x
  exact hQ _ _ _ _ _ _ _ _ _ _ _ _ _ _ _ _ _ _ _ _ _ _ _ _ _ _ _ _ _ _ _ _ _ _ _ _ _ _ _ _ _ _ _ _ _ _ _ _ _ _ _ _ _ _ _ _ _ _ _ _ _ _ _ _ _ _ _ _ _ _ _ _ _ _ _ _ _ _ _ _ _ _ _ _ _ _ _ _ _ _ _ _ _ _ _ _ _ _ _ _ _ _ _ (now+((an % 5:Nat):Int)) wx ⟨by omega,by omega,d2,_,v2,h1,h2,h3,by omega,by omega⟩
 case pos =>
 have c13:=HQ.out.cell 13
 simp only [List.getElem?_toArray,List.getElem?_cons_zero,List.getElem?_cons_succ] at c13
 have HKD:=Lib.hid (show kd % 9=7∨kd % 9=8 by rw [← HM9.out];exact h78)
 rcases h78 with rfl | rfl
 all_goals
  go_wp2_with fail
  refine HL1.out _ _ ?_
  clear HL1 ht9 he9
  refine wp_cond_true rfl ?_
  refine wp_seq_k fun L2 hL2 => ?_
  have HL2:=Lib.hid hL2
  clear hL2
  go_wp2_with fail
  refine HL2.out _ _ ?_
  clear HL2 c13
  refine wp_seq_k fun L3 hL3 => ?_
  refine py_data HM HQ HKD.out hkd2 hdt han ⟨by omega,by omega⟩ ⟨by omega,by omega⟩ (fun c a o v w h => hP c a o v w h) ?_
  intros
  rename_i dt y1 hy1
  refine hL3 _ _ ?_
  refine py_take (Lib.hid (HN.out.below hy1.2)) HC hk (Lib.hid (HM.out.below hy1.2)) hy1.1 (fun c a o v w h => hP c a o v w h) ?_
  intros
  rename_i wx hwx
  obtain ⟨d2,v2,h1,h2,h3⟩:=hwx
  have hs:=tk_sent dt.data.toList x
  exact hQ _ _ _ _ _ _ _ _ _ _ _ _ _ _ _ _ _ _ _ _ _ _ _ _ _ _ _ _ _ _ _ _ _ _ _ _ _ _ _ _ _ _ _ _ _ _ _ _ _ _ _ _ _ _ _ _ _ _ _ _ _ _ _ _ _ _ _ _ _ _ _ _ _ _ _ _ _ _ _ _ _ _ _ _ _ _ _ _ _ _ _ _ _ _ _ _ _ _ _ _ _ _ _ now wx ⟨by omega,by omega,d2,_,v2,h1,h2,h3,by omega,by omega⟩
end Go.Proofs.YtdacanghbepjpaaGreatDoor
