/- pieces: two hosts are asked the same in HostsSame. -/
import Derived.Test.YtdacanghbepjpaaGreatDoorHpS
import Derived.Test.YtdacanghbepjpaaGreatDoorSink2
import Derived.Deep.DeepCutAuto
import Derived.Deep.CutBlock
namespace Go.Proofs.YtdacanghbepjpaaGreatDoor
set_option linter.unusedSimpArgs false
set_option linter.unusedVariables false
set_option maxRecDepth 100000
open Go.RowKit Go.Maps
open Dsk
set_option maxHeartbeats 32000000 in
theorem sa_do {Q:Exit→Act→World→Prop} {w w1 wr:World} {jh jo bd9 j9 jx9 bb off k n c0 kl kc:Nat} {kx:Option Addr} {kd nd nn zt zi zp za zd ah af an er:Int} {zs zh zn adt:ByteArray} {own:Bool} {o o2:Hs} {ms:List Ml}
  (HRDB:Hid (∀ (W:World),Below w1.heap.size w1 W→Below w.heap.size w W)) (hwr:Below w1.heap.size w1 wr) (hlt2:(k:Int)<n) (hn100:n≤80)
  (HLD:Hid (∀ (W:World),Below w.heap.size w W→W.cell? ⟨bb,off+k*17,none⟩=some (.int .i64 kd)∧W.cell? ⟨bb,off+k*17+1,none⟩=some (.int .i64 nd)∧W.cell? ⟨bb,off+k*17+2,none⟩=some (.int .i64 nn)∧W.cell? ⟨bb,off+k*17+3,none⟩=some (.int .i64 zt)∧W.cell? ⟨bb,off+k*17+4,none⟩=some (.int .i64 zi)∧W.cell? ⟨bb,off+k*17+5,none⟩=some (.int .i64 zp)∧W.cell? ⟨bb,off+k*17+6,none⟩=some (.string zs)∧W.cell? ⟨bb,off+k*17+7,none⟩=some (.string zh)∧W.cell? ⟨bb,off+k*17+8,none⟩=some (.int .i64 za)∧W.cell? ⟨bb,off+k*17+9,none⟩=some (.int .i64 zd)∧W.cell? ⟨bb,off+k*17+10,none⟩=some (.string zn)∧W.cell? ⟨bb,off+k*17+11,none⟩=some (.slice kx kl kc)∧W.cell? ⟨bb,off+k*17+12,none⟩=some (.bool own)∧W.cell? ⟨bb,off+k*17+13,none⟩=some (.int .i64 ah)∧W.cell? ⟨bb,off+k*17+14,none⟩=some (.int .i64 af)∧W.cell? ⟨bb,off+k*17+15,none⟩=some (.int .i64 an)∧W.cell? ⟨bb,off+k*17+16,none⟩=some (.string adt)))
  (HDO:Hid (Calls Tryz.prog 45 #[.pointer (some ⟨jh,0,none⟩),.agg #[.int .i64 kd,.int .i64 nd,.int .i64 nn,.int .i64 zt,.int .i64 zi,.int .i64 zp,.string zs,.string zh,.int .i64 za,.int .i64 zd,.string zn,.slice kx kl kc,.bool own,.int .i64 ah,.int .i64 af,.int .i64 an,.string adt],.int .i64 2] wr fun e w9 => ∃ u bd j jx,e=.returned (.tuple #[u,.int .i64 er])∧OwnMl w9 wr.heap.size u ms∧H2 w1 w9 (KU NoK u) jh bd j jx o2 jo bd9 j9 jx9 o∧Keeps NoK wr w9)) (HDO2:Hid (∀ (W:World) (K:Nat→Prop) (bd j jx:Nat) (oo:Hs),Below w1.heap.size w1 W→H2 w1 W K jo bd9 j9 jx9 o jh bd j jx oo→Calls Tryz.prog 45 #[.pointer (some ⟨jo,0,none⟩),.agg #[.int .i64 kd,.int .i64 nd,.int .i64 nn,.int .i64 zt,.int .i64 zi,.int .i64 zp,.string zs,.string zh,.int .i64 za,.int .i64 zd,.string zn,.slice kx kl kc,.bool own,.int .i64 ah,.int .i64 af,.int .i64 an,.string adt],.int .i64 2] W fun e w9 => ∃ u bd9 j9 jx9,e=.returned (.tuple #[u,.int .i64 er])∧OwnMl w9 W.heap.size u ms∧H2 w1 w9 (KU K u) jo bd9 j9 jx9 o2 jh bd j jx oo∧Keeps K W w9)) {t1 t2 t4 t6 t8 t9 t10 t11 t12 t13 t14 t15 t16 t17 t18 t19 t20 t21 t22 t23 t24 t25 t26 t27 t28 t29 t30 t31 t32 t33 t34 t35 t36 t37 t38 t39 t40 t41 t42 t43 t44 t45 t46 t47 t48 t49 t50 t51 t52 t53 t54 t55 t56 t57 t58 t59 t60 t61 t62 t63 t64 t65 t66 t67 t68 t69 t70 t71 t72 t73 t74 t75 t76 t77 t78 t79 t80 t81 t82 t83 t84 t85 t86 t87 t88 t89 t90 t91 t92 t93 t94 t95 t96 t97 t98 t99 t100 t101:Value}
  (hP:∀ c (a:Act) o v w,Q (.panic c) (a.put o v) w→Q (.panic c) a w) (hQ:∀ (s2 s8 s9 s10 s11 s12 s44 s45 s46 s47 s48 s49 s50 s51 s52 s53 s54 s55 s56 s57 s58 s59 s60 s61 s62 s63 s64 s65 s66 s67 s68 s69 s70 s71 s72 s73 s74 s75 s76 s77 s78 s79 s80 s81 s82 s83 s84 s85 s86 s87 s88 s89 s90 s91 s92 s93 s94 s95 s96 s97 s98 s99 s100:Value) (wx:World),(∃ bd2 j2 jx2 bd3 j3 jx3,H2 w1 wx NoK jh bd2 j2 jx2 o2 jo bd3 j3 jx3 o2)→Q .normal ⟨List.toArray ((.slice (some ⟨bb,off,none⟩) n c0)::t1::s2::(.pointer (some ⟨jh,0,none⟩))::t4::(.pointer (some ⟨jo,0,none⟩))::t6::(.int .i64 k)::s8::s9::s10::s11::s12::t13::t14::t15::t16::t17::t18::t19::t20::t21::t22::t23::t24::t25::t26::t27::t28::t29::t30::t31::t32::t33::t34::t35::t36::t37::t38::t39::t40::t41::t42::t43::s44::s45::s46::s47::s48::s49::s50::s51::s52::s53::s54::s55::s56::s57::s58::s59::s60::s61::s62::s63::s64::s65::s66::s67::s68::s69::s70::s71::s72::s73::s74::s75::s76::s77::s78::s79::s80::s81::s82::s83::s84::s85::s86::s87::s88::s89::s90::s91::s92::s93::s94::s95::s96::s97::s98::s99::s100::t101::[]),[]⟩ wx) :
  Code.wp Tryz.prog (saC [1,1,1,1,1,0,1,4,4,1,0,4,1]) Q ⟨List.toArray ((.slice (some ⟨bb,off,none⟩) n c0)::t1::t2::(.pointer (some ⟨jh,0,none⟩))::t4::(.pointer (some ⟨jo,0,none⟩))::t6::(.int .i64 k)::t8::t9::t10::t11::t12::t13::t14::t15::t16::t17::t18::t19::t20::t21::t22::t23::t24::t25::t26::t27::t28::t29::t30::t31::t32::t33::t34::t35::t36::t37::t38::t39::t40::t41::t42::t43::t44::t45::t46::t47::t48::t49::t50::t51::t52::t53::t54::t55::t56::t57::t58::t59::t60::t61::t62::t63::t64::t65::t66::t67::t68::t69::t70::t71::t72::t73::t74::t75::t76::t77::t78::t79::t80::t81::t82::t83::t84::t85::t86::t87::t88::t89::t90::t91::t92::t93::t94::t95::t96::t97::t98::t99::t100::t101::[]),[]⟩ wr:=by
 conv => arg 2;whnf
 obtain ⟨k0,k1,k2,k3,k4,k5,k6,k7,k8,k9,k10,k11,k12,k13,k14,k15,k16⟩:=HLD.out wr (HRDB.out wr hwr)
 refine wp_seq_k fun L1 hL1 => ?_
 have HL1:=Lib.hid hL1
 clear hL1 hwr
 go_wp2_with fail
 refine HDO.out.mono ?_
 rintro e y2 ⟨u,bd2,j2,jx2,rfl,hu2,hh2,hk2⟩
 obtain ⟨ux,uc,hux⟩:=OwnRow.shape hu2
 obtain ⟨rl,hrl⟩:∃ rl,rl=ms.length:=⟨_,rfl⟩
 have HRL:=Lib.hid hrl
 rw [← hrl] at hux
 subst hux
 clear k0 k1 k2 k3 k4 k5 k6 k7 k8 k9 k10 k11 k12 k13 k14 k15 k16 HDO hrl
 obtain ⟨k0,k1,k2,k3,k4,k5,k6,k7,k8,k9,k10,k11,k12,k13,k14,k15,k16⟩:=HLD.out y2 (HRDB.out y2 hh2.base)
 have HD2:=Lib.hid (HDO2.out y2 _ _ _ _ _ hh2.base hh2.symm)
 have HU2:=Lib.hid hu2
 clear hu2 hh2 hk2 HDO2 HLD
 go_wp2_with fail
 refine HL1.out _ _ ?_
 refine wp_seq_k fun L2 hL2 => ?_
 have HL2:=Lib.hid hL2
 clear hL2 HL1
 go_wp2_with fail
 refine HD2.out.mono ?_
 rintro e y3 ⟨u2,bd3,j3,jx3,rfl,hu3,hh3,hk3⟩
 obtain ⟨ux2,uc2,hux2⟩:=OwnRow.shape hu3
 rw [← HRL.out] at hux2
 subst hux2
 have hu2':OwnMl y3 wr.heap.size (.slice ux rl uc) ms:=OwnRow.chg HU2.out hk3 fun k hk e => e (.inr hk)
 have hh9:H2 w1 y3 NoK jh bd2 j2 jx2 o2 jo bd3 j3 jx3 o2:=(hh3.drop (K2:=NoK) fun k e => e.elim).symm
 have HH:=Lib.hid hh9
 have hlen:=ownMl_len hu3
 have HX1:=Lib.hid (OwnRow.rd mlRow_len hu2')
 have HX2:=Lib.hid (OwnRow.rd mlRow_len hu3)
 have HLEN:=Lib.hid (show rl≤9223372036854775807 by rw [HRL.out];exact hlen)
 clear hu2' hu3 hh3 hk3 hh9 hlen HD2 HU2 k0 k1 k2 k3 k4 k5 k6 k7 k8 k9 k10 k11 k12 k13 k14 k15 k16
 go_wp2_with fail
 refine HL2.out _ _ ?_
 refine sa_cmp HH HX1 HX2 HRL HLEN.out hP ?_
 intros
 rename_i wx hbx
 exact hQ _ _ _ _ _ _ _ _ _ _ _ _ _ _ _ _ _ _ _ _ _ _ _ _ _ _ _ _ _ _ _ _ _ _ _ _ _ _ _ _ _ _ _ _ _ _ _ _ _ _ _ _ _ _ _ _ _ _ _ _ _ _ _ _ ⟨bd2,j2,jx2,bd3,j3,jx3,HH.out.below hbx⟩
end Go.Proofs.YtdacanghbepjpaaGreatDoor
