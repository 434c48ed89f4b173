/- pieces: a tick in DaemonCrash. pieces: the end of an act of kind eight in DaemonCrash. pieces: is the disk down, in DaemonCrash. -/
import Derived.Test.YtdacanghbepjpaaGreatDoorQ1
import Derived.Deep.DeepCutAuto
import Derived.Deep.CutBlock
namespace Go.Proofs.YtdacanghbepjpaaGreatDoor
set_option linter.unusedSimpArgs false
set_option linter.unusedVariables false
set_option maxRecDepth 100000
open Go.RowKit Go.Maps
open Dsk
set_option maxHeartbeats 32000000 in
theorem cr_tick {Q:Exit→Act→World→Prop} {w1 u1:World} {K1:Nat→Prop} {jn bd j jx qc qx hn9 hc n un kn c0 c1 c2 k M N an:Nat} {G now:Int} {hx x0 x1 x2:Option Addr} {d1:Dk} {h:Hl} {s:Nat} {x:Dm} {had:List Bool}
  (HE1:Hid (LEnv w1)) (HN3:Hid (NE w1 u1 K1 jn bd j jx d1 h x)) (HI2:Hid (CrI d1 h s x had M k)) (HM3:Hid (CrM w1 u1 K1 jn qc N G (.slice hx hn9 hc) had)) (HNX:Hid (x.next=(N:Int))) (HGP:Hid (x.gap=G)) (hx1:0≤x.sent) (hx2:x.sent≤now) (hnow1:0≤now) (hnow2:now≤4*k) (hk150:k≤150)
  (hanb:an<256) (k9:u1.cell? ⟨qx,9,none⟩=some (.int .u8 an)) {A0 A1 A2 A3 Ab Ac Ad Ae Af Ag Ah Ai Aj Ak Al Am An Ao Ap Aq Ar As At Au Av Aw Ax Ay Az B0 B1 B2 B3 B4 B5 B6 B7 B8 B9 Ba Bb Bc Bd Be Bf Bg Bh Bi Bj Bk Bl Bm Bn Bo Bp Bq Br Bs Bt Bu Bv Bw Bx By Bz C0 C1 C2 C3 C4 C5 C6 C7 C8 C9 Ca Cb Cc Cd Ce Cf Cg Ch Ci Cj Ck Cl Cm Cn Co Cp Cq Cr Cs Ct Cu Cv Cw Cx Cy Cz E0 E1 E2 E3 E4 E5 E6 E7 E8 E9 Ea Eb Ec Ed Ee Ef Eg Eh Ei Ej Ek El Em En Eo Ep Eq Er Es Et Eu Ev Ew Ex Ey Ez F0 F1 F2 F3 F4 F5 F6 F7 F8 F9 Fa Fb Fc Fd Fe Ff Fg Fh Fi Fj Fk Fl Fm Fn Fo Fp Fq Fr Fs Ft Fu Fv Fw Fx Fy Fz I0 I1 I2 I3 I4 I5 I6 I7 I8 I9 Ia Ib Ic Id Ie If Ig Ih Ii Ij Ik Il Im In Io Ip Iq Ir Is It Iu Iv Iw Ix Iy Iz J0 J1 J2 J3 J4 J5 J6 J7 J8 J9 Ja Jb Jc Jd Je Jf Jg Jh Ji Jj Jk Jl Jm Jn Jo Jp Jq Jr Js Jt Ju Jv Jw Jx Jy Jz:Value}
  (hP:∀ c (a:Act) o v w,Q (.panic c) (a.put o v) w→Q (.panic c) a w) (hQ:∀ (O1 O2 O3 O4 O5 O6 O7 O8 O9 Oa Ob Oc Oy Oz R0 R1 R2 R3 R4 R5 R6 R7 R8 R9 Ra Rb Rc Rd Re Rf Rg Rh Ri Rj Rk Rl Rm Rn Ro Rp Rq Rr Rs Rt Ru Rv Rw Rx Ry Rz S0 S1 S2 S3 S4 S5 S6 S7 S9 Sa Sb Sc Sd Se Sf Sg Sh Si Sj Sk Sl Sm Sn So Sp Sq Sr Ss St Su Sv Sw Sx Sy Sz T0 T1 T2 T3 T4 T5 T6 T7 Ta Tb Tc Td Te Tf Tg Th Ti Tj Tk Tl Tm Tn To Tp Tq Tr Ts Tt Tu Tv Tw Tx Ty Tz V0 V1 V2 V3 V4 V5 V6 V7 V8 V9 Va Vb Vc Vd Ve Vf Vg Vh Vi Vj Vk Vl Vm Vn Vo Vp Vq Vr Vs Vt Vu Vv Vw Vx Vy Vz X0 X1 X2 X3 X4 X5 X6 X7 X8 X9 Xa Xb Xc Xd Xe Xf Xg Xh Xi Xj Xk Xl Xm Xn Xo Xp Xq Xr Xs Xt Xu Xv Xw Xx Xy Xz Y0 Y1 Y2 Y3 Y4 Y5 Y6 Y7 Y8 Y9 Ya Yb Yc Yd Ye Yf Yg Yh Yi Yj Yk Yl Ym Yn Yo Yp Yq Yr:Value) (v8:Value) (many2 now2:Int) (wx:World),0≤now2→now2≤4*(k+1)→(CrUp w1 wx jn bd qc N G v8 many2 now2 (k+1)∨CrDn w1 wx jn bd qc N G v8 (k+1))→Q .normal ⟨List.toArray ((.slice x0 n c0)::(.slice x1 un c1)::(.slice x2 kn c2)::A0::A1::A2::A3::(.pointer (some ⟨jn,0,none⟩))::(v8)::(.int .i64 now2)::(.int .i64 many2)::(.pointer (some ⟨qc,0,none⟩))::(.int .i64 (k:Int))::(.pointer (some ⟨qx,0,none⟩))::O1::O2::O3::O4::O5::O6::O7::O8::O9::Oa::Ob::Oc::An::Ao::Ap::Aq::Ar::As::At::Au::Av::Aw::Ax::Ay::Az::B0::B1::B2::B3::B4::B5::B6::B7::Oy::Oz::R0::R1::R2::R3::R4::R5::R6::R7::R8::R9::Ra::Rb::Rc::Rd::Re::Rf::Rg::Rh::Ri::Rj::Rk::Rl::Rm::Rn::Ro::Rp::Rq::Rr::Rs::Rt::Ru::Rv::Rw::Rx::Ry::Rz::S0::S1::S2::S3::S4::S5::S6::S7::S9::Sa::Sb::Sc::Sd::Se::Sf::Sg::Sh::Si::Sj::Sk::Sl::Sm::Sn::So::Sp::Sq::Sr::Ss::St::Su::Sv::Sw::Sx::Sy::Sz::T0::T1::T2::T3::T4::T5::T6::T7::Ta::Tb::Tc::Td::Te::Tf::Tg::Th::Ti::Tj::Tk::Tl::Tm::Tn::To::Tp::Tq::Tr::Ts::Tt::Tu::Tv::Tw::Tx::Ty::Tz::V0::V1::V2::V3::V4::V5::V6::V7::V8::V9::Va::Vb::Vc::Vd::Ve::Vf::Vg::Vh::Vi::Vj::Vk::Vl::Vm::Vn::Vo::Vp::Vq::Vr::Vs::Vt::Vu::Vv::Vw::Vx::Vy::Vz::X0::X1::X2::X3::X4::X5::X6::X7::X8::X9::Xa::Xb::Xc::Xd::Xe::Xf::Xg::Xh::Xi::Xj::Xk::Xl::Xm::Xn::Xo::Xp::Xq::Xr::Xs::Xt::Xu::Xv::Xw::Xx::Xy::Xz::Y0::Y1::Y2::Y3::Y4::Y5::Y6::Y7::Y8::Y9::Ya::Yb::Yc::Yd::Ye::Yf::Yg::Yh::Yi::Yj::Yk::Yl::Ym::Yn::Yo::Yp::Yq::Yr::Jz::[]),[]⟩ wx) :
  Code.wp Tryz.prog (crC [1,1,1,1,1,1,1,0,1,4,4,1,0,4,1,1,0,1,2,1,4,1,3,1,3]) Q ⟨List.toArray ((.slice x0 n c0)::(.slice x1 un c1)::(.slice x2 kn c2)::A0::A1::A2::A3::(.pointer (some ⟨jn,0,none⟩))::(.slice hx hn9 hc)::(.int .i64 now)::(.int .i64 M)::(.pointer (some ⟨qc,0,none⟩))::(.int .i64 (k:Int))::(.pointer (some ⟨qx,0,none⟩))::Ab::Ac::Ad::Ae::Af::Ag::Ah::Ai::Aj::Ak::Al::Am::An::Ao::Ap::Aq::Ar::As::At::Au::Av::Aw::Ax::Ay::Az::B0::B1::B2::B3::B4::B5::B6::B7::B8::B9::Ba::Bb::Bc::Bd::Be::Bf::Bg::Bh::Bi::Bj::Bk::Bl::Bm::Bn::Bo::Bp::Bq::Br::Bs::Bt::Bu::Bv::Bw::Bx::By::Bz::C0::C1::C2::C3::C4::C5::C6::C7::C8::C9::Ca::Cb::Cc::Cd::Ce::Cf::Cg::Ch::Ci::Cj::Ck::Cl::Cm::Cn::Co::Cp::Cq::Cr::Cs::Ct::Cu::Cv::Cw::Cx::Cy::Cz::E0::E1::E2::E3::E4::E5::E6::E7::E8::E9::Ea::Eb::Ec::Ed::Ee::Ef::Eg::Eh::Ei::Ej::Ek::El::Em::En::Eo::Ep::Eq::Er::Es::Et::Eu::Ev::Ew::Ex::Ey::Ez::F0::F1::F2::F3::F4::F5::F6::F7::F8::F9::Fa::Fb::Fc::Fd::Fe::Ff::Fg::Fh::Fi::Fj::Fk::Fl::Fm::Fn::Fo::Fp::Fq::Fr::Fs::Ft::Fu::Fv::Fw::Fx::Fy::Fz::I0::I1::I2::I3::I4::I5::I6::I7::I8::I9::Ia::Ib::Ic::Id::Ie::If::Ig::Ih::Ii::Ij::Ik::Il::Im::In::Io::Ip::Iq::Ir::Is::It::Iu::Iv::Iw::Ix::Iy::Iz::J0::J1::J2::J3::J4::J5::J6::J7::J8::J9::Ja::Jb::Jc::Jd::Je::Jf::Jg::Jh::Ji::Jj::Jk::Jl::Jm::Jn::Jo::Jp::Jq::Jr::Js::Jt::Ju::Jv::Jw::Jx::Jy::Jz::[]),[]⟩ u1:=by
 obtain ⟨c0',c1',c2'⟩:=HN3.out.cells
 conv => arg 2;whnf
 obtain ⟨a5,ha5⟩:∃ a5:Int,a5=(an:Int).tmod 5:=⟨_,rfl⟩
 have ha50:0≤a5∧a5<5:=by rw [ha5,Int.tmod_eq_emod_of_nonneg (by omega)];omega
 have ha5s:=ha5.symm
 have hanw:IntKind.i64.wrap (an:Int)=an:=by rw [IntKind.wrap_i64];omega
 clear ha5
 have HSTP:=Lib.hid (cr_step (now:=now+a5) HN3.out HI2.out HM3.out HNX.out HGP.out hx1 (by omega) (by omega) HE1.out hk150)
 go_wp2_with fail
 refine HSTP.out.mono ?_
 rintro e y3 (⟨r,rfl,ho⟩ | ⟨r,nx,ss,K5,j5,jx5,d5,h5,s5,x5,had5,rfl,hl5,hm5,hr5,hr6,hn5,hi5,hcm5,hs5,hs6,hg5,hg6,hx5⟩)
 case inl =>
  have HO:=Lib.hid ho
  have hno:=noB_is
  clear ho HSTP
  go_wp2_with fail
  exact hQ _ _ _ _ _ _ _ _ _ _ _ _ _ _ _ _ _ _ _ _ _ _ _ _ _ _ _ _ _ _ _ _ _ _ _ _ _ _ _ _ _ _ _ _ _ _ _ _ _ _ _ _ _ _ _ _ _ _ _ _ _ _ _ _ _ _ _ _ _ _ _ _ _ _ _ _ _ _ _ _ _ _ _ _ _ _ _ _ _ _ _ _ _ _ _ _ _ _ _ _ _ _ _ _ _ _ _ _ _ _ _ _ _ _ _ _ _ _ _ _ _ _ _ _ _ _ _ _ _ _ _ _ _ _ _ _ _ _ _ _ _ _ _ _ _ _ _ _ _ _ _ _ _ _ _ _ _ _ _ _ _ _ _ _ _ _ _ _ _ _ _ _ _ _ _ _ _ _ _ _ _ _ _ _ _ _ _ _ _ _ _ _ _ _ _ _ _ _ _ _ _ _ _ _ _ _ _ _ _ _ _ _ _ _ _ _ _ _ _ (.slice hx hn9 hc) M (now+a5) _ (by omega) (by omega) HO.out
 case inr =>
  have HUP5:=Lib.hid (fun (W:World) (hW:Below y3.heap.size y3 W) => show CrUp w1 W jn bd qc N G (.slice hx hn9 hc) (ss.length:Int) (now+a5) (k+1) from ⟨K5,j5,jx5,d5,h5,s5,x5,had5,hn5.below hW,hi5,hcm5.below hW,hs5,hs6,hg5,hg6⟩)
  have HN5:=Lib.hid hn5
  have HX5:=Lib.hid hx5
  have HDB:=Lib.hid (decBatch_ok 1 nx ss y3 (by decide) hr5 hr6 hl5 hm5)
  obtain ⟨BT,hBT⟩:∃ BT,BT=batchB 1 nx ss:=⟨_,rfl⟩
  rw [← hBT] at HDB ⊢
  have hem:BT.toList.isEmpty=false:=by
   cases hq:BT.toList.isEmpty with
   | true => exact absurd (hBT ▸ noB_of hq) (batchB_ne _ _ _)
   | false => rfl
  obtain ⟨sl,hsl⟩:∃ sl,sl=ss.length:=⟨_,rfl⟩
  have hslb:sl≤8:=by omega
  have HSL:=Lib.hid hsl
  clear hBT hn5 hi5 hcm5 hs5 hs6 hg5 hg6 hx5 hr5 hr6 hl5 hm5 HSTP hsl
  go_wp2_with fail
  refine HDB.out.mono ?_
  rintro e y6 ⟨sv,rfl,hsv,hb6⟩
  obtain ⟨sx,sc,hsx⟩:=OwnRow.shape hsv
  rw [← HSL.out] at hsx
  subst hsx
  obtain ⟨qb,hqb⟩:∃ q,q=y6.heap.size:=⟨_,rfl⟩
  obtain ⟨y7,hy7⟩:∃ y,y=y6.alloc (.cells #[.int .i64 1,.int .i64 nx,.slice sx sl sc] 63 (0,0)):=⟨_,rfl⟩
  have hb7:Below y6.heap.size y6 y7:=by rw [hy7];exact (Below.refl _ _).alloc (Nat.le_refl _) _
  have hk7:Blk y7 qb 63 #[.int .i64 1,.int .i64 nx,.slice sx sl sc]:=by rw [hy7,hqb];exact Blk.alloc_new y6 _ _
  have HY7:=Lib.hid (show Below y3.heap.size y3 y7 from hb6.trans (hb7.mono hb6.size))
  have HV7:=Lib.hid hy7
  have HQB:=Lib.hid hqb
  have HK7:=Lib.hid hk7
  obtain ⟨y8,hy8⟩:∃ y,y=y7.drew:=⟨_,rfl⟩
  have HY8:=Lib.hid (show Below y7.heap.size y7 y8 by rw [hy8];exact (Below.refl _ _).drew)
  have HTT:=Lib.hid (fun (W:World) (hW:Below y7.heap.size y7 W) => show W.cell? ⟨jn,2,none⟩=some (.pointer (some ⟨jx5,0,none⟩))∧W.cell? ⟨qb,1,none⟩=some (.int .i64 nx)∧W.cell? ⟨qb,2,none⟩=some (.slice sx sl sc) from ⟨((HN5.out.below HY7.out).below hW).cells.2.2,(HK7.out.below hW).cell 1,(HK7.out.below hW).cell 2⟩)
  have hT:=HTT.out y8 HY8.out
  have hS:True:=trivial
  have hfd:∀ (gg:Int) (W:World),(Instr.field 30 (.agg #[.int .i64 nx,.int .i64 gg]) 0).run Tryz.prog W=.ok (.int .i64 nx) W:=fun _ _ => by kernel_rfl
  have hcu:=((HN5.out.below HY7.out).below HY8.out).cursor
  unfold curV at hcu
  rw [HX5.out] at hcu
  have HCU5:=Lib.hid hcu
  clear HDB hsv hb6 hb7 hk7 hy7 hqb hcu
  go_wp2_with fail
  rw [← HV7.out,← HQB.out]
  refine wp_region_two (T:=fun W => W.cell? ⟨jn,2,none⟩=some (.pointer (some ⟨jx5,0,none⟩))∧W.cell? ⟨qb,1,none⟩=some (.int .i64 nx)∧W.cell? ⟨qb,2,none⟩=some (.slice sx sl sc)) (S:=fun _ => True) (n:=99) (by kernel_rfl) ?_
  rw [← hy8]
  clear hy8
  refine tk 0 114 hT hS ?_ (hQ:=fun _ _ _ h => hP _ _ _ _ _ h)
  refine tk 1 115 hT hS ?_ (hQ:=fun _ _ _ h => hP _ _ _ _ _ h)
  try simp only [xq]
  refine tk 2 116 hT hS ?_ (hQ:=fun _ _ _ h => hP _ _ _ _ _ h)
  refine tk 3 117 hT hS ?_ (hQ:=fun _ _ _ h => hP _ _ _ _ _ h)
  try simp only [xq]
  refine tk 4 118 hT hS ?_ (hQ:=fun _ _ _ h => hP _ _ _ _ _ h)
  refine tk 5 119 hT hS ?_ (hQ:=fun _ _ _ h => hP _ _ _ _ _ h)
  try simp only [xq]
  refine tk 6 120 hT hS ?_ (hQ:=fun _ _ _ h => hP _ _ _ _ _ h)
  refine tk 7 121 hT hS ?_ (hQ:=fun _ _ _ h => hP _ _ _ _ _ h)
  try simp only [xq]
  refine tk 8 122 hT hS ?_ (hQ:=fun _ _ _ h => hP _ _ _ _ _ h)
  try simp only [xq]
  refine two_one 9 rfl (by kernel_rfl) ?_
  intro K0 hK0
  go_simp
  refine HCU5.out.mono ?_
  rintro e y9 ⟨rfl,hb9⟩
  have HY9:=Lib.hid (HY8.out.trans (hb9.mono HY8.out.size))
  have hT9:=HTT.out y9 HY9.out
  refine hK0.out _ _ hT9 (fun _ _ => hS) ?_
  clear hK0 K0
  try simp only [xq]
  clear hb9 hT HCU5
  have hT:=hT9
  clear hT9
  refine tk 10 124 hT hS ?_ (hQ:=fun _ _ _ h => hP _ _ _ _ _ h)
  refine tk 11 125 hT hS ?_ (hQ:=fun _ _ _ h => hP _ _ _ _ _ h)
  try simp only [xq]
  refine tk 12 126 hT hS ?_ (hQ:=fun _ _ _ h => hP _ _ _ _ _ h)
  try simp only [xq]
  refine two_done (by kernel_rfl) ?_ _
  obtain ⟨t1,t2,A0⟩:=hT
  have HUP6:=Lib.hid (HUP5.out y9 (HY7.out.trans (HY9.out.mono HY7.out.size)))
  rw [← HSL.out] at HUP6
  clear HUP5 HTT
  go_wp2_with fail
  exact hQ _ _ _ _ _ _ _ _ _ _ _ _ _ _ _ _ _ _ _ _ _ _ _ _ _ _ _ _ _ _ _ _ _ _ _ _ _ _ _ _ _ _ _ _ _ _ _ _ _ _ _ _ _ _ _ _ _ _ _ _ _ _ _ _ _ _ _ _ _ _ _ _ _ _ _ _ _ _ _ _ _ _ _ _ _ _ _ _ _ _ _ _ _ _ _ _ _ _ _ _ _ _ _ _ _ _ _ _ _ _ _ _ _ _ _ _ _ _ _ _ _ _ _ _ _ _ _ _ _ _ _ _ _ _ _ _ _ _ _ _ _ _ _ _ _ _ _ _ _ _ _ _ _ _ _ _ _ _ _ _ _ _ _ _ _ _ _ _ _ _ _ _ _ _ _ _ _ _ _ _ _ _ _ _ _ _ _ _ _ _ _ _ _ _ _ _ _ _ _ _ _ _ _ _ _ _ _ _ _ _ _ _ _ _ _ _ _ _ _ (.slice hx hn9 hc) (sl:Int) (now+a5) _ (by omega) (by omega) (.inl HUP6.out)
end Go.Proofs.YtdacanghbepjpaaGreatDoor
namespace Go.Proofs.YtdacanghbepjpaaGreatDoor
set_option linter.unusedSimpArgs false
set_option linter.unusedVariables false
set_option maxRecDepth 100000
open Go.RowKit Go.Maps
open Dsk
set_option maxHeartbeats 32000000 in
theorem cr_take {Q:Exit→Act→World→Prop} {w1 u1:World} {K1:Nat→Prop} {jn bd j jx qc qx n un kn c0 c1 c2 k M N:Nat} {G now:Int} {x0 x1 x2:Option Addr} {d1:Dk} {h:Hl} {s:Nat} {x:Dm} {had had2:List Bool} {v8:Value} {adt:ByteArray}
  (HN3:Hid (NE w1 u1 K1 jn bd j jx d1 h x)) (HI2:Hid (CrI d1 h s x had M k)) (HM3:Hid (CrM w1 u1 K1 jn qc N G v8 had2)) (HNX:Hid (x.next=(N:Int))) (HGP:Hid (x.gap=G)) (hx1:0≤x.sent) (hx2:x.sent≤now) (hnow1:0≤now) (hnow2:now≤4*k) (hk150:k≤150)
  (HMO:Hid (∀ q,had.getD q false=true→had2.getD q false=true)) (HLL:Hid (had2.length≤140000*(k+2)))
  (HAL:Hid (x.out≠noB→Po.decAck adt.data.toList=some (x.host,x.next,x.next+x.many)→∀ q,x.next.toNat≤q→q<x.next.toNat+x.many.toNat→had2.getD q false=true))
  (HAD:Hid (adt.size≤maxLen)) (HKC:Hid (∀ W,Keeps K1 u1 W→W.cell? ⟨qx,13,none⟩=some (.string adt))) {A0 A1 A2 A3 Ab Ac Ad Ae Af Ag Ah Ai Aj Ak Al Am An Ao Ap Aq Ar As At Au Av Aw Ax Ay Az B0 B1 B2 B3 B4 B5 B6 B7 B8 B9 Ba Bb Bc Bd Be Bf Bg Bh Bi Bj Bk Bl Bm Bn Bo Bp Bq Br Bs Bt Bu Bv Bw Bx By Bz C0 C1 C2 C3 C4 C5 C6 C7 C8 C9 Ca Cb Cc Cd Ce Cf Cg Ch Ci Cj Ck Cl Cm Cn Co Cp Cq Cr Cs Ct Cu Cv Cw Cx Cy Cz E0 E1 E2 E3 E4 E5 E6 E7 E8 E9 Ea Eb Ec Ed Ee Ef Eg Eh Ei Ej Ek El Em En Eo Ep Eq Er Es Et Eu Ev Ew Ex Ey Ez F0 F1 F2 F3 F4 F5 F6 F7 F8 F9 Fa Fb Fc Fd Fe Ff Fg Fh Fi Fj Fk Fl Fm Fn Fo Fp Fq Fr Fs Ft Fu Fv Fw Fx Fy Fz I0 I1 I2 I3 I4 I5 I6 I7 I8 I9 Ia Ib Ic Id Ie If Ig Ih Ii Ij Ik Il Im In Io Ip Iq Ir Is It Iu Iv Iw Ix Iy Iz J0 J1 J2 J3 J4 J5 J6 J7 J8 J9 Ja Jb Jc Jd Je Jf Jg Jh Ji Jj Jk Jl Jm Jn Jo Jp Jq Jr Js Jt Ju Jv Jw Jx Jy Jz:Value}
  (hP:∀ c (a:Act) o v w,Q (.panic c) (a.put o v) w→Q (.panic c) a w) (hQ:∀ (O1 O2 O3 O4 O5 O6 O7 O8 O9 Oa Ob Oc Oy Oz R0 R1 R2 R3 R4 R5 R6 R7 R8 R9 Ra Rb Rc Rd Re Rf Rg Rh Ri Rj Rk Rl Rm Rn Ro Rp Rq Rr Rs Rt Ru Rv Rw Rx Ry Rz S0 S1 S2 S3 S4 S5 S6 S7 S9 Sa Sb Sc Sd Se Sf Sg Sh Si Sj Sk Sl Sm Sn So Sp Sq Sr Ss St Su Sv Sw Sx Sy Sz T0 T1 T2 T3 T4 T5 T6 T7 Ta Tb Tc Td Te Tf Tg Th Ti Tj Tk Tl Tm Tn To Tp Tq Tr Ts Tt Tu Tv Tw Tx Ty Tz V0 V1 V2 V3 V4 V5 V6 V7 V8 V9 Va Vb Vc Vd Ve Vf Vg Vh Vi Vj Vk Vl Vm Vn Vo Vp Vq Vr Vs Vt Vu Vv Vw Vx Vy Vz X0 X1 X2 X3 X4 X5 X6 X7 X8 X9 Xa Xb Xc Xd Xe Xf Xg Xh Xi Xj Xk Xl Xm Xn Xo Xp Xq Xr Xs Xt Xu Xv Xw Xx Xy Xz Y0 Y1 Y2 Y3 Y4 Y5 Y6 Y7 Y8 Y9 Ya Yb Yc Yd Ye Yf Yg Yh Yi Yj Yk Yl Ym Yn Yo Yp Yq Yr:Value) (z8:Value) (many2 now2:Int) (wx:World),0≤now2→now2≤4*(k+1)→(CrUp w1 wx jn bd qc N G z8 many2 now2 (k+1)∨CrDn w1 wx jn bd qc N G z8 (k+1))→Q .normal ⟨List.toArray ((.slice x0 n c0)::(.slice x1 un c1)::(.slice x2 kn c2)::A0::A1::A2::A3::(.pointer (some ⟨jn,0,none⟩))::(z8)::(.int .i64 now2)::(.int .i64 many2)::(.pointer (some ⟨qc,0,none⟩))::(.int .i64 (k:Int))::(.pointer (some ⟨qx,0,none⟩))::O1::O2::O3::O4::O5::O6::O7::O8::O9::Oa::Ob::Oc::An::Ao::Ap::Aq::Ar::As::At::Au::Av::Aw::Ax::Ay::Az::B0::B1::B2::B3::B4::B5::B6::B7::Oy::Oz::R0::R1::R2::R3::R4::R5::R6::R7::R8::R9::Ra::Rb::Rc::Rd::Re::Rf::Rg::Rh::Ri::Rj::Rk::Rl::Rm::Rn::Ro::Rp::Rq::Rr::Rs::Rt::Ru::Rv::Rw::Rx::Ry::Rz::S0::S1::S2::S3::S4::S5::S6::S7::S9::Sa::Sb::Sc::Sd::Se::Sf::Sg::Sh::Si::Sj::Sk::Sl::Sm::Sn::So::Sp::Sq::Sr::Ss::St::Su::Sv::Sw::Sx::Sy::Sz::T0::T1::T2::T3::T4::T5::T6::T7::Ta::Tb::Tc::Td::Te::Tf::Tg::Th::Ti::Tj::Tk::Tl::Tm::Tn::To::Tp::Tq::Tr::Ts::Tt::Tu::Tv::Tw::Tx::Ty::Tz::V0::V1::V2::V3::V4::V5::V6::V7::V8::V9::Va::Vb::Vc::Vd::Ve::Vf::Vg::Vh::Vi::Vj::Vk::Vl::Vm::Vn::Vo::Vp::Vq::Vr::Vs::Vt::Vu::Vv::Vw::Vx::Vy::Vz::X0::X1::X2::X3::X4::X5::X6::X7::X8::X9::Xa::Xb::Xc::Xd::Xe::Xf::Xg::Xh::Xi::Xj::Xk::Xl::Xm::Xn::Xo::Xp::Xq::Xr::Xs::Xt::Xu::Xv::Xw::Xx::Xy::Xz::Y0::Y1::Y2::Y3::Y4::Y5::Y6::Y7::Y8::Y9::Ya::Yb::Yc::Yd::Ye::Yf::Yg::Yh::Yi::Yj::Yk::Yl::Ym::Yn::Yo::Yp::Yq::Yr::Jz::[]),[]⟩ wx) :
  Code.wp Tryz.prog (crC [1,1,1,1,1,1,1,0,1,4,4,1,0,4,1,1,0,1,2,1,4,1,3,1,2,1,1]) Q ⟨List.toArray ((.slice x0 n c0)::(.slice x1 un c1)::(.slice x2 kn c2)::A0::A1::A2::A3::(.pointer (some ⟨jn,0,none⟩))::(v8)::(.int .i64 now)::(.int .i64 M)::(.pointer (some ⟨qc,0,none⟩))::(.int .i64 (k:Int))::(.pointer (some ⟨qx,0,none⟩))::Ab::Ac::Ad::Ae::Af::Ag::Ah::Ai::Aj::Ak::Al::Am::An::Ao::Ap::Aq::Ar::As::At::Au::Av::Aw::Ax::Ay::Az::B0::B1::B2::B3::B4::B5::B6::B7::B8::B9::Ba::Bb::Bc::Bd::Be::Bf::Bg::Bh::Bi::Bj::Bk::Bl::Bm::Bn::Bo::Bp::Bq::Br::Bs::Bt::Bu::Bv::Bw::Bx::By::Bz::C0::C1::C2::C3::C4::C5::C6::C7::C8::C9::Ca::Cb::Cc::Cd::Ce::Cf::Cg::Ch::Ci::Cj::Ck::Cl::Cm::Cn::Co::Cp::Cq::Cr::Cs::Ct::Cu::Cv::Cw::Cx::Cy::Cz::E0::E1::E2::E3::E4::E5::E6::E7::E8::E9::Ea::Eb::Ec::Ed::Ee::Ef::Eg::Eh::Ei::Ej::Ek::El::Em::En::Eo::Ep::Eq::Er::Es::Et::Eu::Ev::Ew::Ex::Ey::Ez::F0::F1::F2::F3::F4::F5::F6::F7::F8::F9::Fa::Fb::Fc::Fd::Fe::Ff::Fg::Fh::Fi::Fj::Fk::Fl::Fm::Fn::Fo::Fp::Fq::Fr::Fs::Ft::Fu::Fv::Fw::Fx::Fy::Fz::I0::I1::I2::I3::I4::I5::I6::I7::I8::I9::Ia::Ib::Ic::Id::Ie::If::Ig::Ih::Ii::Ij::Ik::Il::Im::In::Io::Ip::Iq::Ir::Is::It::Iu::Iv::Iw::Ix::Iy::Iz::J0::J1::J2::J3::J4::J5::J6::J7::J8::J9::Ja::Jb::Jc::Jd::Je::Jf::Jg::Jh::Ji::Jj::Jk::Jl::Jm::Jn::Jo::Jp::Jq::Jr::Js::Jt::Ju::Jv::Jw::Jx::Jy::Jz::[]),[]⟩ u1:=by
 obtain ⟨c0',c1',c2'⟩:=HN3.out.cells
 conv => arg 2;whnf
 obtain ⟨R,hR⟩:∃ R,R=takeC adt.data.toList d1 x:=⟨_,rfl⟩
 have HTK:=Lib.hid (HI2.out.take (by omega) adt.data.toList HMO.out HLL.out HAL.out)
 have HFW:=Lib.hid (HI2.out.fw (by omega))
 rw [← hR] at HTK
 have HR:=Lib.hid hR
 clear hR
 obtain ⟨y2,hy2⟩:∃ y,y=u1.drew:=⟨_,rfl⟩
 have HY2:=Lib.hid (show Below u1.heap.size u1 y2 by rw [hy2];exact (Below.refl _ _).drew)
 have hT:y2.cell? ⟨jn,2,none⟩=some (.pointer (some ⟨jx,0,none⟩))∧y2.cell? ⟨qx,13,none⟩=some (.string adt):=⟨(HN3.out.below HY2.out).cells.2.2,HKC.out y2 (Keeps.below HY2.out)⟩
 have hS:True:=trivial
 go_wp2_with fail
 refine wp_region_two (T:=fun W => W.cell? ⟨jn,2,none⟩=some (.pointer (some ⟨jx,0,none⟩))∧W.cell? ⟨qx,13,none⟩=some (.string adt)) (S:=fun _ => True) (n:=99) (by kernel_rfl) ?_
 rw [← hy2]
 clear hy2
 refine tk 0 200 hT hS ?_ (hQ:=fun _ _ _ h => hP _ _ _ _ _ h)
 refine tk 1 201 hT hS ?_ (hQ:=fun _ _ _ h => hP _ _ _ _ _ h)
 try simp only [xq]
 refine tk 2 202 hT hS ?_ (hQ:=fun _ _ _ h => hP _ _ _ _ _ h)
 refine tk 3 203 hT hS ?_ (hQ:=fun _ _ _ h => hP _ _ _ _ _ h)
 try simp only [xq]
 refine tk 4 204 hT hS ?_ (hQ:=fun _ _ _ h => hP _ _ _ _ _ h)
 refine tk 5 205 hT hS ?_ (hQ:=fun _ _ _ h => hP _ _ _ _ _ h)
 try simp only [xq]
 have hta:=(HN3.out.below HY2.out).take HFW.out adt HAD.out (R:=R) (by rw [HR.out])
 have HTA:=Lib.hid hta
 clear hta
 refine two_one 6 rfl (by kernel_rfl) ?_
 intro K0 hK0
 go_simp
 refine HTA.out.mono ?_
 rintro e y4 ⟨rfl,hn4,hk4⟩
 have HN4:=Lib.hid hn4
 have HM4:=Lib.hid ((HM3.out.below HY2.out).keeps hk4)
 have hT4:y4.cell? ⟨jn,2,none⟩=some (.pointer (some ⟨jx,0,none⟩))∧y4.cell? ⟨qx,13,none⟩=some (.string adt):=⟨hn4.cells.2.2,HKC.out y4 ((Keeps.below HY2.out).trans hk4)⟩
 refine hK0.out _ _ hT4 (fun _ _ => hS) ?_
 clear hK0 K0
 try simp only [xq]
 clear hn4 hk4 hT HTA HM3
 have hT:=hT4
 clear hT4
 refine tk 7 199 hT hS ?_ (hQ:=fun _ _ _ h => hP _ _ _ _ _ h)
 refine tk 8 207 hT hS ?_ (hQ:=fun _ _ _ h => hP _ _ _ _ _ h)
 try simp only [xq]
 refine tk 9 208 hT hS ?_ (hQ:=fun _ _ _ h => hP _ _ _ _ _ h)
 refine tk 10 19 hT hS ?_ (hQ:=fun _ _ _ h => hP _ _ _ _ _ h)
 try simp only [xq]
 refine tk 11 20 hT hS ?_ (hQ:=fun _ _ _ h => hP _ _ _ _ _ h)
 try simp only [xq]
 refine two_done (by kernel_rfl) ?_ _
 clear hT
 obtain ⟨⟨ok,rr⟩,x5,d5⟩:=R
 simp only at HTK HN4
 rcases HTK.out with ⟨e1,e2,i5⟩ | ⟨e1,i5,g1,g2⟩ | ⟨e1,e2,c5⟩
 case inl =>
  subst e1
  injection e2 with e2 e3
  subst e2 e3
  have HI5:=Lib.hid i5
  clear i5 HTK HR
  go_wp2_with fail
  exact hQ _ _ _ _ _ _ _ _ _ _ _ _ _ _ _ _ _ _ _ _ _ _ _ _ _ _ _ _ _ _ _ _ _ _ _ _ _ _ _ _ _ _ _ _ _ _ _ _ _ _ _ _ _ _ _ _ _ _ _ _ _ _ _ _ _ _ _ _ _ _ _ _ _ _ _ _ _ _ _ _ _ _ _ _ _ _ _ _ _ _ _ _ _ _ _ _ _ _ _ _ _ _ _ _ _ _ _ _ _ _ _ _ _ _ _ _ _ _ _ _ _ _ _ _ _ _ _ _ _ _ _ _ _ _ _ _ _ _ _ _ _ _ _ _ _ _ _ _ _ _ _ _ _ _ _ _ _ _ _ _ _ _ _ _ _ _ _ _ _ _ _ _ _ _ _ _ _ _ _ _ _ _ _ _ _ _ _ _ _ _ _ _ _ _ _ _ _ _ _ _ _ _ _ _ _ _ _ _ _ _ _ _ _ _ _ _ _ _ _ _ M now _ hnow1 (by omega) (.inl ⟨_,j,jx,_,h,s,_,_,HN4.out,HI5.out,HM4.out,hx1,hx2,by rw [HNX.out];exact Int.le_refl _,by rw [HGP.out];exact Int.le_refl _⟩)
 case inr.inl =>
  subst e1
  have HI5:=Lib.hid i5
  have HG5:=Lib.hid (And.intro g1 g2)
  have HS5:=Lib.hid (show x5.sent=x.sent from by
   have h9:=take_sent adt.data.toList d1 x
   rw [← HR.out] at h9
   exact h9)
  clear i5 HTK g1 g2 HR
  go_wp2_with fail
  exact hQ _ _ _ _ _ _ _ _ _ _ _ _ _ _ _ _ _ _ _ _ _ _ _ _ _ _ _ _ _ _ _ _ _ _ _ _ _ _ _ _ _ _ _ _ _ _ _ _ _ _ _ _ _ _ _ _ _ _ _ _ _ _ _ _ _ _ _ _ _ _ _ _ _ _ _ _ _ _ _ _ _ _ _ _ _ _ _ _ _ _ _ _ _ _ _ _ _ _ _ _ _ _ _ _ _ _ _ _ _ _ _ _ _ _ _ _ _ _ _ _ _ _ _ _ _ _ _ _ _ _ _ _ _ _ _ _ _ _ _ _ _ _ _ _ _ _ _ _ _ _ _ _ _ _ _ _ _ _ _ _ _ _ _ _ _ _ _ _ _ _ _ _ _ _ _ _ _ _ _ _ _ _ _ _ _ _ _ _ _ _ _ _ _ _ _ _ _ _ _ _ _ _ _ _ _ _ _ _ _ _ _ _ _ _ _ _ _ _ _ _ 0 now _ hnow1 (by omega) (.inl ⟨_,j,jx,_,h,s,_,_,HN4.out,HI5.out,HM4.out,by rw [HS5.out];exact hx1,by rw [HS5.out];exact hx2,by have:=HG5.out.1;rw [HNX.out] at this;exact this,by have:=HG5.out.2;rw [HGP.out] at this;exact this⟩)
 case inr.inr =>
  subst e1 e2
  have HC5:=Lib.hid c5
  clear c5 HTK HR
  go_wp2_with fail
  exact hQ _ _ _ _ _ _ _ _ _ _ _ _ _ _ _ _ _ _ _ _ _ _ _ _ _ _ _ _ _ _ _ _ _ _ _ _ _ _ _ _ _ _ _ _ _ _ _ _ _ _ _ _ _ _ _ _ _ _ _ _ _ _ _ _ _ _ _ _ _ _ _ _ _ _ _ _ _ _ _ _ _ _ _ _ _ _ _ _ _ _ _ _ _ _ _ _ _ _ _ _ _ _ _ _ _ _ _ _ _ _ _ _ _ _ _ _ _ _ _ _ _ _ _ _ _ _ _ _ _ _ _ _ _ _ _ _ _ _ _ _ _ _ _ _ _ _ _ _ _ _ _ _ _ _ _ _ _ _ _ _ _ _ _ _ _ _ _ _ _ _ _ _ _ _ _ _ _ _ _ _ _ _ _ _ _ _ _ _ _ _ _ _ _ _ _ _ _ _ _ _ _ _ _ _ _ _ _ _ _ _ _ _ _ _ _ _ _ _ _ _ M now _ hnow1 (by omega) (.inr ⟨_,d1,h,s,_,_,_,HN4.out.down (fun q hq => (HM4.out.kn q hq).1),HC5.out,HM4.out,HNX.out,HGP.out⟩)
end Go.Proofs.YtdacanghbepjpaaGreatDoor
namespace Go.Proofs.YtdacanghbepjpaaGreatDoor
set_option linter.unusedSimpArgs false
set_option linter.unusedVariables false
set_option maxRecDepth 100000
open Go.RowKit Go.Maps
open Dsk
set_option maxHeartbeats 32000000 in
theorem cr_up {Q:Exit→Act→World→Prop} {w1 u2:World} {jn bd qc qx n un kn c0 c1 c2 k N:Nat} {G now2 many2:Int} {hv2:Value} {x0 x1 x2:Option Addr}
  (HE1:Hid (LEnv w1)) (ho:CrUp w1 u2 jn bd qc N G hv2 many2 now2 (k+1)∨CrDn w1 u2 jn bd qc N G hv2 (k+1)) (hn21:0≤now2) (hk150:k≤150) {A0 A1 A2 A3 Ab Ac Ad Ae Af Ag Ah Ai Aj Ak Al Am An Ao Ap Aq Ar As At Au Av Aw Ax Ay Az B0 B1 B2 B3 B4 B5 B6 B7 B8 B9 Ba Bb Bc Bd Be Bf Bg Bh Bi Bj Bk Bl Bm Bn Bo Bp Bq Br Bs Bt Bu Bv Bw Bx By Bz C0 C1 C2 C3 C4 C5 C6 C7 C8 C9 Ca Cb Cc Cd Ce Cf Cg Ch Ci Cj Ck Cl Cm Cn Co Cp Cq Cr Cs Ct Cu Cv Cw Cx Cy Cz E0 E1 E2 E3 E4 E5 E6 E7 E8 E9 Ea Eb Ec Ed Ee Ef Eg Eh Ei Ej Ek El Em En Eo Ep Eq Er Es Et Eu Ev Ew Ex Ey Ez F0 F1 F2 F3 F4 F5 F6 F7 F8 F9 Fa Fb Fc Fd Fe Ff Fg Fh Fi Fj Fk Fl Fm Fn Fo Fp Fq Fr Fs Ft Fu Fv Fw Fx Fy Fz I0 I1 I2 I3 I4 I5 I6 I7 I8 I9 Ia Ib Ic Id Ie If Ig Ih Ii Ij Ik Il Im In Io Ip Iq Ir Is It Iu Iv Iw Ix Iy Iz J0 J1 J2 J3 J4 J5 J6 J7 J8 J9 Ja Jb Jc Jd Je Jf Jg Jh Ji Jj Jk Jl Jm Jn Jo Jp Jq Jr Js Jt Ju Jv Jw Jx Jy Jz:Value}
  (hP:∀ c (a:Act) o v w,Q (.panic c) (a.put o v) w→Q (.panic c) a w) (hQ:∀ (O1 O2 O3 O4 O5 O6 O7 O8 O9 Oa Ob Oc Oy Oz R0 R1 R2 R3 R4 R5 R6 R7 R8 R9 Ra Rb Rc Rd Re Rf Rg Rh Ri Rj Rk Rl Rm Rn Ro Rp Rq Rr Rs Rt Ru Rv Rw Rx Ry Rz S0 S1 S2 S3 S4 S5 S6 S7 S9 Sa Sb Sc Sd Se Sf Sg Sh Si Sj Sk Sl Sm Sn So Sp Sq Sr Ss St Su Sv Sw Sx Sy Sz T0 T1 T2 T3 T4 T5 T6 T7 Ta Tb Tc Td Te Tf Tg Th Ti Tj Tk Tl Tm Tn To Tp Tq Tr Ts Tt Tu Tv Tw Tx Ty Tz V0 V1 V2 V3 V4 V5 V6 V7 V8 V9 Va Vb Vc Vd Ve Vf Vg Vh Vi Vj Vk Vl Vm Vn Vo Vp Vq Vr Vs Vt Vu Vv Vw Vx Vy Vz X0 X1 X2 X3 X4 X5 X6 X7 X8 X9 Xa Xb Xc Xd Xe Xf Xg Xh Xi Xj Xk Xl Xm Xn Xo Xp Xq Xr Xs Xt Xu Xv Xw Xx Xy Xz Y0 Y1 Y2 Y3 Y4 Y5 Y6 Y7 Y8 Y9 Ya Yb Yc Yd Ye Yf Yg Yh Yi Yj Yk Yl Ym Yn Yo Yp Yq Yr:Value) (many3:Int) (wx:World),CrUp w1 wx jn bd qc N G hv2 many3 now2 (k+1)→Q .normal ⟨List.toArray ((.slice x0 n c0)::(.slice x1 un c1)::(.slice x2 kn c2)::A0::A1::A2::A3::(.pointer (some ⟨jn,0,none⟩))::(hv2)::(.int .i64 now2)::(.int .i64 many3)::(.pointer (some ⟨qc,0,none⟩))::(.int .i64 (k:Int))::(.pointer (some ⟨qx,0,none⟩))::O1::O2::O3::O4::O5::O6::O7::O8::O9::Oa::Ob::Oc::An::Ao::Ap::Aq::Ar::As::At::Au::Av::Aw::Ax::Ay::Az::B0::B1::B2::B3::B4::B5::B6::B7::Oy::Oz::R0::R1::R2::R3::R4::R5::R6::R7::R8::R9::Ra::Rb::Rc::Rd::Re::Rf::Rg::Rh::Ri::Rj::Rk::Rl::Rm::Rn::Ro::Rp::Rq::Rr::Rs::Rt::Ru::Rv::Rw::Rx::Ry::Rz::S0::S1::S2::S3::S4::S5::S6::S7::S9::Sa::Sb::Sc::Sd::Se::Sf::Sg::Sh::Si::Sj::Sk::Sl::Sm::Sn::So::Sp::Sq::Sr::Ss::St::Su::Sv::Sw::Sx::Sy::Sz::T0::T1::T2::T3::T4::T5::T6::T7::Ta::Tb::Tc::Td::Te::Tf::Tg::Th::Ti::Tj::Tk::Tl::Tm::Tn::To::Tp::Tq::Tr::Ts::Tt::Tu::Tv::Tw::Tx::Ty::Tz::V0::V1::V2::V3::V4::V5::V6::V7::V8::V9::Va::Vb::Vc::Vd::Ve::Vf::Vg::Vh::Vi::Vj::Vk::Vl::Vm::Vn::Vo::Vp::Vq::Vr::Vs::Vt::Vu::Vv::Vw::Vx::Vy::Vz::X0::X1::X2::X3::X4::X5::X6::X7::X8::X9::Xa::Xb::Xc::Xd::Xe::Xf::Xg::Xh::Xi::Xj::Xk::Xl::Xm::Xn::Xo::Xp::Xq::Xr::Xs::Xt::Xu::Xv::Xw::Xx::Xy::Xz::Y0::Y1::Y2::Y3::Y4::Y5::Y6::Y7::Y8::Y9::Ya::Yb::Yc::Yd::Ye::Yf::Yg::Yh::Yi::Yj::Yk::Yl::Ym::Yn::Yo::Yp::Yq::Yr::Jz::[]),[]⟩ wx) :
  Code.wp Tryz.prog (crC [1,1,1,1,1,1,1,0,1,4,4,1,0,4,1,1,1,0]) Q ⟨List.toArray ((.slice x0 n c0)::(.slice x1 un c1)::(.slice x2 kn c2)::A0::A1::A2::A3::(.pointer (some ⟨jn,0,none⟩))::(hv2)::(.int .i64 now2)::(.int .i64 many2)::(.pointer (some ⟨qc,0,none⟩))::(.int .i64 (k:Int))::(.pointer (some ⟨qx,0,none⟩))::Ab::Ac::Ad::Ae::Af::Ag::Ah::Ai::Aj::Ak::Al::Am::An::Ao::Ap::Aq::Ar::As::At::Au::Av::Aw::Ax::Ay::Az::B0::B1::B2::B3::B4::B5::B6::B7::B8::B9::Ba::Bb::Bc::Bd::Be::Bf::Bg::Bh::Bi::Bj::Bk::Bl::Bm::Bn::Bo::Bp::Bq::Br::Bs::Bt::Bu::Bv::Bw::Bx::By::Bz::C0::C1::C2::C3::C4::C5::C6::C7::C8::C9::Ca::Cb::Cc::Cd::Ce::Cf::Cg::Ch::Ci::Cj::Ck::Cl::Cm::Cn::Co::Cp::Cq::Cr::Cs::Ct::Cu::Cv::Cw::Cx::Cy::Cz::E0::E1::E2::E3::E4::E5::E6::E7::E8::E9::Ea::Eb::Ec::Ed::Ee::Ef::Eg::Eh::Ei::Ej::Ek::El::Em::En::Eo::Ep::Eq::Er::Es::Et::Eu::Ev::Ew::Ex::Ey::Ez::F0::F1::F2::F3::F4::F5::F6::F7::F8::F9::Fa::Fb::Fc::Fd::Fe::Ff::Fg::Fh::Fi::Fj::Fk::Fl::Fm::Fn::Fo::Fp::Fq::Fr::Fs::Ft::Fu::Fv::Fw::Fx::Fy::Fz::I0::I1::I2::I3::I4::I5::I6::I7::I8::I9::Ia::Ib::Ic::Id::Ie::If::Ig::Ih::Ii::Ij::Ik::Il::Im::In::Io::Ip::Iq::Ir::Is::It::Iu::Iv::Iw::Ix::Iy::Iz::J0::J1::J2::J3::J4::J5::J6::J7::J8::J9::Ja::Jb::Jc::Jd::Je::Jf::Jg::Jh::Ji::Jj::Jk::Jl::Jm::Jn::Jo::Jp::Jq::Jr::Js::Jt::Ju::Jv::Jw::Jx::Jy::Jz::[]),[]⟩ u2:=by
 conv => arg 2;whnf
 have hk201:k+1≤200:=by omega
 obtain ⟨bo,hbo⟩:∃ bo:Bool,(Calls Tryz.prog 37 #[.pointer (some ⟨bd,0,none⟩)] u2 (fun e w' => e=.returned (.bool bo)∧u2=w')∧u2.cell? ⟨jn,0,none⟩=some (.pointer (some ⟨bd,0,none⟩)))∧((bo=true∧CrUp w1 u2 jn bd qc N G hv2 many2 now2 (k+1))∨(bo=false∧CrDn w1 u2 jn bd qc N G hv2 (k+1))):=by
  rcases ho with ho | ho
  · exact ⟨true,ho.up,.inl ⟨rfl,ho⟩⟩
  · exact ⟨false,ho.up hk201,.inr ⟨rfl,ho⟩⟩
 obtain ⟨⟨hup,hc0⟩,hbs⟩:=hbo
 have HUP:=Lib.hid hup
 have HBS:=Lib.hid hbs
 clear ho hup hbs
 refine wp_seq_k fun L0 hL0 => ?_
 have HL0:=Lib.hid hL0
 clear hL0
 go_wp2_with fail
 refine HUP.out.mono ?_
 rintro e y1 ⟨rfl,rfl⟩
 clear HUP
 go_wp2_with fail
 refine HL0.out _ _ ?_
 clear HL0
 rcases HBS.out with ⟨rfl,hu⟩ | ⟨rfl,hd⟩
 case inl =>
  have HU:=Lib.hid hu
  clear hu
  go_wp2_with fail
  first | exact hQ _ _ _ _ _ _ _ _ _ _ _ _ _ _ _ _ _ _ _ _ _ _ _ _ _ _ _ _ _ _ _ _ _ _ _ _ _ _ _ _ _ _ _ _ _ _ _ _ _ _ _ _ _ _ _ _ _ _ _ _ _ _ _ _ _ _ _ _ _ _ _ _ _ _ _ _ _ _ _ _ _ _ _ _ _ _ _ _ _ _ _ _ _ _ _ _ _ _ _ _ _ _ _ _ _ _ _ _ _ _ _ _ _ _ _ _ _ _ _ _ _ _ _ _ _ _ _ _ _ _ _ _ _ _ _ _ _ _ _ _ _ _ _ _ _ _ _ _ _ _ _ _ _ _ _ _ _ _ _ _ _ _ _ _ _ _ _ _ _ _ _ _ _ _ _ _ _ _ _ _ _ _ _ _ _ _ _ _ _ _ _ _ _ _ _ _ _ _ _ _ _ _ _ _ _ _ _ _ _ _ _ _ _ _ _ _ _ _ _ many2 _ HU.out | exact HU.out
 case inr =>
  have HST:=Lib.hid (hd.start hk201)
  clear hd
  go_wp2_with fail
  refine HST.out.mono ?_
  rintro e y2 ⟨rfl,hst2⟩
  have HAG:=Lib.hid (hst2.again HE1.out hk201 now2 hn21)
  clear hst2 HST hc0
  go_wp2_with fail
  refine HAG.out.mono ?_
  rintro e y3 ⟨rfl,hu3⟩
  have HU3:=Lib.hid hu3
  clear hu3 HAG
  go_wp2_with fail
  first | exact hQ _ _ _ _ _ _ _ _ _ _ _ _ _ _ _ _ _ _ _ _ _ _ _ _ _ _ _ _ _ _ _ _ _ _ _ _ _ _ _ _ _ _ _ _ _ _ _ _ _ _ _ _ _ _ _ _ _ _ _ _ _ _ _ _ _ _ _ _ _ _ _ _ _ _ _ _ _ _ _ _ _ _ _ _ _ _ _ _ _ _ _ _ _ _ _ _ _ _ _ _ _ _ _ _ _ _ _ _ _ _ _ _ _ _ _ _ _ _ _ _ _ _ _ _ _ _ _ _ _ _ _ _ _ _ _ _ _ _ _ _ _ _ _ _ _ _ _ _ _ _ _ _ _ _ _ _ _ _ _ _ _ _ _ _ _ _ _ _ _ _ _ _ _ _ _ _ _ _ _ _ _ _ _ _ _ _ _ _ _ _ _ _ _ _ _ _ _ _ _ _ _ _ _ _ _ _ _ _ _ _ _ _ _ _ _ _ _ _ _ 0 _ HU3.out | exact HU3.out
end Go.Proofs.YtdacanghbepjpaaGreatDoor
