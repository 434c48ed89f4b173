/- pieces: an act in DaemonCrash. pieces: a round of DaemonCrash. -/
import Derived.Test.YtdacanghbepjpaaGreatDoorQ2
import Derived.Test.YtdacanghbepjpaaGreatDoorQ3
import Derived.Deep.DeepCutAuto
import Derived.Deep.CutBlock
import Derived.Test.YtdacanghbepjpaaGreatDoorQ4
namespace Go.Proofs.YtdacanghbepjpaaGreatDoor
set_option linter.unusedSimpArgs false
set_option linter.unusedVariables false
set_option maxRecDepth 100000
open Go.RowKit Go.Maps
open Dsk
set_option maxHeartbeats 32000000 in
theorem cr_switch {Q:Exit→Act→World→Prop} {w1 u0:World} {K1:Nat→Prop} {jn bd j jx qc qx hn9 hc n un kn c0 c1 c2 k M N:Nat} {G now:Int} {hx x0 x1 x2:Option Addr} {d1:Dk} {h:Hl} {s:Nat} {x:Dm} {had:List Bool} {kd:Nat} {zt zi zp:Int} {zs zh:ByteArray} {za zd:Int} {zn:ByteArray} {an:Nat} {aa af ab:Int} {adt:ByteArray}
  (HE1:Hid (LEnv w1)) (HN2:Hid (NE w1 u0 K1 jn bd j jx d1 h x)) (HI2:Hid (CrI d1 h s x had M k)) (HM2:Hid (CrM w1 u0 K1 jn qc N G (.slice hx hn9 hc) had)) (HNX:Hid (x.next=(N:Int))) (HGP:Hid (x.gap=G)) (hx1:0≤x.sent) (hx2:x.sent≤now) (hnow1:0≤now) (hnow2:now≤4*k) (hk150:k≤150)
  (hbN:N≤30000000) (hbM:M≤8) (hlt2:(k:Int)<n) (hn100:n≤100) (HAO:Hid (DActOk ⟨kd,⟨zt,zi,zp,zs,zh,za,zd,zn⟩,an,aa,af,ab,adt⟩)) (HK2:Hid (Blk u0 qx 59 (dactC ⟨kd,⟨zt,zi,zp,zs,zh,za,zd,zn⟩,an,aa,af,ab,adt⟩).toArray)) (HQK:Hid (K1 qx∧qx<u0.heap.size∧∀ q,(Value.slice hx hn9 hc).ownBlock=some q→q≠qx)) {A0 A1 A2 A3 Ab Ac Ad Ae Af Ag Ah Ai Aj Ak Al Am An Ao Ap Aq Ar As At Au Av Aw Ax Ay Az B0 B1 B2 B3 B4 B5 B6 B7 B8 B9 Ba Bb Bc Bd Be Bf Bg Bh Bi Bj Bk Bl Bm Bn Bo Bp Bq Br Bs Bt Bu Bv Bw Bx By Bz C0 C1 C2 C3 C4 C5 C6 C7 C8 C9 Ca Cb Cc Cd Ce Cf Cg Ch Ci Cj Ck Cl Cm Cn Co Cp Cq Cr Cs Ct Cu Cv Cw Cx Cy Cz E0 E1 E2 E3 E4 E5 E6 E7 E8 E9 Ea Eb Ec Ed Ee Ef Eg Eh Ei Ej Ek El Em En Eo Ep Eq Er Es Et Eu Ev Ew Ex Ey Ez F0 F1 F2 F3 F4 F5 F6 F7 F8 F9 Fa Fb Fc Fd Fe Ff Fg Fh Fi Fj Fk Fl Fm Fn Fo Fp Fq Fr Fs Ft Fu Fv Fw Fx Fy Fz I0 I1 I2 I3 I4 I5 I6 I7 I8 I9 Ia Ib Ic Id Ie If Ig Ih Ii Ij Ik Il Im In Io Ip Iq Ir Is It Iu Iv Iw Ix Iy Iz J0 J1 J2 J3 J4 J5 J6 J7 J8 J9 Ja Jb Jc Jd Je Jf Jg Jh Ji Jj Jk Jl Jm Jn Jo Jp Jq Jr Js Jt Ju Jv Jw Jx Jy Jz:Value}
  (hP:∀ c (a:Act) o v w,Q (.panic c) (a.put o v) w→Q (.panic c) a w) (hQ:∀ (O1 O2 O3 O4 O5 O6 O7 O8 O9 Oa Ob Oc Oy Oz R0 R1 R2 R3 R4 R5 R6 R7 R8 R9 Ra Rb Rc Rd Re Rf Rg Rh Ri Rj Rk Rl Rm Rn Ro Rp Rq Rr Rs Rt Ru Rv Rw Rx Ry Rz S0 S1 S2 S3 S4 S5 S6 S7 S9 Sa Sb Sc Sd Se Sf Sg Sh Si Sj Sk Sl Sm Sn So Sp Sq Sr Ss St Su Sv Sw Sx Sy Sz T0 T1 T2 T3 T4 T5 T6 T7 Ta Tb Tc Td Te Tf Tg Th Ti Tj Tk Tl Tm Tn To Tp Tq Tr Ts Tt Tu Tv Tw Tx Ty Tz V0 V1 V2 V3 V4 V5 V6 V7 V8 V9 Va Vb Vc Vd Ve Vf Vg Vh Vi Vj Vk Vl Vm Vn Vo Vp Vq Vr Vs Vt Vu Vv Vw Vx Vy Vz X0 X1 X2 X3 X4 X5 X6 X7 X8 X9 Xa Xb Xc Xd Xe Xf Xg Xh Xi Xj Xk Xl Xm Xn Xo Xp Xq Xr Xs Xt Xu Xv Xw Xx Xy Xz Y0 Y1 Y2 Y3 Y4 Y5 Y6 Y7 Y8 Y9 Ya Yb Yc Yd Ye Yf Yg Yh Yi Yj Yk Yl Ym Yn Yo Yp Yq Yr:Value) (v8:Value) (many2 now2:Int) (wx:World),0≤now2→now2≤4*(k+1)→(CrUp w1 wx jn bd qc N G v8 many2 now2 (k+1)∨CrDn w1 wx jn bd qc N G v8 (k+1))→Q .normal ⟨List.toArray ((.slice x0 n c0)::(.slice x1 un c1)::(.slice x2 kn c2)::A0::A1::A2::A3::(.pointer (some ⟨jn,0,none⟩))::(v8)::(.int .i64 now2)::(.int .i64 many2)::(.pointer (some ⟨qc,0,none⟩))::(.int .i64 (k:Int))::(.pointer (some ⟨qx,0,none⟩))::O1::O2::O3::O4::O5::O6::O7::O8::O9::Oa::Ob::Oc::An::Ao::Ap::Aq::Ar::As::At::Au::Av::Aw::Ax::Ay::Az::B0::B1::B2::B3::B4::B5::B6::B7::Oy::Oz::R0::R1::R2::R3::R4::R5::R6::R7::R8::R9::Ra::Rb::Rc::Rd::Re::Rf::Rg::Rh::Ri::Rj::Rk::Rl::Rm::Rn::Ro::Rp::Rq::Rr::Rs::Rt::Ru::Rv::Rw::Rx::Ry::Rz::S0::S1::S2::S3::S4::S5::S6::S7::S9::Sa::Sb::Sc::Sd::Se::Sf::Sg::Sh::Si::Sj::Sk::Sl::Sm::Sn::So::Sp::Sq::Sr::Ss::St::Su::Sv::Sw::Sx::Sy::Sz::T0::T1::T2::T3::T4::T5::T6::T7::Ta::Tb::Tc::Td::Te::Tf::Tg::Th::Ti::Tj::Tk::Tl::Tm::Tn::To::Tp::Tq::Tr::Ts::Tt::Tu::Tv::Tw::Tx::Ty::Tz::V0::V1::V2::V3::V4::V5::V6::V7::V8::V9::Va::Vb::Vc::Vd::Ve::Vf::Vg::Vh::Vi::Vj::Vk::Vl::Vm::Vn::Vo::Vp::Vq::Vr::Vs::Vt::Vu::Vv::Vw::Vx::Vy::Vz::X0::X1::X2::X3::X4::X5::X6::X7::X8::X9::Xa::Xb::Xc::Xd::Xe::Xf::Xg::Xh::Xi::Xj::Xk::Xl::Xm::Xn::Xo::Xp::Xq::Xr::Xs::Xt::Xu::Xv::Xw::Xx::Xy::Xz::Y0::Y1::Y2::Y3::Y4::Y5::Y6::Y7::Y8::Y9::Ya::Yb::Yc::Yd::Ye::Yf::Yg::Yh::Yi::Yj::Yk::Yl::Ym::Yn::Yo::Yp::Yq::Yr::Jz::[]),[]⟩ wx) :
  Code.wp Tryz.prog (crC [1,1,1,1,1,1,1,0,1,4,4,1,0,4,1,1,0]) Q ⟨List.toArray ((.slice x0 n c0)::(.slice x1 un c1)::(.slice x2 kn c2)::A0::A1::A2::A3::(.pointer (some ⟨jn,0,none⟩))::(.slice hx hn9 hc)::(.int .i64 now)::(.int .i64 M)::(.pointer (some ⟨qc,0,none⟩))::(.int .i64 (k:Int))::(.pointer (some ⟨qx,0,none⟩))::Ab::Ac::Ad::Ae::Af::Ag::Ah::Ai::Aj::Ak::Al::Am::An::Ao::Ap::Aq::Ar::As::At::Au::Av::Aw::Ax::Ay::Az::B0::B1::B2::B3::B4::B5::B6::B7::B8::B9::Ba::Bb::Bc::Bd::Be::Bf::Bg::Bh::Bi::Bj::Bk::Bl::Bm::Bn::Bo::Bp::Bq::Br::Bs::Bt::Bu::Bv::Bw::Bx::By::Bz::C0::C1::C2::C3::C4::C5::C6::C7::C8::C9::Ca::Cb::Cc::Cd::Ce::Cf::Cg::Ch::Ci::Cj::Ck::Cl::Cm::Cn::Co::Cp::Cq::Cr::Cs::Ct::Cu::Cv::Cw::Cx::Cy::Cz::E0::E1::E2::E3::E4::E5::E6::E7::E8::E9::Ea::Eb::Ec::Ed::Ee::Ef::Eg::Eh::Ei::Ej::Ek::El::Em::En::Eo::Ep::Eq::Er::Es::Et::Eu::Ev::Ew::Ex::Ey::Ez::F0::F1::F2::F3::F4::F5::F6::F7::F8::F9::Fa::Fb::Fc::Fd::Fe::Ff::Fg::Fh::Fi::Fj::Fk::Fl::Fm::Fn::Fo::Fp::Fq::Fr::Fs::Ft::Fu::Fv::Fw::Fx::Fy::Fz::I0::I1::I2::I3::I4::I5::I6::I7::I8::I9::Ia::Ib::Ic::Id::Ie::If::Ig::Ih::Ii::Ij::Ik::Il::Im::In::Io::Ip::Iq::Ir::Is::It::Iu::Iv::Iw::Ix::Iy::Iz::J0::J1::J2::J3::J4::J5::J6::J7::J8::J9::Ja::Jb::Jc::Jd::Je::Jf::Jg::Jh::Ji::Jj::Jk::Jl::Jm::Jn::Jo::Jp::Jq::Jr::Js::Jt::Ju::Jv::Jw::Jx::Jy::Jz::[]),[]⟩ u0:=by
 obtain ⟨c0',c1',c2'⟩:=HN2.out.cells
 conv => arg 2;whnf
 have hk9:=HK2.out
 unfold dactC at hk9
 simp only at hk9
 have k0:=hk9.cell 0
 have k1:=hk9.cell 1
 have k2:=hk9.cell 2
 have k3:=hk9.cell 3
 have k4:=hk9.cell 4
 have k5:=hk9.cell 5
 have k6:=hk9.cell 6
 have k7:=hk9.cell 7
 have k8:=hk9.cell 8
 have k9:=hk9.cell 9
 have k10:=hk9.cell 10
 have k11:=hk9.cell 11
 have k12:=hk9.cell 12
 have k13:=hk9.cell 13
 simp only [List.getElem?_toArray,List.getElem?_cons_zero,List.getElem?_cons_succ] at k0 k1 k2 k3 k4 k5 k6 k7 k8 k9 k10 k11 k12 k13
 have HK9:=Lib.hid hk9
 clear hk9
 refine wp_seq_k fun L0 hL0 => ?_
 have HL0:=Lib.hid hL0
 clear hL0
 by_cases hlt5:kd % 9<5
 case pos =>
  have hwr:=cr_writes HN2.out HI2.out HM2.out HNX.out HGP.out hx1 hx2 HE1.out hk150 ⟨kd,⟨zt,zi,zp,zs,zh,za,zd,zn⟩,an,aa,af,ab,adt⟩ HAO.out hlt5
  unfold dactC at hwr
  have HWR:=Lib.hid hwr
  clear hwr
  go_wp2_with fail
  refine HWR.out.mono ?_
  rintro e y5 ⟨rfl,ho5⟩
  have HO5:=Lib.hid ho5
  clear ho5
  go_wp2_with fail
  refine HL0.out _ _ ?_
  go_wp2_with fail
  exact hQ _ _ _ _ _ _ _ _ _ _ _ _ _ _ _ _ _ _ _ _ _ _ _ _ _ _ _ _ _ _ _ _ _ _ _ _ _ _ _ _ _ _ _ _ _ _ _ _ _ _ _ _ _ _ _ _ _ _ _ _ _ _ _ _ _ _ _ _ _ _ _ _ _ _ _ _ _ _ _ _ _ _ _ _ _ _ _ _ _ _ _ _ _ _ _ _ _ _ _ _ _ _ _ _ _ _ _ _ _ _ _ _ _ _ _ _ _ _ _ _ _ _ _ _ _ _ _ _ _ _ _ _ _ _ _ _ _ _ _ _ _ _ _ _ _ _ _ _ _ _ _ _ _ _ _ _ _ _ _ _ _ _ _ _ _ _ _ _ _ _ _ _ _ _ _ _ _ _ _ _ _ _ _ _ _ _ _ _ _ _ _ _ _ _ _ _ _ _ _ _ _ _ _ _ _ _ _ _ _ _ _ _ _ _ _ _ _ _ _ (.slice hx hn9 hc) M now _ hnow1 (by omega) HO5.out
 case neg =>
  have hwr:=cr_writes_no HN2.out HI2.out HE1.out hk150 ⟨kd,⟨zt,zi,zp,zs,zh,za,zd,zn⟩,an,aa,af,ab,adt⟩ HAO.out hlt5
  unfold dactC at hwr
  have HWR:=Lib.hid hwr
  clear hwr
  go_wp2_with fail
  refine HWR.out.mono ?_
  rintro e u1 ⟨rfl,hn3,hk3⟩
  go_wp2_with fail
  refine HL0.out _ _ ?_
  have HN3:=Lib.hid hn3
  have HM3:=Lib.hid (HM2.out.keeps hk3)
  have hk8:=HK9.out.chg hk3 fun e => e HQK.out.1
  clear k0 k1 k2 k3 k4 k5 k6 k7 k8 k9 k10 k11 k12 k13
  have k0:=hk8.cell 0
  have k9:=hk8.cell 9
  have k13:=hk8.cell 13
  simp only [List.getElem?_toArray,List.getElem?_cons_zero,List.getElem?_cons_succ] at k0 k9 k13
  have HK13:=Lib.hid k13
  have HQX:=Lib.hid (show K1 qx∧qx<u1.heap.size∧∀ q,(Value.slice hx hn9 hc).ownBlock=some q→q≠qx from ⟨HQK.out.1,hk8.lt,HQK.out.2.2⟩)
  have HUP0:=Lib.hid (show CrUp w1 u1 jn bd qc N G (.slice hx hn9 hc) M now (k+1) from ⟨_,j,jx,d1,h,s,x,had,hn3,HI2.out.later,HM3.out,hx1,hx2,by rw [HNX.out];exact Int.le_refl _,by rw [HGP.out];exact Int.le_refl _⟩)
  obtain ⟨km,hkm9⟩:∃ km:Int,km=(kd:Int).tmod 9:=⟨_,rfl⟩
  have hkdb:=HAO.out.kind
  have hanb:=HAO.out.n
  have HAD:=Lib.hid (show adt.size≤maxLen from HAO.out.data)
  simp only at hkdb hanb
  have hkm0:5≤km∧km<9:=by rw [hkm9,Int.tmod_eq_emod_of_nonneg (by omega)];omega
  have hkmw:IntKind.u8.wrap km=km:=by
   have:IntKind.u8.wrap km=km % 256:=rfl
   rw [this];omega
  have hkm10:=hkm9.symm
  have hcs3:km=7∨km=8∨(km≠7∧km≠8):=by omega
  clear hkm9 hn3 hk3 hk8 HWR HN2 HM2 HK2 HK9
  rcases hcs3 with rfl | rfl | ⟨n7,n8⟩
  case inl =>
   go_upto_if 130 with fail
   refine wp_cond_true rfl ?_
   refine cr_seven HE1 HN3 HI2 HM3 HNX HGP hx1 hx2 hnow1 hnow2 hk150 hanb k9 hbN hbM hlt2 hn100 HUP0 (fun c a o v w h => hP c a o v w h) ?_
   intros;rename_i v8 many2 now2 wx g1 g2 g3
   exact hQ _ _ _ _ _ _ _ _ _ _ _ _ _ _ _ _ _ _ _ _ _ _ _ _ _ _ _ _ _ _ _ _ _ _ _ _ _ _ _ _ _ _ _ _ _ _ _ _ _ _ _ _ _ _ _ _ _ _ _ _ _ _ _ _ _ _ _ _ _ _ _ _ _ _ _ _ _ _ _ _ _ _ _ _ _ _ _ _ _ _ _ _ _ _ _ _ _ _ _ _ _ _ _ _ _ _ _ _ _ _ _ _ _ _ _ _ _ _ _ _ _ _ _ _ _ _ _ _ _ _ _ _ _ _ _ _ _ _ _ _ _ _ _ _ _ _ _ _ _ _ _ _ _ _ _ _ _ _ _ _ _ _ _ _ _ _ _ _ _ _ _ _ _ _ _ _ _ _ _ _ _ _ _ _ _ _ _ _ _ _ _ _ _ _ _ _ _ _ _ _ _ _ _ _ _ _ _ _ _ _ _ _ _ _ _ _ _ _ _ v8 many2 now2 wx g1 g2 g3
  case inr.inl =>
   go_upto_if 165 with fail
   refine wp_cond_true rfl ?_
   refine cr_eight (an:=an) HE1 HN3 HI2 HM3 HNX HGP hx1 hx2 hnow1 hnow2 hk150 hbN hbM HAD HQX HK13 (fun c a o v w h => hP c a o v w h) ?_
   intros;rename_i v8 many2 now2 wx g1 g2 g3
   exact hQ _ _ _ _ _ _ _ _ _ _ _ _ _ _ _ _ _ _ _ _ _ _ _ _ _ _ _ _ _ _ _ _ _ _ _ _ _ _ _ _ _ _ _ _ _ _ _ _ _ _ _ _ _ _ _ _ _ _ _ _ _ _ _ _ _ _ _ _ _ _ _ _ _ _ _ _ _ _ _ _ _ _ _ _ _ _ _ _ _ _ _ _ _ _ _ _ _ _ _ _ _ _ _ _ _ _ _ _ _ _ _ _ _ _ _ _ _ _ _ _ _ _ _ _ _ _ _ _ _ _ _ _ _ _ _ _ _ _ _ _ _ _ _ _ _ _ _ _ _ _ _ _ _ _ _ _ _ _ _ _ _ _ _ _ _ _ _ _ _ _ _ _ _ _ _ _ _ _ _ _ _ _ _ _ _ _ _ _ _ _ _ _ _ _ _ _ _ _ _ _ _ _ _ _ _ _ _ _ _ _ _ _ _ _ _ _ _ _ _ v8 many2 now2 wx g1 g2 g3
  case inr.inr =>
   have A4:(km == 7)=false:=beq_eq_false_iff_ne.2 n7
   have A5:(km == 8)=false:=beq_eq_false_iff_ne.2 n8
   go_upto_if 165 with fail
   refine wp_cond_false rfl ?_
   refine cr_tick HE1 HN3 HI2 HM3 HNX HGP hx1 hx2 hnow1 hnow2 hk150 hanb k9 (fun c a o v w h => hP c a o v w h) ?_
   intros;rename_i v8 many2 now2 wx g1 g2 g3
   exact hQ _ _ _ _ _ _ _ _ _ _ _ _ _ _ _ _ _ _ _ _ _ _ _ _ _ _ _ _ _ _ _ _ _ _ _ _ _ _ _ _ _ _ _ _ _ _ _ _ _ _ _ _ _ _ _ _ _ _ _ _ _ _ _ _ _ _ _ _ _ _ _ _ _ _ _ _ _ _ _ _ _ _ _ _ _ _ _ _ _ _ _ _ _ _ _ _ _ _ _ _ _ _ _ _ _ _ _ _ _ _ _ _ _ _ _ _ _ _ _ _ _ _ _ _ _ _ _ _ _ _ _ _ _ _ _ _ _ _ _ _ _ _ _ _ _ _ _ _ _ _ _ _ _ _ _ _ _ _ _ _ _ _ _ _ _ _ _ _ _ _ _ _ _ _ _ _ _ _ _ _ _ _ _ _ _ _ _ _ _ _ _ _ _ _ _ _ _ _ _ _ _ _ _ _ _ _ _ _ _ _ _ _ _ _ _ _ _ _ _ v8 many2 now2 wx g1 g2 g3
end Go.Proofs.YtdacanghbepjpaaGreatDoor
namespace Go.Proofs.YtdacanghbepjpaaGreatDoor
set_option linter.unusedSimpArgs false
set_option linter.unusedVariables false
set_option maxRecDepth 100000
open Go.RowKit Go.Maps
open Dsk
set_option maxHeartbeats 32000000 in
theorem cr_body {Q:Exit→Act→World→Prop} {w w1 wr:World} {K:Nat→Prop} {jn bd j jx qc hn9 hc n un kn c0 c1 c2 k M N:Nat} {G now:Int} {hx x0 x1 x2:Option Addr} {d:Dk} {h:Hl} {s:Nat} {x:Dm} {had:List Bool} {ul kl:List Int} {l:List DAct}
  (HB1:Hid (Below w.heap.size w w1)) (HE1:Hid (LEnv w1)) (HRD:Hid (∀ W,Below w.heap.size w W→RdDA W (.slice x0 n c0) l)) (HN:Hid (n=l.length)) (HRU:Hid (∀ W,Below w.heap.size w W→RdU W (.slice x1 un c1) ul)) (HRK:Hid (∀ W,Below w.heap.size w W→KeepR W (fun k => w.heap.size≤k) (.slice x2 kn c2) kl)) (HUN:Hid (un=ul.length)) (HKN:Hid (kn=kl.length)) (hun100:un≤100) (hkn20:kn≤20) (hn100:n≤100)
  (hne:NE w1 wr K jn bd j jx d h x) (hci:CrI d h s x had M k) (hcm:CrM w1 wr K jn qc N G (.slice hx hn9 hc) had) (hN:x.next=(N:Int)) (hG:x.gap=G) (hx1:0≤x.sent) (hx2:x.sent≤now) (hnow1:0≤now) (hnow2:now≤4*k) (hlt:k<n) (hbN:N≤30000000) (hbM:M≤8) {A0 A1 A2 A3 Aa Ab Ac Ad Ae Af Ag Ah Ai Aj Ak Al Am An Ao Ap Aq Ar As At Au Av Aw Ax Ay Az B0 B1 B2 B3 B4 B5 B6 B7 B8 B9 Ba Bb Bc Bd Be Bf Bg Bh Bi Bj Bk Bl Bm Bn Bo Bp Bq Br Bs Bt Bu Bv Bw Bx By Bz C0 C1 C2 C3 C4 C5 C6 C7 C8 C9 Ca Cb Cc Cd Ce Cf Cg Ch Ci Cj Ck Cl Cm Cn Co Cp Cq Cr Cs Ct Cu Cv Cw Cx Cy Cz E0 E1 E2 E3 E4 E5 E6 E7 E8 E9 Ea Eb Ec Ed Ee Ef Eg Eh Ei Ej Ek El Em En Eo Ep Eq Er Es Et Eu Ev Ew Ex Ey Ez F0 F1 F2 F3 F4 F5 F6 F7 F8 F9 Fa Fb Fc Fd Fe Ff Fg Fh Fi Fj Fk Fl Fm Fn Fo Fp Fq Fr Fs Ft Fu Fv Fw Fx Fy Fz I0 I1 I2 I3 I4 I5 I6 I7 I8 I9 Ia Ib Ic Id Ie If Ig Ih Ii Ij Ik Il Im In Io Ip Iq Ir Is It Iu Iv Iw Ix Iy Iz J0 J1 J2 J3 J4 J5 J6 J7 J8 J9 Ja Jb Jc Jd Je Jf Jg Jh Ji Jj Jk Jl Jm Jn Jo Jp Jq Jr Js Jt Ju Jv Jw Jx Jy Jz:Value}
  (hP:∀ c (a:Act) o v w,Q (.panic c) (a.put o v) w→Q (.panic c) a w) (hQ:∀ (O0 O1 O2 O3 O4 O5 O6 O7 O8 O9 Oa Ob Oc Oy Oz R0 R1 R2 R3 R4 R5 R6 R7 R8 R9 Ra Rb Rc Rd Re Rf Rg Rh Ri Rj Rk Rl Rm Rn Ro Rp Rq Rr Rs Rt Ru Rv Rw Rx Ry Rz S0 S1 S2 S3 S4 S5 S6 S7 S9 Sa Sb Sc Sd Se Sf Sg Sh Si Sj Sk Sl Sm Sn So Sp Sq Sr Ss St Su Sv Sw Sx Sy Sz T0 T1 T2 T3 T4 T5 T6 T7 Ta Tb Tc Td Te Tf Tg Th Ti Tj Tk Tl Tm Tn To Tp Tq Tr Ts Tt Tu Tv Tw Tx Ty Tz V0 V1 V2 V3 V4 V5 V6 V7 V8 V9 Va Vb Vc Vd Ve Vf Vg Vh Vi Vj Vk Vl Vm Vn Vo Vp Vq Vr Vs Vt Vu Vv Vw Vx Vy Vz X0 X1 X2 X3 X4 X5 X6 X7 X8 X9 Xa Xb Xc Xd Xe Xf Xg Xh Xi Xj Xk Xl Xm Xn Xo Xp Xq Xr Xs Xt Xu Xv Xw Xx Xy Xz Y0 Y1 Y2 Y3 Y4 Y5 Y6 Y7 Y8 Y9 Ya Yb Yc Yd Ye Yf Yg Yh Yi Yj Yk Yl Ym Yn Yo Yp Yq Yr:Value) (v8:Value) (many2 now2:Int) (wx:World),0≤now2→now2≤4*(k+1)→CrW w1 wx jn bd qc v8 many2 now2 (k+1)→Q .normal ⟨List.toArray ((.slice x0 n c0)::(.slice x1 un c1)::(.slice x2 kn c2)::A0::A1::A2::A3::(.pointer (some ⟨jn,0,none⟩))::(v8)::(.int .i64 now2)::(.int .i64 many2)::(.pointer (some ⟨qc,0,none⟩))::(.int .i64 (k:Int))::O0::O1::O2::O3::O4::O5::O6::O7::O8::O9::Oa::Ob::Oc::An::Ao::Ap::Aq::Ar::As::At::Au::Av::Aw::Ax::Ay::Az::B0::B1::B2::B3::B4::B5::B6::B7::Oy::Oz::R0::R1::R2::R3::R4::R5::R6::R7::R8::R9::Ra::Rb::Rc::Rd::Re::Rf::Rg::Rh::Ri::Rj::Rk::Rl::Rm::Rn::Ro::Rp::Rq::Rr::Rs::Rt::Ru::Rv::Rw::Rx::Ry::Rz::S0::S1::S2::S3::S4::S5::S6::S7::S9::Sa::Sb::Sc::Sd::Se::Sf::Sg::Sh::Si::Sj::Sk::Sl::Sm::Sn::So::Sp::Sq::Sr::Ss::St::Su::Sv::Sw::Sx::Sy::Sz::T0::T1::T2::T3::T4::T5::T6::T7::Ta::Tb::Tc::Td::Te::Tf::Tg::Th::Ti::Tj::Tk::Tl::Tm::Tn::To::Tp::Tq::Tr::Ts::Tt::Tu::Tv::Tw::Tx::Ty::Tz::V0::V1::V2::V3::V4::V5::V6::V7::V8::V9::Va::Vb::Vc::Vd::Ve::Vf::Vg::Vh::Vi::Vj::Vk::Vl::Vm::Vn::Vo::Vp::Vq::Vr::Vs::Vt::Vu::Vv::Vw::Vx::Vy::Vz::X0::X1::X2::X3::X4::X5::X6::X7::X8::X9::Xa::Xb::Xc::Xd::Xe::Xf::Xg::Xh::Xi::Xj::Xk::Xl::Xm::Xn::Xo::Xp::Xq::Xr::Xs::Xt::Xu::Xv::Xw::Xx::Xy::Xz::Y0::Y1::Y2::Y3::Y4::Y5::Y6::Y7::Y8::Y9::Ya::Yb::Yc::Yd::Ye::Yf::Yg::Yh::Yi::Yj::Yk::Yl::Ym::Yn::Yo::Yp::Yq::Yr::Jz::[]),[]⟩ wx) :
  Code.wp Tryz.prog (crC [1,1,1,1,1,1,1,0,1,4,4,1,0,4]) Q ⟨List.toArray ((.slice x0 n c0)::(.slice x1 un c1)::(.slice x2 kn c2)::A0::A1::A2::A3::(.pointer (some ⟨jn,0,none⟩))::(.slice hx hn9 hc)::(.int .i64 now)::(.int .i64 M)::(.pointer (some ⟨qc,0,none⟩))::(.int .i64 (k:Int))::Aa::Ab::Ac::Ad::Ae::Af::Ag::Ah::Ai::Aj::Ak::Al::Am::An::Ao::Ap::Aq::Ar::As::At::Au::Av::Aw::Ax::Ay::Az::B0::B1::B2::B3::B4::B5::B6::B7::B8::B9::Ba::Bb::Bc::Bd::Be::Bf::Bg::Bh::Bi::Bj::Bk::Bl::Bm::Bn::Bo::Bp::Bq::Br::Bs::Bt::Bu::Bv::Bw::Bx::By::Bz::C0::C1::C2::C3::C4::C5::C6::C7::C8::C9::Ca::Cb::Cc::Cd::Ce::Cf::Cg::Ch::Ci::Cj::Ck::Cl::Cm::Cn::Co::Cp::Cq::Cr::Cs::Ct::Cu::Cv::Cw::Cx::Cy::Cz::E0::E1::E2::E3::E4::E5::E6::E7::E8::E9::Ea::Eb::Ec::Ed::Ee::Ef::Eg::Eh::Ei::Ej::Ek::El::Em::En::Eo::Ep::Eq::Er::Es::Et::Eu::Ev::Ew::Ex::Ey::Ez::F0::F1::F2::F3::F4::F5::F6::F7::F8::F9::Fa::Fb::Fc::Fd::Fe::Ff::Fg::Fh::Fi::Fj::Fk::Fl::Fm::Fn::Fo::Fp::Fq::Fr::Fs::Ft::Fu::Fv::Fw::Fx::Fy::Fz::I0::I1::I2::I3::I4::I5::I6::I7::I8::I9::Ia::Ib::Ic::Id::Ie::If::Ig::Ih::Ii::Ij::Ik::Il::Im::In::Io::Ip::Iq::Ir::Is::It::Iu::Iv::Iw::Ix::Iy::Iz::J0::J1::J2::J3::J4::J5::J6::J7::J8::J9::Ja::Jb::Jc::Jd::Je::Jf::Jg::Jh::Ji::Jj::Jk::Jl::Jm::Jn::Jo::Jp::Jq::Jr::Js::Jt::Ju::Jv::Jw::Jx::Jy::Jz::[]),[]⟩ wr:=by
 obtain ⟨c0',c1',c2'⟩:=hne.cells
 conv => arg 2;whnf
 have hk150:k≤150:=by omega
 have hlt2:(k:Int)<n:=by omega
 have hwr:Below w.heap.size w wr:=HB1.out.trans (hne.base.mono HB1.out.size)
 obtain ⟨x9,c9,hv9,hel⟩:=HRD.out wr hwr
 rw [← HN.out] at hv9
 obtain ⟨rfl,rfl⟩:x0=x9∧c0=c9:=by injection hv9 with e1 e2 e3;exact ⟨e1,e3⟩
 obtain ⟨ho,bb,off,rfl,_,hcc⟩:=hel k (by rw [← HN.out];exact hlt)
 obtain ⟨a,ha⟩:∃ a,a=l[k]'(by rw [← HN.out];exact hlt):=⟨_,rfl⟩
 rw [← ha] at ho hcc
 obtain ⟨k0,k1,k2,k3,k4,k5,k6,k7,k8,k9,k10,k11,k12,k13⟩:=dact_load (b:=bb) (off:=off+k*14) (a:=a) (fun i hi => by rw [Nat.add_assoc];exact hcc i hi)
 obtain ⟨qx,hqx⟩:∃ q,q=wr.heap.size:=⟨_,rfl⟩
 obtain ⟨y1,hy1⟩:∃ y,y=wr.alloc (.cells (dactC a).toArray 59 (0,0)):=⟨_,rfl⟩
 have hb1:Below wr.heap.size wr y1:=by rw [hy1];exact (Below.refl _ _).alloc (Nat.le_refl _) _
 have hk1:Blk y1 qx 59 (dactC a).toArray:=by rw [hy1,hqx];exact Blk.alloc_new wr _ _
 have HN1:=Lib.hid (hne.add hb1)
 have HM1:=Lib.hid (hcm.add hne.jlt hne.base.size hb1)
 have HQK:=Lib.hid (show Also K wr y1 qx from .inr ⟨by omega,hk1.lt⟩)
 have HQO:=Lib.hid (show ∀ q,(Value.slice hx hn9 hc).ownBlock=some q→q≠qx from fun q hq => by have:=(OwnRow.lt hcm.row q hq).2;omega)
 have HCI:=Lib.hid hci
 have HK1:=Lib.hid hk1
 have HY1:=Lib.hid hy1
 have HQX:=Lib.hid hqx
 have HAO:=Lib.hid ho
 have HWY:=Lib.hid (show Below w.heap.size w y1 from hwr.trans (hb1.mono hwr.size))
 have HNX:=Lib.hid hN
 have HGP:=Lib.hid hG
 clear hN hG hv9 hel hcc ha ho hne hci hcm hb1 hk1 hy1 hqx hwr
 obtain ⟨kd,⟨zt,zi,zp,zs,zh,za,zd,zn⟩,an,aa,af,ab,adt⟩:=a
 refine wp_seq_k fun L0 hL0 => ?_
 have HL0:=Lib.hid hL0
 clear hL0
 unfold dactC at HY1
 simp only at *
 go_wp2_with fail
 rw [← HY1.out,← HQX.out]
 refine HL0.out _ _ ?_
 clear k0 k1 k2 k3 k4 k5 k6 k7 k8 k9 k10 k11 k12 k13 HL0
 refine wp_seq_k fun L1 hL1 => ?_
 refine cr_fail (Q:=Exit.then L1 Q) HB1 HN1 HCI HRU HRK HUN HKN HWY hun100 hkn20 hk150 (fun c a o v w h => hP c a o v w h) ?_
 intro _ _ _ _ _ _ _ _ _ _ _ _ _ _ _ _ _ _ _ _ _ _ _ _ _ _ _ _ _ _ _ _ _ _ _ _ _ _ _ _ _ _ _ _ _ _ _ _ _ _ _ _ _ _ _ _ _ _ _ _ _ _ _ _ _ _ _ _ _ _ _ _ _ _ _ _ _ _ _ _ _ _ _ _ _ _ _ _ _ _ _ _ _ _ _ _ _ _ _ _ _ _ _ _ _ _ _ _ _ _ _ _ _ _ _ _ _ _ _ _ _ _ _ _ _ _ _ _ _ _ _ _ _ _ _ _ _ _ _ _ _ _ _ _ _ _ _ _ _ _ _ _ _ _ _ _ _ _ _ _ _ _ _ _ _ _ _ _ _ _ _ _ _ _ _ _ _ _ _ _ _ _ _ _ _ _ _ _ _ _ _ _ _ _ _ _ _ _ _ _ _ _ _ _ _ _ _ _ _ _ _ _ _ _ _ _ _ _ _ wx hh
 obtain ⟨d1,hn2,hi2,hk2⟩:=hh
 refine hL1 _ _ ?_
 refine wp_seq_k fun L2 hL2 => ?_
 have hk9:=HK1.out.chg hk2 fun e => e HQK.out
 refine cr_switch (Q:=Exit.then L2 Q) HE1 (Lib.hid hn2) (Lib.hid hi2) (Lib.hid (HM1.out.keeps hk2)) HNX HGP hx1 hx2 hnow1 hnow2 hk150 hbN hbM hlt2 hn100 HAO (Lib.hid hk9) (Lib.hid ⟨HQK.out,hk9.lt,HQO.out⟩) (fun c a o v w h => hP c a o v w h) ?_
 intros;rename_i v8 many2 now2 wx2 g1 g2 g3
 refine hL2 _ _ ?_
 refine wp_seq_k fun L3 hL3 => ?_
 refine cr_up (Q:=Exit.then L3 Q) HE1 g3 g1 hk150 (fun c a o v w h => hP c a o v w h) ?_
 intros;rename_i many3 wx3 g4
 refine hL3 _ _ ?_
 refine cr_last g4 g1 g2 hk150 hP ?_
 intro _ _ _ _ _ _ _ _ _ _ _ _ _ _ _ _ _ _ _ _ _ _ _ _ _ _ _ _ _ _ _ _ _ _ _ _ _ _ _ _ _ _ _ _ _ _ _ _ _ _ _ _ _ _ _ _ _ _ _ _ _ _ _ _ _ _ _ _ _ _ _ _ _ _ _ _ _ _ _ _ _ _ _ _ _ _ _ _ _ _ _ _ _ _ _ _ _ _ _ _ _ _ _ _ _ _ _ _ _ _ _ _ _ _ _ _ _ _ _ _ _ _ _ _ _ _ _ _ _ _ _ _ _ _ _ _ _ _ _ _ _ _ _ _ _ _ _ _ _ _ _ _ _ _ _ _ _ _ _ _ _ _ _ _ _ _ _ _ _ _ _ _ _ _ _ _ _ _ _ _ _ _ _ _ _ _ _ _ _ _ _ _ _ _ _ _ _ _ _ _ _ _ _ _ _ _ _ _ _ _ _ _ _ _ _ _ _ _ _ wx4 g5
 exact hQ _ _ _ _ _ _ _ _ _ _ _ _ _ _ _ _ _ _ _ _ _ _ _ _ _ _ _ _ _ _ _ _ _ _ _ _ _ _ _ _ _ _ _ _ _ _ _ _ _ _ _ _ _ _ _ _ _ _ _ _ _ _ _ _ _ _ _ _ _ _ _ _ _ _ _ _ _ _ _ _ _ _ _ _ _ _ _ _ _ _ _ _ _ _ _ _ _ _ _ _ _ _ _ _ _ _ _ _ _ _ _ _ _ _ _ _ _ _ _ _ _ _ _ _ _ _ _ _ _ _ _ _ _ _ _ _ _ _ _ _ _ _ _ _ _ _ _ _ _ _ _ _ _ _ _ _ _ _ _ _ _ _ _ _ _ _ _ _ _ _ _ _ _ _ _ _ _ _ _ _ _ _ _ _ _ _ _ _ _ _ _ _ _ _ _ _ _ _ _ _ _ _ _ _ _ _ _ _ _ _ _ _ _ _ _ _ _ _ _ _ v8 many3 now2 wx4 g1 g2 g5
end Go.Proofs.YtdacanghbepjpaaGreatDoor
