/- pieces: where a failure is set in DaemonCrash. pieces: the cursor in DaemonCrash. -/
import Derived.Test.YtdacanghbepjpaaGreatDoorQ1
import Derived.Deep.DeepCutAuto
import Derived.Deep.CutBlock
namespace Go.Proofs.YtdacanghbepjpaaGreatDoor
set_option linter.unusedSimpArgs false
set_option linter.unusedVariables false
set_option maxRecDepth 100000
open Go.RowKit Go.Maps
open Dsk
set_option maxHeartbeats 32000000 in
theorem cr_fail {Q:Exit→Act→World→Prop} {w w1 y1:World} {K1:Nat→Prop} {jn bd j jx qc qx hn9 hc n un kn c0 c1 c2 k M:Nat} {now:Int} {hx x0 x1 x2:Option Addr} {d:Dk} {h:Hl} {s:Nat} {x:Dm} {had:List Bool} {ul kl:List Int}
  (HB1:Hid (Below w.heap.size w w1)) (HN1:Hid (NE w1 y1 K1 jn bd j jx d h x)) (HCI:Hid (CrI d h s x had M k)) (HRU:Hid (∀ W,Below w.heap.size w W→RdU W (.slice x1 un c1) ul)) (HRK:Hid (∀ W,Below w.heap.size w W→KeepR W (fun k => w.heap.size≤k) (.slice x2 kn c2) kl)) (HUN:Hid (un=ul.length)) (HKN:Hid (kn=kl.length)) (HWY:Hid (Below w.heap.size w y1)) (hun100:un≤100) (hkn20:kn≤20) (hk150:k≤150) {A0 A1 A2 A3 Ab Ac Ad Ae Af Ag Ah Ai Aj Ak Al Am An Ao Ap Aq Ar As At Au Av Aw Ax Ay Az B0 B1 B2 B3 B4 B5 B6 B7 B8 B9 Ba Bb Bc Bd Be Bf Bg Bh Bi Bj Bk Bl Bm Bn Bo Bp Bq Br Bs Bt Bu Bv Bw Bx By Bz C0 C1 C2 C3 C4 C5 C6 C7 C8 C9 Ca Cb Cc Cd Ce Cf Cg Ch Ci Cj Ck Cl Cm Cn Co Cp Cq Cr Cs Ct Cu Cv Cw Cx Cy Cz E0 E1 E2 E3 E4 E5 E6 E7 E8 E9 Ea Eb Ec Ed Ee Ef Eg Eh Ei Ej Ek El Em En Eo Ep Eq Er Es Et Eu Ev Ew Ex Ey Ez F0 F1 F2 F3 F4 F5 F6 F7 F8 F9 Fa Fb Fc Fd Fe Ff Fg Fh Fi Fj Fk Fl Fm Fn Fo Fp Fq Fr Fs Ft Fu Fv Fw Fx Fy Fz I0 I1 I2 I3 I4 I5 I6 I7 I8 I9 Ia Ib Ic Id Ie If Ig Ih Ii Ij Ik Il Im In Io Ip Iq Ir Is It Iu Iv Iw Ix Iy Iz J0 J1 J2 J3 J4 J5 J6 J7 J8 J9 Ja Jb Jc Jd Je Jf Jg Jh Ji Jj Jk Jl Jm Jn Jo Jp Jq Jr Js Jt Ju Jv Jw Jx Jy Jz:Value}
  (hP:∀ c (a:Act) o v w,Q (.panic c) (a.put o v) w→Q (.panic c) a w) (hQ:∀ (O1 O2 O3 O4 O5 O6 O7 O8 O9 Oa Ob Oc Oy Oz R0 R1 R2 R3 R4 R5 R6 R7 R8 R9 Ra Rb Rc Rd Re Rf Rg Rh Ri Rj Rk Rl Rm Rn Ro Rp Rq Rr Rs Rt Ru Rv Rw Rx Ry Rz S0 S1 S2 S3 S4 S5 S6 S7 S9 Sa Sb Sc Sd Se Sf Sg Sh Si Sj Sk Sl Sm Sn So Sp Sq Sr Ss St Su Sv Sw Sx Sy Sz T0 T1 T2 T3 T4 T5 T6 T7 Ta Tb Tc Td Te Tf Tg Th Ti Tj Tk Tl Tm Tn To Tp Tq Tr Ts Tt Tu Tv Tw Tx Ty Tz V0 V1 V2 V3 V4 V5 V6 V7 V8 V9 Va Vb Vc Vd Ve Vf Vg Vh Vi Vj Vk Vl Vm Vn Vo Vp Vq Vr Vs Vt Vu Vv Vw Vx Vy Vz X0 X1 X2 X3 X4 X5 X6 X7 X8 X9 Xa Xb Xc Xd Xe Xf Xg Xh Xi Xj Xk Xl Xm Xn Xo Xp Xq Xr Xs Xt Xu Xv Xw Xx Xy Xz Y0 Y1 Y2 Y3 Y4 Y5 Y6 Y7 Y8 Y9 Ya Yb Yc Yd Ye Yf Yg Yh Yi Yj Yk Yl Ym Yn Yo Yp Yq Yr:Value) (wx:World),(∃ d1,NE w1 wx K1 jn bd j jx d1 h x∧CrI d1 h s x had M k∧Keeps K1 y1 wx)→Q .normal ⟨List.toArray ((.slice x0 n c0)::(.slice x1 un c1)::(.slice x2 kn c2)::A0::A1::A2::A3::(.pointer (some ⟨jn,0,none⟩))::(.slice hx hn9 hc)::(.int .i64 now)::(.int .i64 M)::(.pointer (some ⟨qc,0,none⟩))::(.int .i64 (k:Int))::(.pointer (some ⟨qx,0,none⟩))::O1::O2::O3::O4::O5::O6::O7::O8::O9::Oa::Ob::Oc::An::Ao::Ap::Aq::Ar::As::At::Au::Av::Aw::Ax::Ay::Az::B0::B1::B2::B3::B4::B5::B6::B7::Oy::Oz::R0::R1::R2::R3::R4::R5::R6::R7::R8::R9::Ra::Rb::Rc::Rd::Re::Rf::Rg::Rh::Ri::Rj::Rk::Rl::Rm::Rn::Ro::Rp::Rq::Rr::Rs::Rt::Ru::Rv::Rw::Rx::Ry::Rz::S0::S1::S2::S3::S4::S5::S6::S7::S9::Sa::Sb::Sc::Sd::Se::Sf::Sg::Sh::Si::Sj::Sk::Sl::Sm::Sn::So::Sp::Sq::Sr::Ss::St::Su::Sv::Sw::Sx::Sy::Sz::T0::T1::T2::T3::T4::T5::T6::T7::Ta::Tb::Tc::Td::Te::Tf::Tg::Th::Ti::Tj::Tk::Tl::Tm::Tn::To::Tp::Tq::Tr::Ts::Tt::Tu::Tv::Tw::Tx::Ty::Tz::V0::V1::V2::V3::V4::V5::V6::V7::V8::V9::Va::Vb::Vc::Vd::Ve::Vf::Vg::Vh::Vi::Vj::Vk::Vl::Vm::Vn::Vo::Vp::Vq::Vr::Vs::Vt::Vu::Vv::Vw::Vx::Vy::Vz::X0::X1::X2::X3::X4::X5::X6::X7::X8::X9::Xa::Xb::Xc::Xd::Xe::Xf::Xg::Xh::Xi::Xj::Xk::Xl::Xm::Xn::Xo::Xp::Xq::Xr::Xs::Xt::Xu::Xv::Xw::Xx::Xy::Xz::Y0::Y1::Y2::Y3::Y4::Y5::Y6::Y7::Y8::Y9::Ya::Yb::Yc::Yd::Ye::Yf::Yg::Yh::Yi::Yj::Yk::Yl::Ym::Yn::Yo::Yp::Yq::Yr::Jz::[]),[]⟩ wx) :
  Code.wp Tryz.prog (crC [1,1,1,1,1,1,1,0,1,4,4,1,0,4,1,0]) Q ⟨List.toArray ((.slice x0 n c0)::(.slice x1 un c1)::(.slice x2 kn c2)::A0::A1::A2::A3::(.pointer (some ⟨jn,0,none⟩))::(.slice hx hn9 hc)::(.int .i64 now)::(.int .i64 M)::(.pointer (some ⟨qc,0,none⟩))::(.int .i64 (k:Int))::(.pointer (some ⟨qx,0,none⟩))::Ab::Ac::Ad::Ae::Af::Ag::Ah::Ai::Aj::Ak::Al::Am::An::Ao::Ap::Aq::Ar::As::At::Au::Av::Aw::Ax::Ay::Az::B0::B1::B2::B3::B4::B5::B6::B7::B8::B9::Ba::Bb::Bc::Bd::Be::Bf::Bg::Bh::Bi::Bj::Bk::Bl::Bm::Bn::Bo::Bp::Bq::Br::Bs::Bt::Bu::Bv::Bw::Bx::By::Bz::C0::C1::C2::C3::C4::C5::C6::C7::C8::C9::Ca::Cb::Cc::Cd::Ce::Cf::Cg::Ch::Ci::Cj::Ck::Cl::Cm::Cn::Co::Cp::Cq::Cr::Cs::Ct::Cu::Cv::Cw::Cx::Cy::Cz::E0::E1::E2::E3::E4::E5::E6::E7::E8::E9::Ea::Eb::Ec::Ed::Ee::Ef::Eg::Eh::Ei::Ej::Ek::El::Em::En::Eo::Ep::Eq::Er::Es::Et::Eu::Ev::Ew::Ex::Ey::Ez::F0::F1::F2::F3::F4::F5::F6::F7::F8::F9::Fa::Fb::Fc::Fd::Fe::Ff::Fg::Fh::Fi::Fj::Fk::Fl::Fm::Fn::Fo::Fp::Fq::Fr::Fs::Ft::Fu::Fv::Fw::Fx::Fy::Fz::I0::I1::I2::I3::I4::I5::I6::I7::I8::I9::Ia::Ib::Ic::Id::Ie::If::Ig::Ih::Ii::Ij::Ik::Il::Im::In::Io::Ip::Iq::Ir::Is::It::Iu::Iv::Iw::Ix::Iy::Iz::J0::J1::J2::J3::J4::J5::J6::J7::J8::J9::Ja::Jb::Jc::Jd::Je::Jf::Jg::Jh::Ji::Jj::Jk::Jl::Jm::Jn::Jo::Jp::Jq::Jr::Js::Jt::Ju::Jv::Jw::Jx::Jy::Jz::[]),[]⟩ y1:=by
 obtain ⟨c0',c1',c2'⟩:=HN1.out.cells
 conv => arg 2;whnf
 obtain ⟨y2,hy2⟩:∃ y,y=y1.drew:=⟨_,rfl⟩
 have HB2:=Lib.hid (show Below y1.heap.size y1 y2 by rw [hy2];exact (Below.refl _ _).drew)
 have hS:True:=trivial
 by_cases hku:k<un
 case neg =>
  have hku2:¬ (k:Int)<un:=by omega
  have hT:True:=trivial
  go_wp2_with fail
  refine wp_region_two (T:=fun _ => True) (S:=fun _ => True) (n:=99) (by kernel_rfl) ?_
  rw [← hy2]
  clear hy2
  refine tk 0 57 hT hS ?_ (hQ:=fun _ _ _ h => hP _ _ _ _ _ h)
  refine tk 1 58 hT hS ?_ (hQ:=fun _ _ _ h => hP _ _ _ _ _ h)
  try simp only [xq]
  refine tk 2 59 hT hS ?_ (hQ:=fun _ _ _ h => hP _ _ _ _ _ h)
  refine tk 3 60 hT hS ?_ (hQ:=fun _ _ _ h => hP _ _ _ _ _ h)
  try simp only [xq]
  refine tk 4 61 hT hS ?_ (hQ:=fun _ _ _ h => hP _ _ _ _ _ h)
  try simp only [xq]
  refine tkT 5 62 (v:=undef) rfl rfl (Or.inr ⟨by rfl,rfl⟩) hT hS ?_ (hQ:=fun _ _ _ h => hP _ _ _ _ _ h)
  try simp only [xq]
  refine tkT 6 63 (v:=undef) rfl rfl (Or.inr ⟨by rfl,rfl⟩) hT hS ?_ (hQ:=fun _ _ _ h => hP _ _ _ _ _ h)
  try simp only [xq]
  refine tkT 7 64 (v:=undef) rfl rfl (Or.inr ⟨by rfl,rfl⟩) hT hS ?_ (hQ:=fun _ _ _ h => hP _ _ _ _ _ h)
  try simp only [xq]
  refine tkT 8 65 (v:=undef) rfl rfl (Or.inr ⟨by rfl,rfl⟩) hT hS ?_ (hQ:=fun _ _ _ h => hP _ _ _ _ _ h)
  try simp only [xq]
  refine tkT 9 66 (v:=undef) rfl rfl (Or.inr ⟨by rfl,rfl⟩) hT hS ?_ (hQ:=fun _ _ _ h => hP _ _ _ _ _ h)
  try simp only [xq]
  refine tkT 10 67 (v:=undef) rfl rfl (Or.inr ⟨by rfl,rfl⟩) hT hS ?_ (hQ:=fun _ _ _ h => hP _ _ _ _ _ h)
  try simp only [xq]
  refine tk 11 68 hT hS ?_ (hQ:=fun _ _ _ h => hP _ _ _ _ _ h)
  refine tk 12 69 hT hS ?_ (hQ:=fun _ _ _ h => hP _ _ _ _ _ h)
  try simp only [xq]
  refine tkT 13 70 (v:=undef) rfl rfl (Or.inr ⟨by rfl,rfl⟩) hT hS ?_ (hQ:=fun _ _ _ h => hP _ _ _ _ _ h)
  try simp only [xq]
  refine tkT 14 71 (v:=undef) rfl rfl (Or.inr ⟨by rfl,rfl⟩) hT hS ?_ (hQ:=fun _ _ _ h => hP _ _ _ _ _ h)
  try simp only [xq]
  refine tkT 15 72 (v:=undef) rfl rfl (Or.inr ⟨by rfl,rfl⟩) hT hS ?_ (hQ:=fun _ _ _ h => hP _ _ _ _ _ h)
  try simp only [xq]
  refine tkT 16 73 (v:=undef) rfl rfl (Or.inr ⟨by rfl,rfl⟩) hT hS ?_ (hQ:=fun _ _ _ h => hP _ _ _ _ _ h)
  try simp only [xq]
  refine tkT 17 74 (v:=undef) rfl rfl (Or.inr ⟨by rfl,rfl⟩) hT hS ?_ (hQ:=fun _ _ _ h => hP _ _ _ _ _ h)
  try simp only [xq]
  refine tkT 18 75 (v:=undef) rfl rfl (Or.inr ⟨by rfl,rfl⟩) hT hS ?_ (hQ:=fun _ _ _ h => hP _ _ _ _ _ h)
  try simp only [xq]
  refine tkT 19 76 (v:=undef) rfl rfl (Or.inr ⟨by rfl,rfl⟩) hT hS ?_ (hQ:=fun _ _ _ h => hP _ _ _ _ _ h)
  try simp only [xq]
  refine tkT 20 77 (v:=undef) rfl rfl (Or.inr ⟨by rfl,rfl⟩) hT hS ?_ (hQ:=fun _ _ _ h => hP _ _ _ _ _ h)
  try simp only [xq]
  refine tkT 21 78 (v:=undef) rfl rfl (Or.inr ⟨by rfl,rfl⟩) hT hS ?_ (hQ:=fun _ _ _ h => hP _ _ _ _ _ h)
  try simp only [xq]
  refine tkT 22 79 (v:=undef) rfl rfl (Or.inr ⟨by rfl,rfl⟩) hT hS ?_ (hQ:=fun _ _ _ h => hP _ _ _ _ _ h)
  try simp only [xq]
  refine tkT 23 80 (v:=undef) rfl rfl (Or.inr ⟨by rfl,rfl⟩) hT hS ?_ (hQ:=fun _ _ _ h => hP _ _ _ _ _ h)
  try simp only [xq]
  refine tkT 24 81 (v:=undef) rfl rfl (Or.inr ⟨by rfl,rfl⟩) hT hS ?_ (hQ:=fun _ _ _ h => hP _ _ _ _ _ h)
  try simp only [xq]
  refine tkT 25 82 (v:=undef) rfl rfl (Or.inr ⟨by rfl,rfl⟩) hT hS ?_ (hQ:=fun _ _ _ h => hP _ _ _ _ _ h)
  try simp only [xq]
  refine tkT 26 83 (v:=undef) rfl rfl (Or.inr ⟨by rfl,rfl⟩) hT hS ?_ (hQ:=fun _ _ _ h => hP _ _ _ _ _ h)
  try simp only [xq]
  refine tk 27 84 hT hS ?_ (hQ:=fun _ _ _ h => hP _ _ _ _ _ h)
  try simp only [xq]
  refine two_done (by kernel_rfl) ?_ _
  go_wp2_with fail
  exact ⟨d,HN1.out.below HB2.out,HCI.out,Keeps.below HB2.out⟩
 case pos =>
 have hku2:(k:Int)<un:=by omega
 obtain ⟨u9,uc9,huv9,hul⟩:=HRU.out w1 HB1.out
 rw [← HUN.out] at huv9
 obtain ⟨rfl,rfl⟩:x1=u9∧c1=uc9:=by injection huv9 with e1 e2 e3;exact ⟨e1,e3⟩
 obtain ⟨g1,g2,ub,uoff,rfl,hub,huc⟩:=hul k (by rw [← HUN.out];exact hku)
 obtain ⟨uk,huk⟩:∃ uk,uk=ul[k]'(by rw [← HUN.out];exact hku):=⟨_,rfl⟩
 rw [← huk] at g1 g2 huc
 clear huv9 hul huk
 obtain ⟨r3,hr3⟩:∃ r3,r3=uk.tmod 3:=⟨_,rfl⟩
 obtain ⟨q3,hq3⟩:∃ q3,q3=uk.tdiv 3:=⟨_,rfl⟩
 obtain ⟨q8,hq8⟩:∃ q8,q8=q3.tmod 8:=⟨_,rfl⟩
 have b3:0≤r3∧r3<3:=by rw [hr3,Int.tmod_eq_emod_of_nonneg g1];omega
 have b4:0≤q3∧q3≤255:=by rw [hq3,Int.tdiv_eq_ediv_of_nonneg g1];omega
 have b5:0≤q8∧q8<8:=by rw [hq8,Int.tmod_eq_emod_of_nonneg b4.1];omega
 have e3:=hr3.symm
 have e4:=hq3.symm
 have e5:=hq8.symm
 have e6:IntKind.u8.wrap r3=r3:=by
  have:IntKind.u8.wrap r3=r3 % 256:=rfl
  rw [this];omega
 have e7:IntKind.i64.wrap uk=uk:=by rw [IntKind.wrap_i64];omega
 have e8:IntKind.i64.wrap q3=q3:=by rw [IntKind.wrap_i64];omega
 have e9:IntKind.i64.wrap q8=q8:=by rw [IntKind.wrap_i64];omega
 have HQ8:=Lib.hid b5
 have hT:y2.cell? ⟨jn,0,none⟩=some (.pointer (some ⟨bd,0,none⟩))∧y2.cell? ⟨ub,uoff+k,none⟩=some (.int .u8 uk):=⟨(HN1.out.below HB2.out).cells.1,((HN1.out.below HB2.out).base.cell (p:=⟨ub,_,none⟩) hub).trans huc⟩
 have HUB:=Lib.hid hub
 have HUC:=Lib.hid huc
 clear hr3 hq3 hq8 b4 b5 huc hub
 by_cases hr0:r3=0
 case neg =>
  have hrb:(r3 == 0)=false:=beq_eq_false_iff_ne.2 hr0
  go_wp2_with fail
  refine wp_region_two (T:=fun W => W.cell? ⟨jn,0,none⟩=some (.pointer (some ⟨bd,0,none⟩))∧W.cell? ⟨ub,uoff+k,none⟩=some (.int .u8 uk)) (S:=fun _ => True) (n:=99) (by kernel_rfl) ?_
  rw [← hy2]
  clear hy2
  refine tk 0 57 hT hS ?_ (hQ:=fun _ _ _ h => hP _ _ _ _ _ h)
  refine tk 1 58 hT hS ?_ (hQ:=fun _ _ _ h => hP _ _ _ _ _ h)
  try simp only [xq]
  refine tk 2 59 hT hS ?_ (hQ:=fun _ _ _ h => hP _ _ _ _ _ h)
  refine tk 3 60 hT hS ?_ (hQ:=fun _ _ _ h => hP _ _ _ _ _ h)
  try simp only [xq]
  refine tk 4 61 hT hS ?_ (hQ:=fun _ _ _ h => hP _ _ _ _ _ h)
  refine tk 5 62 hT hS ?_ (hQ:=fun _ _ _ h => hP _ _ _ _ _ h)
  try simp only [xq]
  refine tk 6 63 hT hS ?_ (hQ:=fun _ _ _ h => hP _ _ _ _ _ h)
  refine tk 7 64 hT hS ?_ (hQ:=fun _ _ _ h => hP _ _ _ _ _ h)
  try simp only [xq]
  refine tk 8 65 hT hS ?_ (hQ:=fun _ _ _ h => hP _ _ _ _ _ h)
  refine tk 9 66 hT hS ?_ (hQ:=fun _ _ _ h => hP _ _ _ _ _ h)
  try simp only [xq]
  refine tk 10 67 hT hS ?_ (hQ:=fun _ _ _ h => hP _ _ _ _ _ h)
  refine tk 11 68 hT hS ?_ (hQ:=fun _ _ _ h => hP _ _ _ _ _ h)
  try simp only [xq]
  refine tk 12 69 hT hS ?_ (hQ:=fun _ _ _ h => hP _ _ _ _ _ h)
  try simp only [xq]
  refine tkT 13 70 (v:=undef) rfl rfl (Or.inr ⟨by rfl,rfl⟩) hT hS ?_ (hQ:=fun _ _ _ h => hP _ _ _ _ _ h)
  try simp only [xq]
  refine tkT 14 71 (v:=undef) rfl rfl (Or.inr ⟨by rfl,rfl⟩) hT hS ?_ (hQ:=fun _ _ _ h => hP _ _ _ _ _ h)
  try simp only [xq]
  refine tkT 15 72 (v:=undef) rfl rfl (Or.inr ⟨by rfl,rfl⟩) hT hS ?_ (hQ:=fun _ _ _ h => hP _ _ _ _ _ h)
  try simp only [xq]
  refine tkT 16 73 (v:=undef) rfl rfl (Or.inr ⟨by rfl,rfl⟩) hT hS ?_ (hQ:=fun _ _ _ h => hP _ _ _ _ _ h)
  try simp only [xq]
  refine tkT 17 74 (v:=undef) rfl rfl (Or.inr ⟨by rfl,rfl⟩) hT hS ?_ (hQ:=fun _ _ _ h => hP _ _ _ _ _ h)
  try simp only [xq]
  refine tkT 18 75 (v:=undef) rfl rfl (Or.inr ⟨by rfl,rfl⟩) hT hS ?_ (hQ:=fun _ _ _ h => hP _ _ _ _ _ h)
  try simp only [xq]
  refine tkT 19 76 (v:=undef) rfl rfl (Or.inr ⟨by rfl,rfl⟩) hT hS ?_ (hQ:=fun _ _ _ h => hP _ _ _ _ _ h)
  try simp only [xq]
  refine tkT 20 77 (v:=undef) rfl rfl (Or.inr ⟨by rfl,rfl⟩) hT hS ?_ (hQ:=fun _ _ _ h => hP _ _ _ _ _ h)
  try simp only [xq]
  refine tkT 21 78 (v:=undef) rfl rfl (Or.inr ⟨by rfl,rfl⟩) hT hS ?_ (hQ:=fun _ _ _ h => hP _ _ _ _ _ h)
  try simp only [xq]
  refine tkT 22 79 (v:=undef) rfl rfl (Or.inr ⟨by rfl,rfl⟩) hT hS ?_ (hQ:=fun _ _ _ h => hP _ _ _ _ _ h)
  try simp only [xq]
  refine tkT 23 80 (v:=undef) rfl rfl (Or.inr ⟨by rfl,rfl⟩) hT hS ?_ (hQ:=fun _ _ _ h => hP _ _ _ _ _ h)
  try simp only [xq]
  refine tkT 24 81 (v:=undef) rfl rfl (Or.inr ⟨by rfl,rfl⟩) hT hS ?_ (hQ:=fun _ _ _ h => hP _ _ _ _ _ h)
  try simp only [xq]
  refine tkT 25 82 (v:=undef) rfl rfl (Or.inr ⟨by rfl,rfl⟩) hT hS ?_ (hQ:=fun _ _ _ h => hP _ _ _ _ _ h)
  try simp only [xq]
  refine tkT 26 83 (v:=undef) rfl rfl (Or.inr ⟨by rfl,rfl⟩) hT hS ?_ (hQ:=fun _ _ _ h => hP _ _ _ _ _ h)
  try simp only [xq]
  refine tk 27 84 hT hS ?_ (hQ:=fun _ _ _ h => hP _ _ _ _ _ h)
  try simp only [xq]
  refine two_done (by kernel_rfl) ?_ _
  go_wp2_with fail
  exact ⟨d,HN1.out.below HB2.out,HCI.out,Keeps.below HB2.out⟩
 case pos =>
  subst hr0
  have hfl:=HCI.out.fail q8 HQ8.out.1 kl (by rw [← HKN.out];omega)
  have hfa:=(HN1.out.below HB2.out).failAt q8 (by have:=HQ8.out;omega) (.slice x2 kn c2) kl ((HRK.out y2 (HWY.out.trans (HB2.out.mono HWY.out.size))).mono fun q hq => Nat.le_trans HB1.out.size hq) (by rw [← HKN.out];omega)
  rw [hfl.1] at hfa
  have HFA:=Lib.hid hfa
  have HFL:=Lib.hid hfl.2
  clear hfl hfa
  go_wp2_with fail
  refine wp_region_two (T:=fun W => W.cell? ⟨jn,0,none⟩=some (.pointer (some ⟨bd,0,none⟩))∧W.cell? ⟨ub,uoff+k,none⟩=some (.int .u8 uk)) (S:=fun _ => True) (n:=99) (by kernel_rfl) ?_
  rw [← hy2]
  clear hy2
  refine tk 0 57 hT hS ?_ (hQ:=fun _ _ _ h => hP _ _ _ _ _ h)
  refine tk 1 58 hT hS ?_ (hQ:=fun _ _ _ h => hP _ _ _ _ _ h)
  try simp only [xq]
  refine tk 2 59 hT hS ?_ (hQ:=fun _ _ _ h => hP _ _ _ _ _ h)
  refine tk 3 60 hT hS ?_ (hQ:=fun _ _ _ h => hP _ _ _ _ _ h)
  try simp only [xq]
  refine tk 4 61 hT hS ?_ (hQ:=fun _ _ _ h => hP _ _ _ _ _ h)
  refine tk 5 62 hT hS ?_ (hQ:=fun _ _ _ h => hP _ _ _ _ _ h)
  try simp only [xq]
  refine tk 6 63 hT hS ?_ (hQ:=fun _ _ _ h => hP _ _ _ _ _ h)
  refine tk 7 64 hT hS ?_ (hQ:=fun _ _ _ h => hP _ _ _ _ _ h)
  try simp only [xq]
  refine tk 8 65 hT hS ?_ (hQ:=fun _ _ _ h => hP _ _ _ _ _ h)
  refine tk 9 66 hT hS ?_ (hQ:=fun _ _ _ h => hP _ _ _ _ _ h)
  try simp only [xq]
  refine tk 10 67 hT hS ?_ (hQ:=fun _ _ _ h => hP _ _ _ _ _ h)
  refine tk 11 68 hT hS ?_ (hQ:=fun _ _ _ h => hP _ _ _ _ _ h)
  try simp only [xq]
  refine tk 12 69 hT hS ?_ (hQ:=fun _ _ _ h => hP _ _ _ _ _ h)
  refine tk 13 70 hT hS ?_ (hQ:=fun _ _ _ h => hP _ _ _ _ _ h)
  try simp only [xq]
  refine tk 14 71 hT hS ?_ (hQ:=fun _ _ _ h => hP _ _ _ _ _ h)
  refine tk 15 72 hT hS ?_ (hQ:=fun _ _ _ h => hP _ _ _ _ _ h)
  try simp only [xq]
  refine tk 16 73 hT hS ?_ (hQ:=fun _ _ _ h => hP _ _ _ _ _ h)
  refine tk 17 74 hT hS ?_ (hQ:=fun _ _ _ h => hP _ _ _ _ _ h)
  try simp only [xq]
  refine tk 18 75 hT hS ?_ (hQ:=fun _ _ _ h => hP _ _ _ _ _ h)
  refine tk 19 76 hT hS ?_ (hQ:=fun _ _ _ h => hP _ _ _ _ _ h)
  try simp only [xq]
  refine tk 20 77 hT hS ?_ (hQ:=fun _ _ _ h => hP _ _ _ _ _ h)
  refine tk 21 78 hT hS ?_ (hQ:=fun _ _ _ h => hP _ _ _ _ _ h)
  try simp only [xq]
  refine tk 22 79 hT hS ?_ (hQ:=fun _ _ _ h => hP _ _ _ _ _ h)
  refine tk 23 80 hT hS ?_ (hQ:=fun _ _ _ h => hP _ _ _ _ _ h)
  try simp only [xq]
  refine tk 24 81 hT hS ?_ (hQ:=fun _ _ _ h => hP _ _ _ _ _ h)
  try simp only [xq]
  refine two_one 25 rfl (by kernel_rfl) ?_
  intro K0 hK0
  go_simp
  refine HFA.out.mono ?_
  rintro e y3 ⟨rfl,hn3,hk3⟩
  have hT3:y3.cell? ⟨jn,0,none⟩=some (.pointer (some ⟨bd,0,none⟩))∧y3.cell? ⟨ub,uoff+k,none⟩=some (.int .u8 uk):=by
   exact ⟨hn3.cells.1,(hn3.base.cell (p:=⟨ub,_,none⟩) HUB.out).trans HUC.out⟩
  have HN3:=Lib.hid hn3
  have HK3:=Lib.hid (show Keeps K1 y1 y3 from (Keeps.below HB2.out).trans hk3)
  refine hK0.out _ _ hT3 (fun _ _ => hS) ?_
  clear hK0 K0
  try simp only [xq]
  clear hn3 hk3 hT HFA
  have hT:=hT3
  clear hT3
  refine tk 26 83 hT hS ?_ (hQ:=fun _ _ _ h => hP _ _ _ _ _ h)
  refine tk 27 84 hT hS ?_ (hQ:=fun _ _ _ h => hP _ _ _ _ _ h)
  try simp only [xq]
  refine two_done (by kernel_rfl) ?_ _
  go_wp2_with fail
  exact ⟨_,HN3.out,HFL.out,HK3.out⟩
end Go.Proofs.YtdacanghbepjpaaGreatDoor
namespace Go.Proofs.YtdacanghbepjpaaGreatDoor
set_option linter.unusedSimpArgs false
set_option linter.unusedVariables false
set_option maxRecDepth 100000
open Go.RowKit Go.Maps
open Dsk
set_option maxHeartbeats 32000000 in
theorem cr_last {Q:Exit→Act→World→Prop} {w1 u3:World} {jn bd qc qx n un kn c0 c1 c2 k N:Nat} {G now2 many3:Int} {hv2:Value} {x0 x1 x2:Option Addr}
  (hup3:CrUp w1 u3 jn bd qc N G hv2 many3 now2 (k+1)) (hn21:0≤now2) (hn22:now2≤4*(k+1)) (hk150:k≤150) {A0 A1 A2 A3 Ab Ac Ad Ae Af Ag Ah Ai Aj Ak Al Am An Ao Ap Aq Ar As At Au Av Aw Ax Ay Az B0 B1 B2 B3 B4 B5 B6 B7 B8 B9 Ba Bb Bc Bd Be Bf Bg Bh Bi Bj Bk Bl Bm Bn Bo Bp Bq Br Bs Bt Bu Bv Bw Bx By Bz C0 C1 C2 C3 C4 C5 C6 C7 C8 C9 Ca Cb Cc Cd Ce Cf Cg Ch Ci Cj Ck Cl Cm Cn Co Cp Cq Cr Cs Ct Cu Cv Cw Cx Cy Cz E0 E1 E2 E3 E4 E5 E6 E7 E8 E9 Ea Eb Ec Ed Ee Ef Eg Eh Ei Ej Ek El Em En Eo Ep Eq Er Es Et Eu Ev Ew Ex Ey Ez F0 F1 F2 F3 F4 F5 F6 F7 F8 F9 Fa Fb Fc Fd Fe Ff Fg Fh Fi Fj Fk Fl Fm Fn Fo Fp Fq Fr Fs Ft Fu Fv Fw Fx Fy Fz I0 I1 I2 I3 I4 I5 I6 I7 I8 I9 Ia Ib Ic Id Ie If Ig Ih Ii Ij Ik Il Im In Io Ip Iq Ir Is It Iu Iv Iw Ix Iy Iz J0 J1 J2 J3 J4 J5 J6 J7 J8 J9 Ja Jb Jc Jd Je Jf Jg Jh Ji Jj Jk Jl Jm Jn Jo Jp Jq Jr Js Jt Ju Jv Jw Jx Jy Jz:Value}
  (hP:∀ c (a:Act) o v w,Q (.panic c) (a.put o v) w→Q (.panic c) a w) (hQ:∀ (O1 O2 O3 O4 O5 O6 O7 O8 O9 Oa Ob Oc Oy Oz R0 R1 R2 R3 R4 R5 R6 R7 R8 R9 Ra Rb Rc Rd Re Rf Rg Rh Ri Rj Rk Rl Rm Rn Ro Rp Rq Rr Rs Rt Ru Rv Rw Rx Ry Rz S0 S1 S2 S3 S4 S5 S6 S7 S9 Sa Sb Sc Sd Se Sf Sg Sh Si Sj Sk Sl Sm Sn So Sp Sq Sr Ss St Su Sv Sw Sx Sy Sz T0 T1 T2 T3 T4 T5 T6 T7 Ta Tb Tc Td Te Tf Tg Th Ti Tj Tk Tl Tm Tn To Tp Tq Tr Ts Tt Tu Tv Tw Tx Ty Tz V0 V1 V2 V3 V4 V5 V6 V7 V8 V9 Va Vb Vc Vd Ve Vf Vg Vh Vi Vj Vk Vl Vm Vn Vo Vp Vq Vr Vs Vt Vu Vv Vw Vx Vy Vz X0 X1 X2 X3 X4 X5 X6 X7 X8 X9 Xa Xb Xc Xd Xe Xf Xg Xh Xi Xj Xk Xl Xm Xn Xo Xp Xq Xr Xs Xt Xu Xv Xw Xx Xy Xz Y0 Y1 Y2 Y3 Y4 Y5 Y6 Y7 Y8 Y9 Ya Yb Yc Yd Ye Yf Yg Yh Yi Yj Yk Yl Ym Yn Yo Yp Yq Yr:Value) (wx:World),CrW w1 wx jn bd qc hv2 many3 now2 (k+1)→Q .normal ⟨List.toArray ((.slice x0 n c0)::(.slice x1 un c1)::(.slice x2 kn c2)::A0::A1::A2::A3::(.pointer (some ⟨jn,0,none⟩))::(hv2)::(.int .i64 now2)::(.int .i64 many3)::(.pointer (some ⟨qc,0,none⟩))::(.int .i64 (k:Int))::(.pointer (some ⟨qx,0,none⟩))::O1::O2::O3::O4::O5::O6::O7::O8::O9::Oa::Ob::Oc::An::Ao::Ap::Aq::Ar::As::At::Au::Av::Aw::Ax::Ay::Az::B0::B1::B2::B3::B4::B5::B6::B7::Oy::Oz::R0::R1::R2::R3::R4::R5::R6::R7::R8::R9::Ra::Rb::Rc::Rd::Re::Rf::Rg::Rh::Ri::Rj::Rk::Rl::Rm::Rn::Ro::Rp::Rq::Rr::Rs::Rt::Ru::Rv::Rw::Rx::Ry::Rz::S0::S1::S2::S3::S4::S5::S6::S7::S9::Sa::Sb::Sc::Sd::Se::Sf::Sg::Sh::Si::Sj::Sk::Sl::Sm::Sn::So::Sp::Sq::Sr::Ss::St::Su::Sv::Sw::Sx::Sy::Sz::T0::T1::T2::T3::T4::T5::T6::T7::Ta::Tb::Tc::Td::Te::Tf::Tg::Th::Ti::Tj::Tk::Tl::Tm::Tn::To::Tp::Tq::Tr::Ts::Tt::Tu::Tv::Tw::Tx::Ty::Tz::V0::V1::V2::V3::V4::V5::V6::V7::V8::V9::Va::Vb::Vc::Vd::Ve::Vf::Vg::Vh::Vi::Vj::Vk::Vl::Vm::Vn::Vo::Vp::Vq::Vr::Vs::Vt::Vu::Vv::Vw::Vx::Vy::Vz::X0::X1::X2::X3::X4::X5::X6::X7::X8::X9::Xa::Xb::Xc::Xd::Xe::Xf::Xg::Xh::Xi::Xj::Xk::Xl::Xm::Xn::Xo::Xp::Xq::Xr::Xs::Xt::Xu::Xv::Xw::Xx::Xy::Xz::Y0::Y1::Y2::Y3::Y4::Y5::Y6::Y7::Y8::Y9::Ya::Yb::Yc::Yd::Ye::Yf::Yg::Yh::Yi::Yj::Yk::Yl::Ym::Yn::Yo::Yp::Yq::Yr::Jz::[]),[]⟩ wx) :
  Code.wp Tryz.prog (crC [1,1,1,1,1,1,1,0,1,4,4,1,0,4,1,1,1,1]) Q ⟨List.toArray ((.slice x0 n c0)::(.slice x1 un c1)::(.slice x2 kn c2)::A0::A1::A2::A3::(.pointer (some ⟨jn,0,none⟩))::(hv2)::(.int .i64 now2)::(.int .i64 many3)::(.pointer (some ⟨qc,0,none⟩))::(.int .i64 (k:Int))::(.pointer (some ⟨qx,0,none⟩))::Ab::Ac::Ad::Ae::Af::Ag::Ah::Ai::Aj::Ak::Al::Am::An::Ao::Ap::Aq::Ar::As::At::Au::Av::Aw::Ax::Ay::Az::B0::B1::B2::B3::B4::B5::B6::B7::B8::B9::Ba::Bb::Bc::Bd::Be::Bf::Bg::Bh::Bi::Bj::Bk::Bl::Bm::Bn::Bo::Bp::Bq::Br::Bs::Bt::Bu::Bv::Bw::Bx::By::Bz::C0::C1::C2::C3::C4::C5::C6::C7::C8::C9::Ca::Cb::Cc::Cd::Ce::Cf::Cg::Ch::Ci::Cj::Ck::Cl::Cm::Cn::Co::Cp::Cq::Cr::Cs::Ct::Cu::Cv::Cw::Cx::Cy::Cz::E0::E1::E2::E3::E4::E5::E6::E7::E8::E9::Ea::Eb::Ec::Ed::Ee::Ef::Eg::Eh::Ei::Ej::Ek::El::Em::En::Eo::Ep::Eq::Er::Es::Et::Eu::Ev::Ew::Ex::Ey::Ez::F0::F1::F2::F3::F4::F5::F6::F7::F8::F9::Fa::Fb::Fc::Fd::Fe::Ff::Fg::Fh::Fi::Fj::Fk::Fl::Fm::Fn::Fo::Fp::Fq::Fr::Fs::Ft::Fu::Fv::Fw::Fx::Fy::Fz::I0::I1::I2::I3::I4::I5::I6::I7::I8::I9::Ia::Ib::Ic::Id::Ie::If::Ig::Ih::Ii::Ij::Ik::Il::Im::In::Io::Ip::Iq::Ir::Is::It::Iu::Iv::Iw::Ix::Iy::Iz::J0::J1::J2::J3::J4::J5::J6::J7::J8::J9::Ja::Jb::Jc::Jd::Je::Jf::Jg::Jh::Ji::Jj::Jk::Jl::Jm::Jn::Jo::Jp::Jq::Jr::Js::Jt::Ju::Jv::Jw::Jx::Jy::Jz::[]),[]⟩ u3:=by
 conv => arg 2;whnf
 obtain ⟨K5,j5,jx5,d5,h5,s5,x5,had5,hn5,hi5,hm5,hs5,hs6,hg5,hg6⟩:=hup3
 obtain ⟨N5,hN5⟩:∃ N5:Nat,x5.next=N5:=⟨x5.next.toNat,by omega⟩
 obtain ⟨G5,hG5⟩:∃ G5,x5.gap=G5:=⟨_,rfl⟩
 have hmi:=hi5.miss
 rw [hN5,hG5,Int.toNat_natCast] at hmi
 rw [hN5] at hg5
 rw [hG5] at hg6
 have hbN5:N5≤30000000:=by
  have h9:=hi5.next
  have h8:=hi5.node.sure
  have h7:=sureOf_le h5.l s5
  omega
 have hbL:=hi5.len
 have hbG:-1000≤G5∧G5≤30000000:=by have:=hi5.node.gap;omega
 obtain ⟨qw,hqw⟩:∃ q,q=u3.heap.size:=⟨_,rfl⟩
 obtain ⟨y1,hy1⟩:∃ y,y=u3.alloc (.cells #[.int .i64 N,.int .i64 G] 30 (0,0)):=⟨_,rfl⟩
 have hb1:Below u3.heap.size u3 y1:=by rw [hy1];exact (Below.refl _ _).alloc (Nat.le_refl _) _
 have hk1:Blk y1 qw 30 #[.int .i64 N,.int .i64 G]:=by rw [hy1,hqw];exact Blk.alloc_new u3 _ _
 have hcu:=(hn5.below hb1).cursor
 unfold curV at hcu
 rw [hN5,hG5] at hcu
 have HCU5:=Lib.hid hcu
 have HN5:=Lib.hid (hn5.below hb1)
 have HM5:=Lib.hid (hm5.below hb1)
 have HI5:=Lib.hid hi5
 have HK1:=Lib.hid hk1
 have HQN:=Lib.hid (show qw≠qc from by have:=hm5.cur.lt;omega)
 have HX5:=Lib.hid (show x5.next=N5∧x5.gap=G5 from ⟨hN5,hG5⟩)
 have HSS:=Lib.hid (show 0≤x5.sent∧x5.sent≤now2 from ⟨hs5,hs6⟩)
 have q0:=hm5.cur.cell 0
 have q1:=hm5.cur.cell 1
 obtain ⟨_,_,c2'⟩:=hn5.cells
 have c2w:=(hn5.below hb1).cells.2.2
 rw [hy1] at c2w
 simp only [List.getElem?_toArray,List.getElem?_cons_zero,List.getElem?_cons_succ] at q0 q1
 have HY1:=Lib.hid hy1
 have HQW:=Lib.hid hqw
 clear hn5 hi5 hm5 hs5 hs6 hN5 hG5 hb1 hk1 hy1 hqw hcu
 go_wp2_with fail
 rw [← HY1.out,← HQW.out]
 clear c2w q0 q1 c2'
 refine HCU5.out.mono ?_
 rintro e y2 ⟨rfl,hb2⟩
 have hm2:=HM5.out.below hb2
 have hn2':=HN5.out.below hb2
 have hk2':=HK1.out.below hb2
 have q0:=hm2.cur.cell 0
 have q1:=hm2.cur.cell 1
 have fq0:=hm2.cur.free 0
 have fq1:=hm2.cur.free 1
 simp only [List.getElem?_toArray,List.getElem?_cons_zero,List.getElem?_cons_succ] at q0 q1
 obtain ⟨hmt,hct⟩:=hm2.turn (a':=(N5:Int)) (b':=G5)
 have hnt:=hn2'.row hct hm2.turnS
 have hkt:=hk2'.chg hct HQN.out
 obtain ⟨y3,hy3⟩:∃ y,y=(y2.setCell ⟨qc,0,none⟩ (.int .i64 N5)).setCell ⟨qc,1,none⟩ (.int .i64 G5):=⟨_,rfl⟩
 rw [← hy3] at hmt hnt hkt
 have HY3:=Lib.hid hy3
 have HMT:=Lib.hid hmt
 have HNT:=Lib.hid hnt
 have HKT:=Lib.hid hkt
 obtain ⟨y4,hy4⟩:∃ y,y=y3.drew:=⟨_,rfl⟩
 have HY4:=Lib.hid (show Below y3.heap.size y3 y4 by rw [hy4];exact (Below.refl _ _).drew)
 have HMI:=Lib.hid (missing_any (HMT.out.below HY4.out).row (by omega) N5 (by omega))
 have hT:y4.cell? ⟨qc,0,none⟩=some (.int .i64 N5)∧y4.cell? ⟨qc,1,none⟩=some (.int .i64 G5)∧y4.cell? ⟨qw,0,none⟩=some (.int .i64 N)∧y4.cell? ⟨qw,1,none⟩=some (.int .i64 G) :=
  ⟨(HMT.out.below HY4.out).cur.cell 0,(HMT.out.below HY4.out).cur.cell 1,(HKT.out.below HY4.out).cell 0,(HKT.out.below HY4.out).cell 1⟩
 have hS:True:=trivial
 have p1:¬ (N5:Int)<N:=by omega
 have p2:¬ G5<G:=by omega
 obtain ⟨ms,hms⟩:∃ ms,ms=missN had5 N5:=⟨_,rfl⟩
 rw [← hms] at HMI hmi
 have p3:¬ G5<(ms:Int):=by omega
 have p11:decide ((N5:Int)<N)=false:=decide_eq_false (by omega)
 have p12:decide (N5<N)=false:=decide_eq_false (by omega)
 have p21:decide (G5<G)=false:=decide_eq_false (by omega)
 have p31:decide (G5<(ms:Int))=false:=decide_eq_false (by omega)
 have hbn2:now2≤1000000:=by omega
 clear HCU5 hb2 hm2 hn2' hk2' hmt hnt hkt hct hms
 go_wp2_with fail
 rw [← HY3.out]
 refine wp_region_two (T:=fun W => W.cell? ⟨qc,0,none⟩=some (.int .i64 N5)∧W.cell? ⟨qc,1,none⟩=some (.int .i64 G5)∧W.cell? ⟨qw,0,none⟩=some (.int .i64 N)∧W.cell? ⟨qw,1,none⟩=some (.int .i64 G)) (S:=fun _ => True) (n:=99) (by kernel_rfl) ?_
 rw [← hy4]
 clear hy4 hy3 q0 q1 fq0 fq1
 refine tk 0 233 hT hS ?_ (hQ:=fun _ _ _ h => hP _ _ _ _ _ h)
 refine tk 1 234 hT hS ?_ (hQ:=fun _ _ _ h => hP _ _ _ _ _ h)
 try simp only [xq]
 refine tk 2 235 hT hS ?_ (hQ:=fun _ _ _ h => hP _ _ _ _ _ h)
 refine tk 3 236 hT hS ?_ (hQ:=fun _ _ _ h => hP _ _ _ _ _ h)
 try simp only [xq]
 refine tk 4 237 hT hS ?_ (hQ:=fun _ _ _ h => hP _ _ _ _ _ h)
 refine tk 5 238 hT hS ?_ (hQ:=fun _ _ _ h => hP _ _ _ _ _ h)
 try simp only [xq]
 refine tk 6 239 hT hS ?_ (hQ:=fun _ _ _ h => hP _ _ _ _ _ h)
 refine tk 7 240 hT hS ?_ (hQ:=fun _ _ _ h => hP _ _ _ _ _ h)
 try simp only [xq]
 refine tk 8 241 hT hS ?_ (hQ:=fun _ _ _ h => hP _ _ _ _ _ h)
 refine tk 9 242 hT hS ?_ (hQ:=fun _ _ _ h => hP _ _ _ _ _ h)
 try simp only [xq]
 refine tk 10 243 hT hS ?_ (hQ:=fun _ _ _ h => hP _ _ _ _ _ h)
 refine tk 11 244 hT hS ?_ (hQ:=fun _ _ _ h => hP _ _ _ _ _ h)
 try simp only [xq]
 refine tk 12 245 hT hS ?_ (hQ:=fun _ _ _ h => hP _ _ _ _ _ h)
 refine tk 13 246 hT hS ?_ (hQ:=fun _ _ _ h => hP _ _ _ _ _ h)
 try simp only [xq]
 refine tk 14 247 hT hS ?_ (hQ:=fun _ _ _ h => hP _ _ _ _ _ h)
 refine tk 15 248 hT hS ?_ (hQ:=fun _ _ _ h => hP _ _ _ _ _ h)
 try simp only [xq]
 refine tk 17 250 hT hS ?_ (hQ:=fun _ _ _ h => hP _ _ _ _ _ h)
 refine tk 18 251 hT hS ?_ (hQ:=fun _ _ _ h => hP _ _ _ _ _ h)
 try simp only [xq]
 refine two_one 16 rfl (by kernel_rfl) ?_
 intro K0 hK0
 go_simp
 refine HMI.out.mono ?_
 rintro e y5 ⟨rfl,rfl⟩
 refine hK0.out _ _ hT (fun _ _ => hS) ?_
 clear hK0 K0
 try simp only [xq]
 clear HMI
 refine tk 19 252 hT hS ?_ (hQ:=fun _ _ _ h => hP _ _ _ _ _ h)
 refine tk 20 253 hT hS ?_ (hQ:=fun _ _ _ h => hP _ _ _ _ _ h)
 try simp only [xq]
 refine two_done (by kernel_rfl) ?_ _
 clear hT
 go_wp2_with fail
 first | refine hQ _ _ _ _ _ _ _ _ _ _ _ _ _ _ _ _ _ _ _ _ _ _ _ _ _ _ _ _ _ _ _ _ _ _ _ _ _ _ _ _ _ _ _ _ _ _ _ _ _ _ _ _ _ _ _ _ _ _ _ _ _ _ _ _ _ _ _ _ _ _ _ _ _ _ _ _ _ _ _ _ _ _ _ _ _ _ _ _ _ _ _ _ _ _ _ _ _ _ _ _ _ _ _ _ _ _ _ _ _ _ _ _ _ _ _ _ _ _ _ _ _ _ _ _ _ _ _ _ _ _ _ _ _ _ _ _ _ _ _ _ _ _ _ _ _ _ _ _ _ _ _ _ _ _ _ _ _ _ _ _ _ _ _ _ _ _ _ _ _ _ _ _ _ _ _ _ _ _ _ _ _ _ _ _ _ _ _ _ _ _ _ _ _ _ _ _ _ _ _ _ _ _ _ _ _ _ _ _ _ _ _ _ _ _ _ _ _ _ _ _ ?_ | skip
 refine ⟨K5,j5,jx5,d5,h5,s5,x5,had5,HNT.out.below HY4.out,HI5.out,?_,HSS.out.1,HSS.out.2⟩
 rw [HX5.out.1,HX5.out.2]
 exact HMT.out.below HY4.out
end Go.Proofs.YtdacanghbepjpaaGreatDoor
