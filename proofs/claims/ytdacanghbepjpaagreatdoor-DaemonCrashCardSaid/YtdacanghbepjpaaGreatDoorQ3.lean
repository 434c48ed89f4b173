/- pieces: an act of kind seven in DaemonCrash: an answer that is given. pieces: whether an act of kind eight in DaemonCrash is the answer. pieces: an act of kind eight in DaemonCrash. -/
import Derived.Test.YtdacanghbepjpaaGreatDoorQ1
import Derived.Deep.DeepCutAuto
import Derived.Deep.CutBlock
import Derived.Test.YtdacanghbepjpaaGreatDoorQ2
import Derived.Test.YtdacanghbepjpaaGreatDoorM12
namespace Go.Proofs.YtdacanghbepjpaaGreatDoor
set_option linter.unusedSimpArgs false
set_option linter.unusedVariables false
set_option maxRecDepth 100000
open Go.RowKit Go.Maps
open Dsk
set_option maxHeartbeats 32000000 in
theorem cr_seven {Q:Exit→Act→World→Prop} {w1 u1:World} {K1:Nat→Prop} {jn bd j jx qc qx hn9 hc n un kn c0 c1 c2 k M N an:Nat} {G now:Int} {hx x0 x1 x2:Option Addr} {d1:Dk} {h:Hl} {s:Nat} {x:Dm} {had:List Bool}
  (HE1:Hid (LEnv w1)) (HN3:Hid (NE w1 u1 K1 jn bd j jx d1 h x)) (HI2:Hid (CrI d1 h s x had M k)) (HM3:Hid (CrM w1 u1 K1 jn qc N G (.slice hx hn9 hc) had)) (HNX:Hid (x.next=(N:Int))) (HGP:Hid (x.gap=G)) (hx1:0≤x.sent) (hx2:x.sent≤now) (hnow1:0≤now) (hnow2:now≤4*k) (hk150:k≤150)
  (hanb:an<256) (k9:u1.cell? ⟨qx,9,none⟩=some (.int .u8 an))
  (hbN:N≤30000000) (hbM:M≤8) (hlt2:(k:Int)<n) (hn100:n≤100) (HUP0:Hid (CrUp w1 u1 jn bd qc N G (.slice hx hn9 hc) M now (k+1))) {A0 A1 A2 A3 Ab Ac Ad Ae Af Ag Ah Ai Aj Ak Al Am An Ao Ap Aq Ar As At Au Av Aw Ax Ay Az B0 B1 B2 B3 B4 B5 B6 B7 B8 B9 Ba Bb Bc Bd Be Bf Bg Bh Bi Bj Bk Bl Bm Bn Bo Bp Bq Br Bs Bt Bu Bv Bw Bx By Bz C0 C1 C2 C3 C4 C5 C6 C7 C8 C9 Ca Cb Cc Cd Ce Cf Cg Ch Ci Cj Ck Cl Cm Cn Co Cp Cq Cr Cs Ct Cu Cv Cw Cx Cy Cz E0 E1 E2 E3 E4 E5 E6 E7 E8 E9 Ea Eb Ec Ed Ee Ef Eg Eh Ei Ej Ek El Em En Eo Ep Eq Er Es Et Eu Ev Ew Ex Ey Ez F0 F1 F2 F3 F4 F5 F6 F7 F8 F9 Fa Fb Fc Fd Fe Ff Fg Fh Fi Fj Fk Fl Fm Fn Fo Fp Fq Fr Fs Ft Fu Fv Fw Fx Fy Fz I0 I1 I2 I3 I4 I5 I6 I7 I8 I9 Ia Ib Ic Id Ie If Ig Ih Ii Ij Ik Il Im In Io Ip Iq Ir Is It Iu Iv Iw Ix Iy Iz J0 J1 J2 J3 J4 J5 J6 J7 J8 J9 Ja Jb Jc Jd Je Jf Jg Jh Ji Jj Jk Jl Jm Jn Jo Jp Jq Jr Js Jt Ju Jv Jw Jx Jy Jz:Value}
  (hP:∀ c (a:Act) o v w,Q (.panic c) (a.put o v) w→Q (.panic c) a w) (hQ:∀ (O1 O2 O3 O4 O5 O6 O7 O8 O9 Oa Ob Oc Oy Oz R0 R1 R2 R3 R4 R5 R6 R7 R8 R9 Ra Rb Rc Rd Re Rf Rg Rh Ri Rj Rk Rl Rm Rn Ro Rp Rq Rr Rs Rt Ru Rv Rw Rx Ry Rz S0 S1 S2 S3 S4 S5 S6 S7 S9 Sa Sb Sc Sd Se Sf Sg Sh Si Sj Sk Sl Sm Sn So Sp Sq Sr Ss St Su Sv Sw Sx Sy Sz T0 T1 T2 T3 T4 T5 T6 T7 Ta Tb Tc Td Te Tf Tg Th Ti Tj Tk Tl Tm Tn To Tp Tq Tr Ts Tt Tu Tv Tw Tx Ty Tz V0 V1 V2 V3 V4 V5 V6 V7 V8 V9 Va Vb Vc Vd Ve Vf Vg Vh Vi Vj Vk Vl Vm Vn Vo Vp Vq Vr Vs Vt Vu Vv Vw Vx Vy Vz X0 X1 X2 X3 X4 X5 X6 X7 X8 X9 Xa Xb Xc Xd Xe Xf Xg Xh Xi Xj Xk Xl Xm Xn Xo Xp Xq Xr Xs Xt Xu Xv Xw Xx Xy Xz Y0 Y1 Y2 Y3 Y4 Y5 Y6 Y7 Y8 Y9 Ya Yb Yc Yd Ye Yf Yg Yh Yi Yj Yk Yl Ym Yn Yo Yp Yq Yr:Value) (v8:Value) (many2 now2:Int) (wx:World),0≤now2→now2≤4*(k+1)→(CrUp w1 wx jn bd qc N G v8 many2 now2 (k+1)∨CrDn w1 wx jn bd qc N G v8 (k+1))→Q .normal ⟨List.toArray ((.slice x0 n c0)::(.slice x1 un c1)::(.slice x2 kn c2)::A0::A1::A2::A3::(.pointer (some ⟨jn,0,none⟩))::(v8)::(.int .i64 now2)::(.int .i64 many2)::(.pointer (some ⟨qc,0,none⟩))::(.int .i64 (k:Int))::(.pointer (some ⟨qx,0,none⟩))::O1::O2::O3::O4::O5::O6::O7::O8::O9::Oa::Ob::Oc::An::Ao::Ap::Aq::Ar::As::At::Au::Av::Aw::Ax::Ay::Az::B0::B1::B2::B3::B4::B5::B6::B7::Oy::Oz::R0::R1::R2::R3::R4::R5::R6::R7::R8::R9::Ra::Rb::Rc::Rd::Re::Rf::Rg::Rh::Ri::Rj::Rk::Rl::Rm::Rn::Ro::Rp::Rq::Rr::Rs::Rt::Ru::Rv::Rw::Rx::Ry::Rz::S0::S1::S2::S3::S4::S5::S6::S7::S9::Sa::Sb::Sc::Sd::Se::Sf::Sg::Sh::Si::Sj::Sk::Sl::Sm::Sn::So::Sp::Sq::Sr::Ss::St::Su::Sv::Sw::Sx::Sy::Sz::T0::T1::T2::T3::T4::T5::T6::T7::Ta::Tb::Tc::Td::Te::Tf::Tg::Th::Ti::Tj::Tk::Tl::Tm::Tn::To::Tp::Tq::Tr::Ts::Tt::Tu::Tv::Tw::Tx::Ty::Tz::V0::V1::V2::V3::V4::V5::V6::V7::V8::V9::Va::Vb::Vc::Vd::Ve::Vf::Vg::Vh::Vi::Vj::Vk::Vl::Vm::Vn::Vo::Vp::Vq::Vr::Vs::Vt::Vu::Vv::Vw::Vx::Vy::Vz::X0::X1::X2::X3::X4::X5::X6::X7::X8::X9::Xa::Xb::Xc::Xd::Xe::Xf::Xg::Xh::Xi::Xj::Xk::Xl::Xm::Xn::Xo::Xp::Xq::Xr::Xs::Xt::Xu::Xv::Xw::Xx::Xy::Xz::Y0::Y1::Y2::Y3::Y4::Y5::Y6::Y7::Y8::Y9::Ya::Yb::Yc::Yd::Ye::Yf::Yg::Yh::Yi::Yj::Yk::Yl::Ym::Yn::Yo::Yp::Yq::Yr::Jz::[]),[]⟩ wx) :
  Code.wp Tryz.prog (crC [1,1,1,1,1,1,1,0,1,4,4,1,0,4,1,1,0,1,2,1,4,1,2]) Q ⟨List.toArray ((.slice x0 n c0)::(.slice x1 un c1)::(.slice x2 kn c2)::A0::A1::A2::A3::(.pointer (some ⟨jn,0,none⟩))::(.slice hx hn9 hc)::(.int .i64 now)::(.int .i64 M)::(.pointer (some ⟨qc,0,none⟩))::(.int .i64 (k:Int))::(.pointer (some ⟨qx,0,none⟩))::Ab::Ac::Ad::Ae::Af::Ag::Ah::Ai::Aj::Ak::Al::Am::An::Ao::Ap::Aq::Ar::As::At::Au::Av::Aw::Ax::Ay::Az::B0::B1::B2::B3::B4::B5::B6::B7::B8::B9::Ba::Bb::Bc::Bd::Be::Bf::Bg::Bh::Bi::Bj::Bk::Bl::Bm::Bn::Bo::Bp::Bq::Br::Bs::Bt::Bu::Bv::Bw::Bx::By::Bz::C0::C1::C2::C3::C4::C5::C6::C7::C8::C9::Ca::Cb::Cc::Cd::Ce::Cf::Cg::Ch::Ci::Cj::Ck::Cl::Cm::Cn::Co::Cp::Cq::Cr::Cs::Ct::Cu::Cv::Cw::Cx::Cy::Cz::E0::E1::E2::E3::E4::E5::E6::E7::E8::E9::Ea::Eb::Ec::Ed::Ee::Ef::Eg::Eh::Ei::Ej::Ek::El::Em::En::Eo::Ep::Eq::Er::Es::Et::Eu::Ev::Ew::Ex::Ey::Ez::F0::F1::F2::F3::F4::F5::F6::F7::F8::F9::Fa::Fb::Fc::Fd::Fe::Ff::Fg::Fh::Fi::Fj::Fk::Fl::Fm::Fn::Fo::Fp::Fq::Fr::Fs::Ft::Fu::Fv::Fw::Fx::Fy::Fz::I0::I1::I2::I3::I4::I5::I6::I7::I8::I9::Ia::Ib::Ic::Id::Ie::If::Ig::Ih::Ii::Ij::Ik::Il::Im::In::Io::Ip::Iq::Ir::Is::It::Iu::Iv::Iw::Ix::Iy::Iz::J0::J1::J2::J3::J4::J5::J6::J7::J8::J9::Ja::Jb::Jc::Jd::Je::Jf::Jg::Jh::Ji::Jj::Jk::Jl::Jm::Jn::Jo::Jp::Jq::Jr::Js::Jt::Ju::Jv::Jw::Jx::Jy::Jz::[]),[]⟩ u1:=by
 obtain ⟨c0',c1',c2'⟩:=HN3.out.cells
 conv => arg 2;whnf
 have q0:=HM3.out.cur.cell 0
 simp only [List.getElem?_toArray,List.getElem?_cons_zero,List.getElem?_cons_succ] at q0
 obtain ⟨m4,hm4⟩:∃ m4:Int,m4=(an:Int).tmod 4:=⟨_,rfl⟩
 have hm40:0≤m4∧m4<4:=by rw [hm4,Int.tmod_eq_emod_of_nonneg (by omega)];omega
 have hm4w:IntKind.u8.wrap m4=m4:=by
  have:IntKind.u8.wrap m4=m4 % 256:=rfl
  rw [this];omega
 have hm4s:=hm4.symm
 clear hm4
 by_cases hm0:m4>0
 case neg =>
  have hm1:¬ (0:Int)<m4:=hm0
  go_wp2_with fail
  exact hQ _ _ _ _ _ _ _ _ _ _ _ _ _ _ _ _ _ _ _ _ _ _ _ _ _ _ _ _ _ _ _ _ _ _ _ _ _ _ _ _ _ _ _ _ _ _ _ _ _ _ _ _ _ _ _ _ _ _ _ _ _ _ _ _ _ _ _ _ _ _ _ _ _ _ _ _ _ _ _ _ _ _ _ _ _ _ _ _ _ _ _ _ _ _ _ _ _ _ _ _ _ _ _ _ _ _ _ _ _ _ _ _ _ _ _ _ _ _ _ _ _ _ _ _ _ _ _ _ _ _ _ _ _ _ _ _ _ _ _ _ _ _ _ _ _ _ _ _ _ _ _ _ _ _ _ _ _ _ _ _ _ _ _ _ _ _ _ _ _ _ _ _ _ _ _ _ _ _ _ _ _ _ _ _ _ _ _ _ _ _ _ _ _ _ _ _ _ _ _ _ _ _ _ _ _ _ _ _ _ _ _ _ _ _ _ _ _ _ _ (.slice hx hn9 hc) M now _ hnow1 (by omega) (.inl HUP0.out)
 case pos =>
 have hm1:(0:Int)<m4:=hm0
 have hwx:=HN3.out.waiting
 by_cases hxo:x.out=noB
 case pos =>
  rw [hxo,noB_is] at hwx
  have HWX:=Lib.hid hwx
  clear hwx hxo
  go_wp2_with fail
  refine HWX.out.mono ?_
  rintro e y3 ⟨rfl,rfl⟩
  go_wp2_with fail
  exact hQ _ _ _ _ _ _ _ _ _ _ _ _ _ _ _ _ _ _ _ _ _ _ _ _ _ _ _ _ _ _ _ _ _ _ _ _ _ _ _ _ _ _ _ _ _ _ _ _ _ _ _ _ _ _ _ _ _ _ _ _ _ _ _ _ _ _ _ _ _ _ _ _ _ _ _ _ _ _ _ _ _ _ _ _ _ _ _ _ _ _ _ _ _ _ _ _ _ _ _ _ _ _ _ _ _ _ _ _ _ _ _ _ _ _ _ _ _ _ _ _ _ _ _ _ _ _ _ _ _ _ _ _ _ _ _ _ _ _ _ _ _ _ _ _ _ _ _ _ _ _ _ _ _ _ _ _ _ _ _ _ _ _ _ _ _ _ _ _ _ _ _ _ _ _ _ _ _ _ _ _ _ _ _ _ _ _ _ _ _ _ _ _ _ _ _ _ _ _ _ _ _ _ _ _ _ _ _ _ _ _ _ _ _ _ _ _ _ _ _ (.slice hx hn9 hc) M now _ hnow1 (by omega) (.inl HUP0.out)
 case neg =>
 have hem:x.out.toList.isEmpty=false:=by
  cases hq:x.out.toList.isEmpty with
  | true => exact absurd (noB_of hq) hxo
  | false => rfl
 rw [hem] at hwx
 have HWX:=Lib.hid hwx
 have hmm:(M:Int)=x.many:=HI2.out.mny.elim (fun e => absurd e hxo) id
 have hsu9:(N:Int)+M≤140000*(k+1):=by
  rcases HI2.out.node.out with ⟨e,_⟩ | ⟨ss,_,e2,_,_,_,e6⟩
  · exact absurd e hxo
  · have h7:=sureOf_le h.l s
    have h8:=HI2.out.next
    rw [HNX.out] at e6
    omega
 have hak:Po.AckOk 1 N ((N:Int)+M):=⟨by decide,⟨by omega,by omega⟩,by omega,⟨by omega,by omega⟩⟩
 have HTK:=Lib.hid (HI2.out.take (by omega) (ackB 1 N ((N:Int)+M)).data.toList (had':=markN had N (N+M)) (markN_more had N (N+M)) (by rw [markN_len];have:=HI2.out.len;omega) (fun _ _ i h5 h6 => by
  rw [HNX.out] at h5 h6
  rw [markN_get,if_pos (by omega)]))
 have HFW:=Lib.hid (HI2.out.fw (by omega))
 have HAK:=Lib.hid (encAck_of hak)
 have HAS:=Lib.hid (ackB_size hak)
 have HBH:=Lib.hid (show had.length≤30000000 by have:=HI2.out.len;omega)
 obtain ⟨R,hR⟩:∃ R,R=takeC (ackB 1 N ((N:Int)+M)).data.toList d1 x:=⟨_,rfl⟩
 rw [← hR] at HTK
 have HR:=Lib.hid hR
 clear hR hwx hxo hmm hsu9 hak
 obtain ⟨y2,hy2⟩:∃ y,y=u1.drew:=⟨_,rfl⟩
 have HY2:=Lib.hid (show Below u1.heap.size u1 y2 by rw [hy2];exact (Below.refl _ _).drew)
 have HTT:=Lib.hid (fun (W:World) (hW:Below u1.heap.size u1 W) => show W.cell? ⟨jn,2,none⟩=some (.pointer (some ⟨jx,0,none⟩))∧W.cell? ⟨qc,0,none⟩=some (.int .i64 N) from ⟨(HN3.out.below hW).cells.2.2,(HM3.out.below hW).cur.cell 0⟩)
 have hT:=HTT.out y2 HY2.out
 have hS:True:=trivial
 go_wp2_with fail
 refine HWX.out.mono ?_
 rintro e y3 ⟨rfl,rfl⟩
 clear HWX
 go_wp2_with fail
 refine wp_region_two (T:=fun W => W.cell? ⟨jn,2,none⟩=some (.pointer (some ⟨jx,0,none⟩))∧W.cell? ⟨qc,0,none⟩=some (.int .i64 N)) (S:=fun _ => True) (n:=99) (by kernel_rfl) ?_
 rw [← hy2]
 clear hy2
 refine tk 0 148 hT hS ?_ (hQ:=fun _ _ _ h => hP _ _ _ _ _ h)
 refine tk 1 149 hT hS ?_ (hQ:=fun _ _ _ h => hP _ _ _ _ _ h)
 try simp only [xq]
 refine tk 2 150 hT hS ?_ (hQ:=fun _ _ _ h => hP _ _ _ _ _ h)
 refine tk 3 151 hT hS ?_ (hQ:=fun _ _ _ h => hP _ _ _ _ _ h)
 try simp only [xq]
 refine tk 4 152 hT hS ?_ (hQ:=fun _ _ _ h => hP _ _ _ _ _ h)
 refine tk 5 153 hT hS ?_ (hQ:=fun _ _ _ h => hP _ _ _ _ _ h)
 try simp only [xq]
 refine tk 6 154 hT hS ?_ (hQ:=fun _ _ _ h => hP _ _ _ _ _ h)
 try simp only [xq]
 refine two_one 7 rfl (by kernel_rfl) ?_
 intro K0 hK0
 go_simp
 refine (ackD_any 1 N ((N:Int)+M) y2).mono ?_
 rintro e y3 ⟨rfl,hb3⟩
 have HY3:=Lib.hid (HY2.out.trans (hb3.mono HY2.out.size))
 have hT3:=HTT.out y3 HY3.out
 refine hK0.out _ _ hT3 (fun _ _ => hS) ?_
 clear hK0 K0
 try simp only [xq]
 clear hb3 hT
 have hT:=hT3
 clear hT3
 have hta:=(HN3.out.below HY3.out).take HFW.out (encAck 1 N ((N:Int)+M)).1 (by rw [HAK.out];exact HAS.out) (R:=R) (by rw [HAK.out,HR.out])
 have HTA:=Lib.hid hta
 clear hta
 refine two_one 8 rfl (by kernel_rfl) ?_
 intro K0 hK0
 go_simp
 refine HTA.out.mono ?_
 rintro e y4 ⟨rfl,hn4,hk4⟩
 have HN4:=Lib.hid hn4
 have HM4:=Lib.hid ((HM3.out.below HY3.out).keeps hk4)
 have hT4:y4.cell? ⟨jn,2,none⟩=some (.pointer (some ⟨jx,0,none⟩))∧y4.cell? ⟨qc,0,none⟩=some (.int .i64 N):=⟨hn4.cells.2.2,HM4.out.cur.cell 0⟩
 refine hK0.out _ _ hT4 (fun _ _ => hS) ?_
 clear hK0 K0
 try simp only [xq]
 clear hn4 hk4 hT HTA HTT HM3
 have hT:=hT4
 clear hT4
 refine tk 9 147 hT hS ?_ (hQ:=fun _ _ _ h => hP _ _ _ _ _ h)
 refine tk 10 157 hT hS ?_ (hQ:=fun _ _ _ h => hP _ _ _ _ _ h)
 try simp only [xq]
 refine tk 11 158 hT hS ?_ (hQ:=fun _ _ _ h => hP _ _ _ _ _ h)
 refine tk 12 15 hT hS ?_ (hQ:=fun _ _ _ h => hP _ _ _ _ _ h)
 try simp only [xq]
 refine tk 13 16 hT hS ?_ (hQ:=fun _ _ _ h => hP _ _ _ _ _ h)
 try simp only [xq]
 refine two_done (by kernel_rfl) ?_ _
 have q0:=hT.2
 have HMK:=Lib.hid (show Calls Tryz.prog 36 #[.slice hx hn9 hc,.int .i64 N,.int .i64 ((N:Int)+M)] y4 _ from by
  have hmk:=marked_any HM4.out.row HN4.out.base.size (by have:=HBH.out;omega) N (N+M) (by omega) (by omega)
  rw [Int.natCast_add] at hmk
  exact hmk)
 clear hT
 obtain ⟨⟨ok,rr⟩,x5,d5⟩:=R
 simp only at HTK HN4
 rcases HTK.out with ⟨e1,e2,i5⟩ | ⟨e1,i5,g1,g2⟩ | ⟨e1,e2,c5⟩
 case inl =>
  subst e1
  injection e2 with e2 e3
  subst e2 e3
  have HI5:=Lib.hid i5
  clear i5 HTK HR
  go_wp2_with fail
  refine HMK.out.mono ?_
  rintro e y6 ⟨u6,rfl,ho6,hu6,hc6⟩
  have HM6:=Lib.hid (HM4.out.marked HN4.out.jlt HN4.out.base.size ho6 hu6 hc6)
  have HN6:=Lib.hid (HN4.out.rowAdd hc6 HM4.out.rowS)
  clear ho6 hu6 hc6 HMK
  go_wp2_with fail
  exact hQ _ _ _ _ _ _ _ _ _ _ _ _ _ _ _ _ _ _ _ _ _ _ _ _ _ _ _ _ _ _ _ _ _ _ _ _ _ _ _ _ _ _ _ _ _ _ _ _ _ _ _ _ _ _ _ _ _ _ _ _ _ _ _ _ _ _ _ _ _ _ _ _ _ _ _ _ _ _ _ _ _ _ _ _ _ _ _ _ _ _ _ _ _ _ _ _ _ _ _ _ _ _ _ _ _ _ _ _ _ _ _ _ _ _ _ _ _ _ _ _ _ _ _ _ _ _ _ _ _ _ _ _ _ _ _ _ _ _ _ _ _ _ _ _ _ _ _ _ _ _ _ _ _ _ _ _ _ _ _ _ _ _ _ _ _ _ _ _ _ _ _ _ _ _ _ _ _ _ _ _ _ _ _ _ _ _ _ _ _ _ _ _ _ _ _ _ _ _ _ _ _ _ _ _ _ _ _ _ _ _ _ _ _ _ _ _ _ _ _ _ M now _ hnow1 (by omega) (.inl ⟨_,j,jx,_,h,s,_,_,HN6.out,HI5.out,HM6.out,hx1,hx2,by rw [HNX.out];exact Int.le_refl _,by rw [HGP.out];exact Int.le_refl _⟩)
 case inr.inl =>
  subst e1
  have HI5:=Lib.hid i5
  have HG5:=Lib.hid (And.intro g1 g2)
  have HS5:=Lib.hid (show x5.sent=x.sent from by
   have h9:=take_sent (ackB 1 N ((N:Int)+M)).data.toList d1 x
   rw [← HR.out] at h9
   exact h9)
  clear i5 HTK g1 g2 HR
  go_wp2_with fail
  refine HMK.out.mono ?_
  rintro e y6 ⟨u6,rfl,ho6,hu6,hc6⟩
  have HM6:=Lib.hid (HM4.out.marked HN4.out.jlt HN4.out.base.size ho6 hu6 hc6)
  have HN6:=Lib.hid (HN4.out.rowAdd hc6 HM4.out.rowS)
  clear ho6 hu6 hc6 HMK
  go_wp2_with fail
  exact hQ _ _ _ _ _ _ _ _ _ _ _ _ _ _ _ _ _ _ _ _ _ _ _ _ _ _ _ _ _ _ _ _ _ _ _ _ _ _ _ _ _ _ _ _ _ _ _ _ _ _ _ _ _ _ _ _ _ _ _ _ _ _ _ _ _ _ _ _ _ _ _ _ _ _ _ _ _ _ _ _ _ _ _ _ _ _ _ _ _ _ _ _ _ _ _ _ _ _ _ _ _ _ _ _ _ _ _ _ _ _ _ _ _ _ _ _ _ _ _ _ _ _ _ _ _ _ _ _ _ _ _ _ _ _ _ _ _ _ _ _ _ _ _ _ _ _ _ _ _ _ _ _ _ _ _ _ _ _ _ _ _ _ _ _ _ _ _ _ _ _ _ _ _ _ _ _ _ _ _ _ _ _ _ _ _ _ _ _ _ _ _ _ _ _ _ _ _ _ _ _ _ _ _ _ _ _ _ _ _ _ _ _ _ _ _ _ _ _ _ _ 0 now _ hnow1 (by omega) (.inl ⟨_,j,jx,_,h,s,_,_,HN6.out,HI5.out,HM6.out,by rw [HS5.out];exact hx1,by rw [HS5.out];exact hx2,by have:=HG5.out.1;rw [HNX.out] at this;exact this,by have:=HG5.out.2;rw [HGP.out] at this;exact this⟩)
 case inr.inr =>
  subst e1 e2
  have HC5:=Lib.hid c5
  clear c5 HTK HR
  go_wp2_with fail
  refine HMK.out.mono ?_
  rintro e y6 ⟨u6,rfl,ho6,hu6,hc6⟩
  have HM6:=Lib.hid (HM4.out.marked HN4.out.jlt HN4.out.base.size ho6 hu6 hc6)
  have HN6:=Lib.hid (HN4.out.rowAdd hc6 HM4.out.rowS)
  clear ho6 hu6 hc6 HMK
  go_wp2_with fail
  exact hQ _ _ _ _ _ _ _ _ _ _ _ _ _ _ _ _ _ _ _ _ _ _ _ _ _ _ _ _ _ _ _ _ _ _ _ _ _ _ _ _ _ _ _ _ _ _ _ _ _ _ _ _ _ _ _ _ _ _ _ _ _ _ _ _ _ _ _ _ _ _ _ _ _ _ _ _ _ _ _ _ _ _ _ _ _ _ _ _ _ _ _ _ _ _ _ _ _ _ _ _ _ _ _ _ _ _ _ _ _ _ _ _ _ _ _ _ _ _ _ _ _ _ _ _ _ _ _ _ _ _ _ _ _ _ _ _ _ _ _ _ _ _ _ _ _ _ _ _ _ _ _ _ _ _ _ _ _ _ _ _ _ _ _ _ _ _ _ _ _ _ _ _ _ _ _ _ _ _ _ _ _ _ _ _ _ _ _ _ _ _ _ _ _ _ _ _ _ _ _ _ _ _ _ _ _ _ _ _ _ _ _ _ _ _ _ _ _ _ _ _ M now _ hnow1 (by omega) (.inr ⟨_,d1,h,s,_,_,_,HN6.out.down (fun q hq => (HM6.out.kn q hq).1),HC5.out,HM6.out,HNX.out,HGP.out⟩)
end Go.Proofs.YtdacanghbepjpaaGreatDoor
namespace Go.Proofs.YtdacanghbepjpaaGreatDoor
set_option linter.unusedSimpArgs false
set_option linter.unusedVariables false
set_option maxRecDepth 100000
open Go.RowKit Go.Maps
open Dsk
set_option maxHeartbeats 32000000 in
theorem cr_mark {Q:Exit→Act→World→Prop} {w1 u1:World} {K1:Nat→Prop} {jn bd j jx qc qx qa hn9 hc n un kn c0 c1 c2 k M N:Nat} {G now er ho fi nx:Int} {hx x0 x1 x2:Option Addr} {d1:Dk} {h:Hl} {s:Nat} {x:Dm} {had:List Bool} {adt:ByteArray}
  (HN3:Hid (NE w1 u1 K1 jn bd j jx d1 h x)) (HI2:Hid (CrI d1 h s x had M k)) (HM3:Hid (CrM w1 u1 K1 jn qc N G (.slice hx hn9 hc) had)) (HNX:Hid (x.next=(N:Int))) (hk150:k≤150) (hbN:N≤30000000) (hbM:M≤8)
  (HQA:Hid (Blk u1 qa 51 #[.int .i64 ho,.int .i64 fi,.int .i64 nx])) (HDA:Hid ((er=0∧Po.decAck adt.data.toList=some (ho,fi,nx))∨(er≠0∧Po.decAck adt.data.toList=none)))
  (HQX:Hid (K1 qx∧qx<u1.heap.size∧∀ q,(Value.slice hx hn9 hc).ownBlock=some q→q≠qx)) (HKC:Hid (u1.cell? ⟨qx,13,none⟩=some (.string adt))) {A0 A1 A2 A3 Ab Ac Ad Ag Ah Ai Aj Ak Al Am An Ao Ap Aq Ar As At Au Av Aw Ax Ay Az B0 B1 B2 B3 B4 B5 B6 B7 B8 B9 Ba Bb Bc Bd Be Bf Bg Bh Bi Bj Bk Bl Bm Bn Bo Bp Bq Br Bs Bt Bu Bv Bw Bx By Bz C0 C1 C2 C3 C4 C5 C6 C7 C8 C9 Ca Cb Cc Cd Ce Cf Cg Ch Ci Cj Ck Cl Cm Cn Co Cp Cq Cr Cs Ct Cu Cv Cw Cx Cy Cz E0 E1 E2 E3 E4 E5 E6 E7 E8 E9 Ea Eb Ec Ed Ee Ef Eg Eh Ei Ej Ek El Em En Eo Ep Eq Er Es Et Eu Ev Ew Ex Ey Ez F0 F1 F2 F3 F4 F5 F6 F7 F8 F9 Fa Fb Fc Fd Fe Ff Fg Fh Fi Fj Fk Fl Fm Fn Fo Fp Fq Fr Fs Ft Fu Fv Fw Fx Fy Fz I0 I1 I2 I3 I4 I5 I6 I7 I8 I9 Ia Ib Ic Id Ie If Ig Ih Ii Ij Ik Il Im In Io Ip Iq Ir Is It Iu Iv Iw Ix Iy Iz J0 J1 J2 J3 J4 J5 J6 J7 J8 J9 Ja Jb Jc Jd Je Jf Jg Jh Ji Jj Jk Jl Jm Jn Jo Jp Jq Jr Js Jt Ju Jv Jw Jx Jy Jz:Value}
  (hP:∀ c (a:Act) o v w,Q (.panic c) (a.put o v) w→Q (.panic c) a w) (hQ:∀ (O1 O2 O3 O4 O5 O6 O7 O8 O9 Oa Ob Oc Oy Oz R0 R1 R2 R3 R4 R5 R6 R7 R8 R9 Ra Rb Rc Rd Re Rf Rg Rh Ri Rj Rk Rl Rm Rn Ro Rp Rq Rr Rs Rt Ru Rv Rw Rx Ry Rz S0 S1 S2 S3 S4 S5 S6 S7 S9 Sa Sb Sc Sd Se Sf Sg Sh Si Sj Sk Sl Sm Sn So Sp Sq Sr Ss St Su Sv Sw Sx Sy Sz T0 T1 T2 T3 T4 T5 T6 T7 Ta Tb Tc Td Te Tf Tg Th Ti Tj Tk Tl Tm Tn To Tp Tq Tr Ts Tt Tu Tv Tw Tx Ty Tz V0 V1 V2 V3 V4 V5 V6 V7 V8 V9 Va Vb Vc Vd Ve Vf Vg Vh Vi Vj Vk Vl Vm Vn Vo Vp Vq Vr Vs Vt Vu Vv Vw Vx Vy Vz X0 X1 X2 X3 X4 X5 X6 X7 X8 X9 Xa Xb Xc Xd Xe Xf Xg Xh Xi Xj Xk Xl Xm Xn Xo Xp Xq Xr Xs Xt Xu Xv Xw Xx Xy Xz Y0 Y1 Y2 Y3 Y4 Y5 Y6 Y7 Y8 Y9 Ya Yb Yc Yd Ye Yf Yg Yh Yi Yj Yk Yl Ym Yn Yo Yp Yq Yr:Value) (v8:Value) (wx:World),(∃ K2 had2,NE w1 wx K2 jn bd j jx d1 h x∧CrM w1 wx K2 jn qc N G v8 had2∧(∀ q,had.getD q false=true→had2.getD q false=true)∧had2.length≤140000*(k+2)∧(x.out≠noB→Po.decAck adt.data.toList=some (x.host,x.next,x.next+x.many)→∀ q,x.next.toNat≤q→q<x.next.toNat+x.many.toNat→had2.getD q false=true)∧(∀ W,Keeps K2 wx W→W.cell? ⟨qx,13,none⟩=some (.string adt)))→Q .normal ⟨List.toArray ((.slice x0 n c0)::(.slice x1 un c1)::(.slice x2 kn c2)::A0::A1::A2::A3::(.pointer (some ⟨jn,0,none⟩))::(v8)::(.int .i64 now)::(.int .i64 M)::(.pointer (some ⟨qc,0,none⟩))::(.int .i64 (k:Int))::(.pointer (some ⟨qx,0,none⟩))::O1::O2::O3::O4::O5::O6::O7::O8::O9::Oa::Ob::Oc::An::Ao::Ap::Aq::Ar::As::At::Au::Av::Aw::Ax::Ay::Az::B0::B1::B2::B3::B4::B5::B6::B7::Oy::Oz::R0::R1::R2::R3::R4::R5::R6::R7::R8::R9::Ra::Rb::Rc::Rd::Re::Rf::Rg::Rh::Ri::Rj::Rk::Rl::Rm::Rn::Ro::Rp::Rq::Rr::Rs::Rt::Ru::Rv::Rw::Rx::Ry::Rz::S0::S1::S2::S3::S4::S5::S6::S7::S9::Sa::Sb::Sc::Sd::Se::Sf::Sg::Sh::Si::Sj::Sk::Sl::Sm::Sn::So::Sp::Sq::Sr::Ss::St::Su::Sv::Sw::Sx::Sy::Sz::T0::T1::T2::T3::T4::T5::T6::T7::Ta::Tb::Tc::Td::Te::Tf::Tg::Th::Ti::Tj::Tk::Tl::Tm::Tn::To::Tp::Tq::Tr::Ts::Tt::Tu::Tv::Tw::Tx::Ty::Tz::V0::V1::V2::V3::V4::V5::V6::V7::V8::V9::Va::Vb::Vc::Vd::Ve::Vf::Vg::Vh::Vi::Vj::Vk::Vl::Vm::Vn::Vo::Vp::Vq::Vr::Vs::Vt::Vu::Vv::Vw::Vx::Vy::Vz::X0::X1::X2::X3::X4::X5::X6::X7::X8::X9::Xa::Xb::Xc::Xd::Xe::Xf::Xg::Xh::Xi::Xj::Xk::Xl::Xm::Xn::Xo::Xp::Xq::Xr::Xs::Xt::Xu::Xv::Xw::Xx::Xy::Xz::Y0::Y1::Y2::Y3::Y4::Y5::Y6::Y7::Y8::Y9::Ya::Yb::Yc::Yd::Ye::Yf::Yg::Yh::Yi::Yj::Yk::Yl::Ym::Yn::Yo::Yp::Yq::Yr::Jz::[]),[]⟩ wx) :
  Code.wp Tryz.prog (crC [1,1,1,1,1,1,1,0,1,4,4,1,0,4,1,1,0,1,2,1,4,1,3,1,2,1,0]) Q ⟨List.toArray ((.slice x0 n c0)::(.slice x1 un c1)::(.slice x2 kn c2)::A0::A1::A2::A3::(.pointer (some ⟨jn,0,none⟩))::(.slice hx hn9 hc)::(.int .i64 now)::(.int .i64 M)::(.pointer (some ⟨qc,0,none⟩))::(.int .i64 (k:Int))::(.pointer (some ⟨qx,0,none⟩))::Ab::Ac::Ad::(.pointer (some ⟨qa,0,none⟩))::(.int .i64 er)::Ag::Ah::Ai::Aj::Ak::Al::Am::An::Ao::Ap::Aq::Ar::As::At::Au::Av::Aw::Ax::Ay::Az::B0::B1::B2::B3::B4::B5::B6::B7::B8::B9::Ba::Bb::Bc::Bd::Be::Bf::Bg::Bh::Bi::Bj::Bk::Bl::Bm::Bn::Bo::Bp::Bq::Br::Bs::Bt::Bu::Bv::Bw::Bx::By::Bz::C0::C1::C2::C3::C4::C5::C6::C7::C8::C9::Ca::Cb::Cc::Cd::Ce::Cf::Cg::Ch::Ci::Cj::Ck::Cl::Cm::Cn::Co::Cp::Cq::Cr::Cs::Ct::Cu::Cv::Cw::Cx::Cy::Cz::E0::E1::E2::E3::E4::E5::E6::E7::E8::E9::Ea::Eb::Ec::Ed::Ee::Ef::Eg::Eh::Ei::Ej::Ek::El::Em::En::Eo::Ep::Eq::Er::Es::Et::Eu::Ev::Ew::Ex::Ey::Ez::F0::F1::F2::F3::F4::F5::F6::F7::F8::F9::Fa::Fb::Fc::Fd::Fe::Ff::Fg::Fh::Fi::Fj::Fk::Fl::Fm::Fn::Fo::Fp::Fq::Fr::Fs::Ft::Fu::Fv::Fw::Fx::Fy::Fz::I0::I1::I2::I3::I4::I5::I6::I7::I8::I9::Ia::Ib::Ic::Id::Ie::If::Ig::Ih::Ii::Ij::Ik::Il::Im::In::Io::Ip::Iq::Ir::Is::It::Iu::Iv::Iw::Ix::Iy::Iz::J0::J1::J2::J3::J4::J5::J6::J7::J8::J9::Ja::Jb::Jc::Jd::Je::Jf::Jg::Jh::Ji::Jj::Jk::Jl::Jm::Jn::Jo::Jp::Jq::Jr::Js::Jt::Ju::Jv::Jw::Jx::Jy::Jz::[]),[]⟩ u1:=by
 obtain ⟨c0',c1',c2'⟩:=HN3.out.cells
 conv => arg 2;whnf
 have q0:=HM3.out.cur.cell 0
 have a0:=HQA.out.cell 0
 have a1:=HQA.out.cell 1
 have a2:=HQA.out.cell 2
 simp only [List.getElem?_toArray,List.getElem?_cons_zero,List.getElem?_cons_succ] at q0 a0 a1 a2
 have hsame:(¬ (x.out≠noB∧Po.decAck adt.data.toList=some (x.host,x.next,x.next+x.many)))→∃ K2 had2,NE w1 u1 K2 jn bd j jx d1 h x∧CrM w1 u1 K2 jn qc N G (.slice hx hn9 hc) had2∧(∀ q,had.getD q false=true→had2.getD q false=true)∧had2.length≤140000*(k+2)∧(x.out≠noB→Po.decAck adt.data.toList=some (x.host,x.next,x.next+x.many)→∀ q,x.next.toNat≤q→q<x.next.toNat+x.many.toNat→had2.getD q false=true)∧(∀ W,Keeps K2 u1 W→W.cell? ⟨qx,13,none⟩=some (.string adt)):=fun hne =>
  ⟨K1,had,HN3.out,HM3.out,fun _ e => e,by have:=HI2.out.len;omega,fun e1 e2 => absurd ⟨e1,e2⟩ hne,fun W hW => (hW.cell (p:=⟨qx,13,none⟩) HQX.out.2.1 fun e => e HQX.out.1).trans HKC.out⟩
 have HSM:=Lib.hid hsame
 clear hsame
 rcases HDA.out with ⟨rfl,hd⟩ | ⟨her,hd⟩
 case inr =>
  have her2:(er == 0)=false:=beq_eq_false_iff_ne.2 her
  have HSM2:=Lib.hid (HSM.out fun e => by rw [hd] at e;cases e.2)
  clear hd her HSM HDA
  go_wp2_with fail
  all_goals first | exact hQ _ _ _ _ _ _ _ _ _ _ _ _ _ _ _ _ _ _ _ _ _ _ _ _ _ _ _ _ _ _ _ _ _ _ _ _ _ _ _ _ _ _ _ _ _ _ _ _ _ _ _ _ _ _ _ _ _ _ _ _ _ _ _ _ _ _ _ _ _ _ _ _ _ _ _ _ _ _ _ _ _ _ _ _ _ _ _ _ _ _ _ _ _ _ _ _ _ _ _ _ _ _ _ _ _ _ _ _ _ _ _ _ _ _ _ _ _ _ _ _ _ _ _ _ _ _ _ _ _ _ _ _ _ _ _ _ _ _ _ _ _ _ _ _ _ _ _ _ _ _ _ _ _ _ _ _ _ _ _ _ _ _ _ _ _ _ _ _ _ _ _ _ _ _ _ _ _ _ _ _ _ _ _ _ _ _ _ _ _ _ _ _ _ _ _ _ _ _ _ _ _ _ _ _ _ _ _ _ _ _ _ _ _ _ _ _ _ _ _ _ _ HSM2.out | exact HSM2.out
 case inl =>
 have HD:=Lib.hid hd
 clear hd HDA
 have hwx:=HN3.out.waiting
 by_cases hxo:x.out=noB
 case pos =>
  have HSM2:=Lib.hid (HSM.out fun e => e.1 hxo)
  rw [hxo,noB_is] at hwx
  have HWX:=Lib.hid hwx
  clear hwx hxo HSM
  go_wp2_with fail
  refine HWX.out.mono ?_
  rintro e y3 ⟨rfl,rfl⟩
  go_wp2_with fail
  all_goals first | exact hQ _ _ _ _ _ _ _ _ _ _ _ _ _ _ _ _ _ _ _ _ _ _ _ _ _ _ _ _ _ _ _ _ _ _ _ _ _ _ _ _ _ _ _ _ _ _ _ _ _ _ _ _ _ _ _ _ _ _ _ _ _ _ _ _ _ _ _ _ _ _ _ _ _ _ _ _ _ _ _ _ _ _ _ _ _ _ _ _ _ _ _ _ _ _ _ _ _ _ _ _ _ _ _ _ _ _ _ _ _ _ _ _ _ _ _ _ _ _ _ _ _ _ _ _ _ _ _ _ _ _ _ _ _ _ _ _ _ _ _ _ _ _ _ _ _ _ _ _ _ _ _ _ _ _ _ _ _ _ _ _ _ _ _ _ _ _ _ _ _ _ _ _ _ _ _ _ _ _ _ _ _ _ _ _ _ _ _ _ _ _ _ _ _ _ _ _ _ _ _ _ _ _ _ _ _ _ _ _ _ _ _ _ _ _ _ _ _ _ _ _ _ HSM2.out | exact HSM2.out
 case neg =>
 have hem:x.out.toList.isEmpty=false:=by
  cases hq:x.out.toList.isEmpty with
  | true => exact absurd (noB_of hq) hxo
  | false => rfl
 rw [hem] at hwx
 have HWX:=Lib.hid hwx
 have hmm:(M:Int)=x.many:=HI2.out.mny.elim (fun e => absurd e hxo) id
 have HMM:=Lib.hid hmm
 clear hwx hem hmm
 by_cases heq:ho=1∧fi=N∧nx=(N:Int)+M
 case neg =>
  have HSM2:=Lib.hid (HSM.out fun e => heq (by
   have e2:=e.2
   rw [HD.out,HI2.out.host,HNX.out,← HMM.out] at e2
   injection e2 with e2
   injection e2 with e3 e4
   injection e4 with e4 e5
   exact ⟨e3,e4,e5⟩))
  have hcs:ho≠1∨(ho=1∧fi≠N)∨(ho=1∧fi=N∧nx≠(N:Int)+M):=by omega
  clear heq HSM
  go_wp2_with fail
  refine HWX.out.mono ?_
  rintro e y3 ⟨rfl,rfl⟩
  go_wp2_with fail
  all_goals first | exact hQ _ _ _ _ _ _ _ _ _ _ _ _ _ _ _ _ _ _ _ _ _ _ _ _ _ _ _ _ _ _ _ _ _ _ _ _ _ _ _ _ _ _ _ _ _ _ _ _ _ _ _ _ _ _ _ _ _ _ _ _ _ _ _ _ _ _ _ _ _ _ _ _ _ _ _ _ _ _ _ _ _ _ _ _ _ _ _ _ _ _ _ _ _ _ _ _ _ _ _ _ _ _ _ _ _ _ _ _ _ _ _ _ _ _ _ _ _ _ _ _ _ _ _ _ _ _ _ _ _ _ _ _ _ _ _ _ _ _ _ _ _ _ _ _ _ _ _ _ _ _ _ _ _ _ _ _ _ _ _ _ _ _ _ _ _ _ _ _ _ _ _ _ _ _ _ _ _ _ _ _ _ _ _ _ _ _ _ _ _ _ _ _ _ _ _ _ _ _ _ _ _ _ _ _ _ _ _ _ _ _ _ _ _ _ _ _ _ _ _ _ _ HSM2.out | exact HSM2.out
 case pos =>
  obtain ⟨rfl,rfl,rfl⟩:=heq
  have hsu9:(N:Int)+M≤140000*(k+1):=by
   rcases HI2.out.node.out with ⟨e,_⟩ | ⟨ss,_,e2,_,_,_,e6⟩
   · exact absurd e hxo
   · have h7:=sureOf_le h.l s
     have h8:=HI2.out.next
     have h9:=HMM.out
     rw [HNX.out] at e6
     omega
  have hbh:had.length≤30000000:=by have:=HI2.out.len;omega
  have hmk:=marked_any HM3.out.row HN3.out.base.size (by omega) N (N+M) (by omega) (by omega)
  rw [Int.natCast_add] at hmk
  have HMK:=Lib.hid hmk
  have HSU:=Lib.hid hsu9
  clear hmk hsu9 hbh HSM hxo
  go_wp2_with fail
  refine HWX.out.mono ?_
  rintro e y3 ⟨rfl,rfl⟩
  go_wp2_with fail
  refine HMK.out.mono ?_
  rintro e y6 ⟨u6,rfl,ho6,hu6,hc6⟩
  have HM6:=Lib.hid (HM3.out.marked HN3.out.jlt HN3.out.base.size ho6 hu6 hc6)
  have HN6:=Lib.hid (HN3.out.rowAdd hc6 HM3.out.rowS)
  have HC6:=Lib.hid hc6
  clear ho6 hu6 hc6 HMK
  go_wp2_with fail
  have hfin:∃ K2 had2,NE w1 y6 K2 jn bd j jx d1 h x∧CrM w1 y6 K2 jn qc N G u6 had2∧(∀ q,had.getD q false=true→had2.getD q false=true)∧had2.length≤140000*(k+2)∧(x.out≠noB→Po.decAck adt.data.toList=some (x.host,x.next,x.next+x.many)→∀ q,x.next.toNat≤q→q<x.next.toNat+x.many.toNat→had2.getD q false=true)∧(∀ W,Keeps K2 y6 W→W.cell? ⟨qx,13,none⟩=some (.string adt)):=by
   refine ⟨_,_,HN6.out,HM6.out,markN_more had N (N+M),by rw [markN_len];have:=HI2.out.len;have:=HSU.out;omega,fun _ _ i h5 h6 => ?_,fun W hW => ?_⟩
   · rw [HNX.out] at h5 h6
     have:=HMM.out
     rw [markN_get,if_pos (by omega)]
   · exact (hW.cell (p:=⟨qx,13,none⟩) (Nat.lt_of_lt_of_le HQX.out.2.1 HC6.out.size) fun e => e (.inl HQX.out.1)).trans ((HC6.out.cell (p:=⟨qx,13,none⟩) HQX.out.2.1 fun e => HQX.out.2.2 _ e rfl).trans HKC.out)
  first | exact hQ _ _ _ _ _ _ _ _ _ _ _ _ _ _ _ _ _ _ _ _ _ _ _ _ _ _ _ _ _ _ _ _ _ _ _ _ _ _ _ _ _ _ _ _ _ _ _ _ _ _ _ _ _ _ _ _ _ _ _ _ _ _ _ _ _ _ _ _ _ _ _ _ _ _ _ _ _ _ _ _ _ _ _ _ _ _ _ _ _ _ _ _ _ _ _ _ _ _ _ _ _ _ _ _ _ _ _ _ _ _ _ _ _ _ _ _ _ _ _ _ _ _ _ _ _ _ _ _ _ _ _ _ _ _ _ _ _ _ _ _ _ _ _ _ _ _ _ _ _ _ _ _ _ _ _ _ _ _ _ _ _ _ _ _ _ _ _ _ _ _ _ _ _ _ _ _ _ _ _ _ _ _ _ _ _ _ _ _ _ _ _ _ _ _ _ _ _ _ _ _ _ _ _ _ _ _ _ _ _ _ _ _ _ _ _ _ _ _ _ _ _ hfin | exact hfin
end Go.Proofs.YtdacanghbepjpaaGreatDoor
namespace Go.Proofs.YtdacanghbepjpaaGreatDoor
set_option linter.unusedSimpArgs false
set_option linter.unusedVariables false
set_option maxRecDepth 100000
open Go.RowKit Go.Maps
open Dsk
set_option maxHeartbeats 32000000 in
theorem cr_eight {Q:Exit→Act→World→Prop} {w1 u1:World} {K1:Nat→Prop} {jn bd j jx qc qx hn9 hc n un kn c0 c1 c2 k M N an:Nat} {G now:Int} {hx x0 x1 x2:Option Addr} {d1:Dk} {h:Hl} {s:Nat} {x:Dm} {had:List Bool}
  (HE1:Hid (LEnv w1)) (HN3:Hid (NE w1 u1 K1 jn bd j jx d1 h x)) (HI2:Hid (CrI d1 h s x had M k)) (HM3:Hid (CrM w1 u1 K1 jn qc N G (.slice hx hn9 hc) had)) (HNX:Hid (x.next=(N:Int))) (HGP:Hid (x.gap=G)) (hx1:0≤x.sent) (hx2:x.sent≤now) (hnow1:0≤now) (hnow2:now≤4*k) (hk150:k≤150)
  (hbN:N≤30000000) (hbM:M≤8) {adt:ByteArray} (HAD:Hid (adt.size≤maxLen)) (HQX:Hid (K1 qx∧qx<u1.heap.size∧∀ q,(Value.slice hx hn9 hc).ownBlock=some q→q≠qx)) (HKC:Hid (u1.cell? ⟨qx,13,none⟩=some (.string adt))) {A0 A1 A2 A3 Ab Ac Ad Ae Af Ag Ah Ai Aj Ak Al Am An Ao Ap Aq Ar As At Au Av Aw Ax Ay Az B0 B1 B2 B3 B4 B5 B6 B7 B8 B9 Ba Bb Bc Bd Be Bf Bg Bh Bi Bj Bk Bl Bm Bn Bo Bp Bq Br Bs Bt Bu Bv Bw Bx By Bz C0 C1 C2 C3 C4 C5 C6 C7 C8 C9 Ca Cb Cc Cd Ce Cf Cg Ch Ci Cj Ck Cl Cm Cn Co Cp Cq Cr Cs Ct Cu Cv Cw Cx Cy Cz E0 E1 E2 E3 E4 E5 E6 E7 E8 E9 Ea Eb Ec Ed Ee Ef Eg Eh Ei Ej Ek El Em En Eo Ep Eq Er Es Et Eu Ev Ew Ex Ey Ez F0 F1 F2 F3 F4 F5 F6 F7 F8 F9 Fa Fb Fc Fd Fe Ff Fg Fh Fi Fj Fk Fl Fm Fn Fo Fp Fq Fr Fs Ft Fu Fv Fw Fx Fy Fz I0 I1 I2 I3 I4 I5 I6 I7 I8 I9 Ia Ib Ic Id Ie If Ig Ih Ii Ij Ik Il Im In Io Ip Iq Ir Is It Iu Iv Iw Ix Iy Iz J0 J1 J2 J3 J4 J5 J6 J7 J8 J9 Ja Jb Jc Jd Je Jf Jg Jh Ji Jj Jk Jl Jm Jn Jo Jp Jq Jr Js Jt Ju Jv Jw Jx Jy Jz:Value}
  (hP:∀ c (a:Act) o v w,Q (.panic c) (a.put o v) w→Q (.panic c) a w) (hQ:∀ (O1 O2 O3 O4 O5 O6 O7 O8 O9 Oa Ob Oc Oy Oz R0 R1 R2 R3 R4 R5 R6 R7 R8 R9 Ra Rb Rc Rd Re Rf Rg Rh Ri Rj Rk Rl Rm Rn Ro Rp Rq Rr Rs Rt Ru Rv Rw Rx Ry Rz S0 S1 S2 S3 S4 S5 S6 S7 S9 Sa Sb Sc Sd Se Sf Sg Sh Si Sj Sk Sl Sm Sn So Sp Sq Sr Ss St Su Sv Sw Sx Sy Sz T0 T1 T2 T3 T4 T5 T6 T7 Ta Tb Tc Td Te Tf Tg Th Ti Tj Tk Tl Tm Tn To Tp Tq Tr Ts Tt Tu Tv Tw Tx Ty Tz V0 V1 V2 V3 V4 V5 V6 V7 V8 V9 Va Vb Vc Vd Ve Vf Vg Vh Vi Vj Vk Vl Vm Vn Vo Vp Vq Vr Vs Vt Vu Vv Vw Vx Vy Vz X0 X1 X2 X3 X4 X5 X6 X7 X8 X9 Xa Xb Xc Xd Xe Xf Xg Xh Xi Xj Xk Xl Xm Xn Xo Xp Xq Xr Xs Xt Xu Xv Xw Xx Xy Xz Y0 Y1 Y2 Y3 Y4 Y5 Y6 Y7 Y8 Y9 Ya Yb Yc Yd Ye Yf Yg Yh Yi Yj Yk Yl Ym Yn Yo Yp Yq Yr:Value) (v8:Value) (many2 now2:Int) (wx:World),0≤now2→now2≤4*(k+1)→(CrUp w1 wx jn bd qc N G v8 many2 now2 (k+1)∨CrDn w1 wx jn bd qc N G v8 (k+1))→Q .normal ⟨List.toArray ((.slice x0 n c0)::(.slice x1 un c1)::(.slice x2 kn c2)::A0::A1::A2::A3::(.pointer (some ⟨jn,0,none⟩))::(v8)::(.int .i64 now2)::(.int .i64 many2)::(.pointer (some ⟨qc,0,none⟩))::(.int .i64 (k:Int))::(.pointer (some ⟨qx,0,none⟩))::O1::O2::O3::O4::O5::O6::O7::O8::O9::Oa::Ob::Oc::An::Ao::Ap::Aq::Ar::As::At::Au::Av::Aw::Ax::Ay::Az::B0::B1::B2::B3::B4::B5::B6::B7::Oy::Oz::R0::R1::R2::R3::R4::R5::R6::R7::R8::R9::Ra::Rb::Rc::Rd::Re::Rf::Rg::Rh::Ri::Rj::Rk::Rl::Rm::Rn::Ro::Rp::Rq::Rr::Rs::Rt::Ru::Rv::Rw::Rx::Ry::Rz::S0::S1::S2::S3::S4::S5::S6::S7::S9::Sa::Sb::Sc::Sd::Se::Sf::Sg::Sh::Si::Sj::Sk::Sl::Sm::Sn::So::Sp::Sq::Sr::Ss::St::Su::Sv::Sw::Sx::Sy::Sz::T0::T1::T2::T3::T4::T5::T6::T7::Ta::Tb::Tc::Td::Te::Tf::Tg::Th::Ti::Tj::Tk::Tl::Tm::Tn::To::Tp::Tq::Tr::Ts::Tt::Tu::Tv::Tw::Tx::Ty::Tz::V0::V1::V2::V3::V4::V5::V6::V7::V8::V9::Va::Vb::Vc::Vd::Ve::Vf::Vg::Vh::Vi::Vj::Vk::Vl::Vm::Vn::Vo::Vp::Vq::Vr::Vs::Vt::Vu::Vv::Vw::Vx::Vy::Vz::X0::X1::X2::X3::X4::X5::X6::X7::X8::X9::Xa::Xb::Xc::Xd::Xe::Xf::Xg::Xh::Xi::Xj::Xk::Xl::Xm::Xn::Xo::Xp::Xq::Xr::Xs::Xt::Xu::Xv::Xw::Xx::Xy::Xz::Y0::Y1::Y2::Y3::Y4::Y5::Y6::Y7::Y8::Y9::Ya::Yb::Yc::Yd::Ye::Yf::Yg::Yh::Yi::Yj::Yk::Yl::Ym::Yn::Yo::Yp::Yq::Yr::Jz::[]),[]⟩ wx) :
  Code.wp Tryz.prog (crC [1,1,1,1,1,1,1,0,1,4,4,1,0,4,1,1,0,1,2,1,4,1,3,1,2]) Q ⟨List.toArray ((.slice x0 n c0)::(.slice x1 un c1)::(.slice x2 kn c2)::A0::A1::A2::A3::(.pointer (some ⟨jn,0,none⟩))::(.slice hx hn9 hc)::(.int .i64 now)::(.int .i64 M)::(.pointer (some ⟨qc,0,none⟩))::(.int .i64 (k:Int))::(.pointer (some ⟨qx,0,none⟩))::Ab::Ac::Ad::Ae::Af::Ag::Ah::Ai::Aj::Ak::Al::Am::An::Ao::Ap::Aq::Ar::As::At::Au::Av::Aw::Ax::Ay::Az::B0::B1::B2::B3::B4::B5::B6::B7::B8::B9::Ba::Bb::Bc::Bd::Be::Bf::Bg::Bh::Bi::Bj::Bk::Bl::Bm::Bn::Bo::Bp::Bq::Br::Bs::Bt::Bu::Bv::Bw::Bx::By::Bz::C0::C1::C2::C3::C4::C5::C6::C7::C8::C9::Ca::Cb::Cc::Cd::Ce::Cf::Cg::Ch::Ci::Cj::Ck::Cl::Cm::Cn::Co::Cp::Cq::Cr::Cs::Ct::Cu::Cv::Cw::Cx::Cy::Cz::E0::E1::E2::E3::E4::E5::E6::E7::E8::E9::Ea::Eb::Ec::Ed::Ee::Ef::Eg::Eh::Ei::Ej::Ek::El::Em::En::Eo::Ep::Eq::Er::Es::Et::Eu::Ev::Ew::Ex::Ey::Ez::F0::F1::F2::F3::F4::F5::F6::F7::F8::F9::Fa::Fb::Fc::Fd::Fe::Ff::Fg::Fh::Fi::Fj::Fk::Fl::Fm::Fn::Fo::Fp::Fq::Fr::Fs::Ft::Fu::Fv::Fw::Fx::Fy::Fz::I0::I1::I2::I3::I4::I5::I6::I7::I8::I9::Ia::Ib::Ic::Id::Ie::If::Ig::Ih::Ii::Ij::Ik::Il::Im::In::Io::Ip::Iq::Ir::Is::It::Iu::Iv::Iw::Ix::Iy::Iz::J0::J1::J2::J3::J4::J5::J6::J7::J8::J9::Ja::Jb::Jc::Jd::Je::Jf::Jg::Jh::Ji::Jj::Jk::Jl::Jm::Jn::Jo::Jp::Jq::Jr::Js::Jt::Ju::Jv::Jw::Jx::Jy::Jz::[]),[]⟩ u1:=by
 obtain ⟨c0',c1',c2'⟩:=HN3.out.cells
 conv => arg 2;whnf
 have k13:=HKC.out
 have HDC:=Lib.hid (decAck_any adt HAD.out u1)
 refine wp_seq_k fun L0 hL0 => ?_
 have HL0:=Lib.hid hL0
 clear hL0
 obtain ⟨er,ho,fi,nx,hdv,hda⟩:∃ er ho fi nx:Int,decAckV adt.data.toList=.tuple #[.agg #[.int .i64 ho,.int .i64 fi,.int .i64 nx],.int .i64 er]∧((er=0∧Po.decAck adt.data.toList=some (ho,fi,nx))∨(er≠0∧Po.decAck adt.data.toList=none)):=by
  unfold decAckV ackV
  cases hq:Po.decAck adt.data.toList with
  | none => exact ⟨30,0,0,0,rfl,.inr ⟨by decide,rfl⟩⟩
  | some p => exact ⟨0,p.1,p.2.1,p.2.2,rfl,.inl ⟨rfl,rfl⟩⟩
 rw [hdv] at HDC
 have HDA:=Lib.hid hda
 clear hdv hda
 go_wp2_with fail
 refine HDC.out.mono ?_
 rintro e y2 ⟨rfl,hb2⟩
 obtain ⟨qa,hqa⟩:∃ q,q=y2.heap.size:=⟨_,rfl⟩
 obtain ⟨y3,hy3⟩:∃ y,y=y2.alloc (.cells #[.int .i64 ho,.int .i64 fi,.int .i64 nx] 51 (0,0)):=⟨_,rfl⟩
 have hb3:Below u1.heap.size u1 y3:=by rw [hy3];exact hb2.alloc hb2.size _
 have hk3:Blk y3 qa 51 #[.int .i64 ho,.int .i64 fi,.int .i64 nx]:=by rw [hy3,hqa];exact Blk.alloc_new y2 _ _
 have HY3:=Lib.hid hy3
 have HQA:=Lib.hid hqa
 have HB3:=Lib.hid hb3
 have HK3:=Lib.hid hk3
 clear hb2 hb3 hk3 hy3 hqa HDC
 go_wp2_with fail
 rw [← HY3.out,← HQA.out]
 refine HL0.out _ _ ?_
 refine wp_seq_k fun L1 hL1 => ?_
 refine cr_mark (Q:=Exit.then L1 Q) (Lib.hid (HN3.out.below HB3.out)) HI2 (Lib.hid (HM3.out.below HB3.out)) HNX hk150 hbN hbM HK3 HDA (Lib.hid ⟨HQX.out.1,Nat.lt_of_lt_of_le HQX.out.2.1 HB3.out.size,HQX.out.2.2⟩) (Lib.hid ((HB3.out.cell (p:=⟨qx,13,none⟩) HQX.out.2.1).trans HKC.out)) (fun c a o v w h => hP c a o v w h) ?_
 intro _ _ _ _ _ _ _ _ _ _ _ _ _ _ _ _ _ _ _ _ _ _ _ _ _ _ _ _ _ _ _ _ _ _ _ _ _ _ _ _ _ _ _ _ _ _ _ _ _ _ _ _ _ _ _ _ _ _ _ _ _ _ _ _ _ _ _ _ _ _ _ _ _ _ _ _ _ _ _ _ _ _ _ _ _ _ _ _ _ _ _ _ _ _ _ _ _ _ _ _ _ _ _ _ _ _ _ _ _ _ _ _ _ _ _ _ _ _ _ _ _ _ _ _ _ _ _ _ _ _ _ _ _ _ _ _ _ _ _ _ _ _ _ _ _ _ _ _ _ _ _ _ _ _ _ _ _ _ _ _ _ _ _ _ _ _ _ _ _ _ _ _ _ _ _ _ _ _ _ _ _ _ _ _ _ _ _ _ _ _ _ _ _ _ _ _ _ _ _ _ _ _ _ _ _ _ _ _ _ _ _ _ _ _ _ _ _ _ _ v8 wx hh
 obtain ⟨K2,had2,hn,hm,h1,h2,h3,h4⟩:=hh
 refine hL1 _ _ ?_
 refine cr_take (Lib.hid hn) HI2 (Lib.hid hm) HNX HGP hx1 hx2 hnow1 hnow2 hk150 (Lib.hid h1) (Lib.hid h2) (Lib.hid h3) HAD (Lib.hid h4) hP ?_
 intro _ _ _ _ _ _ _ _ _ _ _ _ _ _ _ _ _ _ _ _ _ _ _ _ _ _ _ _ _ _ _ _ _ _ _ _ _ _ _ _ _ _ _ _ _ _ _ _ _ _ _ _ _ _ _ _ _ _ _ _ _ _ _ _ _ _ _ _ _ _ _ _ _ _ _ _ _ _ _ _ _ _ _ _ _ _ _ _ _ _ _ _ _ _ _ _ _ _ _ _ _ _ _ _ _ _ _ _ _ _ _ _ _ _ _ _ _ _ _ _ _ _ _ _ _ _ _ _ _ _ _ _ _ _ _ _ _ _ _ _ _ _ _ _ _ _ _ _ _ _ _ _ _ _ _ _ _ _ _ _ _ _ _ _ _ _ _ _ _ _ _ _ _ _ _ _ _ _ _ _ _ _ _ _ _ _ _ _ _ _ _ _ _ _ _ _ _ _ _ _ _ _ _ _ _ _ _ _ _ _ _ _ _ _ _ _ _ _ _ z8 many2 now2 wx2 g1 g2 g3
 exact hQ _ _ _ _ _ _ _ _ _ _ _ _ _ _ _ _ _ _ _ _ _ _ _ _ _ _ _ _ _ _ _ _ _ _ _ _ _ _ _ _ _ _ _ _ _ _ _ _ _ _ _ _ _ _ _ _ _ _ _ _ _ _ _ _ _ _ _ _ _ _ _ _ _ _ _ _ _ _ _ _ _ _ _ _ _ _ _ _ _ _ _ _ _ _ _ _ _ _ _ _ _ _ _ _ _ _ _ _ _ _ _ _ _ _ _ _ _ _ _ _ _ _ _ _ _ _ _ _ _ _ _ _ _ _ _ _ _ _ _ _ _ _ _ _ _ _ _ _ _ _ _ _ _ _ _ _ _ _ _ _ _ _ _ _ _ _ _ _ _ _ _ _ _ _ _ _ _ _ _ _ _ _ _ _ _ _ _ _ _ _ _ _ _ _ _ _ _ _ _ _ _ _ _ _ _ _ _ _ _ _ _ _ _ _ _ _ _ _ _ z8 many2 now2 wx2 g1 g2 g3
end Go.Proofs.YtdacanghbepjpaaGreatDoor
