/- Behind each new beginning of a host its log has all that was sure, its cursor is no less, and its clock goes on: walked. -/
import Derived.Test.YtdacanghbepjpaaGreatDoorQ5
import Derived.Test.YtdacanghbepjpaaGreatDoorQ6
import Derived.Deep.DeepCutAuto
import Derived.Deep.CutBlock
namespace Go.Proofs.YtdacanghbepjpaaGreatDoor
set_option linter.unusedSimpArgs false
set_option linter.unusedVariables false
set_option maxRecDepth 100000
open Go.RowKit Go.Maps
open Dsk
def QC (qc:Nat):Nat→Prop:=fun k => k=qc
def SuW (w0 w:World) (jh qc:Nat) (v5 v6:Value) (k:Nat):Prop :=
 ∃ bd j jx o s,HE w0 w (QC qc) jh bd j jx o∧Blk w qc 30 #[.int .i64 o.x.next,.int .i64 o.x.gap]∧w0.heap.size≤qc∧HoB o 1048576 (2*k)∧o.up=true∧HoI o.d o.h s o.x o.id 1048576 (2*k)∧o.id=1∧v5=.int .i64 (sureOf o.h.l s:Nat)∧v6=.int .i64 o.now
def SuM (w0 w:World) (jh qc:Nat) (su:Nat) (nx gp now:Int) (k:Nat):Prop :=
 ∃ bd j jx o s,HE w0 w (QC qc) jh bd j jx o∧Blk w qc 30 #[.int .i64 nx,.int .i64 gp]∧w0.heap.size≤qc∧HoB o 1048576 (2*(k+1))∧o.up=true∧HoI o.d o.h s o.x o.id 1048576 (2*(k+1))∧o.id=1∧su≤sureOf o.h.l s∧nx≤o.x.next∧gp≤o.x.gap∧now≤o.now
theorem SuW.next {w0 w:World} {jh qc k:Nat} {v5 v6:Value} (h:SuW w0 w jh qc v5 v6 k):SuW w0 w jh qc v5 v6 (k+1):=by
 obtain ⟨bd,j,jx,o,s,h1,h2,h3,h4,h5,h6,h7,h8,h9⟩:=h
 exact ⟨bd,j,jx,o,s,h1,h2,h3,h4.later.later,h5,h6.later.later,h7,h8,h9⟩
set_option maxHeartbeats 32000000 in
theorem walkHostsSure (xs:Value×List OAct) (w:World) (h1:OActsIn w xs) (he:LEnv w) :
  Calls Tryz.prog 9 #[xs.1] w fun e w' => e=.returned (.bool true)∧Below w.heap.size w w':=by
 obtain ⟨v,l⟩:=xs
 obtain ⟨hrd,hlm⟩:=h1
 simp only at hrd hlm ⊢
 have HE0:=Lib.hid he
 have HBY:=Lib.hid (beyond_oacts v l w hrd hlm 100 (by decide))
 have HRD:=Lib.hid (fun (W:World) (hW:Below w.heap.size w W) => hrd.below hW)
 obtain ⟨n,hn⟩:∃ n,n=l.length:=⟨_,rfl⟩
 have hc100:((100:Nat):Int)=100:=rfl
 rw [hc100] at HBY
 obtain ⟨x0,c0,hv,_⟩:=id hrd
 rw [← hn] at hv hlm
 subst hv
 have HN:=Lib.hid hn
 unfold maxLen at hlm
 clear hn hrd he hc100
 go_enter Tryz.func9,Tryz.ntmps9
 go_wp2_with fail
 refine HBY.out.mono ?_
 rintro e w1 ⟨⟨b,rfl,hb100⟩,hb1⟩
 have HB1:=Lib.hid hb1
 clear hb1 HBY
 by_cases hb:b=1
 case pos =>
  subst hb
  go_wp2_with fail
  refine (lives_h _ (HE0.out.below HB1.out)).mono ?_
  rintro e w2 ⟨rfl,hb2⟩
  have HB2:=Lib.hid (HB1.out.trans (hb2.mono HB1.out.size))
  clear hb2
  go_wp2_with fail
  go_ret
  exact ⟨rfl,HB2.out⟩
 case neg =>
 have hbb:(b == 1)=false:=beq_eq_false_iff_ne.2 hb
 obtain ⟨hl100,hk20⟩:=hb100 hb
 have hn100:n≤100:=by rw [HN.out];exact hl100
 have HK20:=Lib.hid hk20
 have HE1:=Lib.hid (HE0.out.below HB1.out)
 have hnew:=ho_new 1 ⟨by decide,by decide⟩ 1048576 (by decide) (by decide) w1 (w0:=w1) (Below.refl _ _)
 have hcst:((1048576:Nat):Int)=1048576:=rfl
 rw [hcst] at hnew
 have HNEW:=Lib.hid hnew
 clear hb hb100 hl100 hk20 hnew hcst
 go_wp2_with fail
 refine HNEW.out.mono ?_
 rintro e w2 ⟨jh,rfl,bd,j,jx,hn2,hb2⟩
 obtain ⟨qc,hqc⟩:∃ q,q=w2.heap.size:=⟨_,rfl⟩
 obtain ⟨w4,hw4⟩:∃ y,y=w2.alloc (.cells #[.int .i64 0,.int .i64 0] 30 (0,0)):=⟨_,rfl⟩
 have hb4:Below w2.heap.size w2 w4:=by rw [hw4];exact (Below.refl _ _).alloc (Nat.le_refl _) _
 have hk4:Blk w4 qc 30 #[.int .i64 0,.int .i64 0]:=by rw [hw4,hqc];exact Blk.alloc_new w2 _ _
 have HW4:=Lib.hid hw4
 have HQC:=Lib.hid hqc
 have n0:=NodeC.new 1 (by decide) (c:=1048576) (by decide) (by decide)
 have HST:=Lib.hid (show SuW w1 w4 jh qc (.int .i64 0) (.int .i64 0) 0 from
  ⟨bd,j,jx,_,0,(hn2.add hb4).drop fun k e => .inr ⟨by have:k=qc:=e;omega,by have:k=qc:=e;rw [this];exact hk4.lt⟩,hk4,by have:=hb2.size;omega,⟨⟨Int.le_refl _,Int.le_refl _⟩,⟨Int.le_refl _,Int.le_refl _⟩,⟨by decide,by decide⟩,.inl ⟨rfl,⟨0,n0.hoI rfl⟩,Int.le_refl _,Int.le_refl _⟩⟩,rfl,n0.hoI rfl,rfl,rfl,rfl⟩)
 clear hn2 hb2 hb4 hk4 hw4 hqc HNEW n0
 go_wp2_with fail
 rw [← HW4.out,← HQC.out]
 go_loopg [5,6,8] n (fun g v5 v6 v8 wr => ∃ (k:Nat),v8=.int .i64 k∧k≤n∧g=n-k∧SuW w1 wr jh qc v5 v6 k)
 case atStart => exact ⟨0,rfl,by omega,by omega,HST.out⟩
 case round =>
  obtain ⟨k,rfl,hk,rfl,hst⟩:=hrel
  clear HST
  by_cases hlt:k<n
  case neg =>
   obtain rfl:k=n:=by omega
   have hge:¬ (k:Int)<k:=by omega
   obtain ⟨bd,j,jx,o,s,hhe,_,_,_,_,_,_,rfl,rfl⟩:=hst
   have HL:=Lib.hid hhe.base
   clear hhe hlt
   go_wp2_with fail
   refine (lives_h _ (HE1.out.below HL.out)).mono ?_
   rintro e z1 ⟨rfl,hz1⟩
   have HL1:=Lib.hid (HL.out.trans (hz1.mono HL.out.size))
   clear hz1
   go_wp2_with fail
   go_ret
   exact ⟨rfl,HB1.out.trans (HL1.out.mono HB1.out.size)⟩
  case pos =>
  have hlt2:(k:Int)<n:=by omega
  have HSW:=Lib.hid hst
  obtain ⟨bd,j,jx,o,s,hhe,hbk,hqn,hob,hup,hoi,hid,rfl,rfl⟩:=hst
  have hwr:Below w.heap.size w wr:=HB1.out.trans (hhe.base.mono HB1.out.size)
  obtain ⟨x9,c9,hv9,hel⟩:=HRD.out wr hwr
  rw [← HN.out] at hv9
  obtain ⟨rfl,rfl⟩:x0=x9∧c0=c9:=by injection hv9 with e1 e2 e3;exact ⟨e1,e3⟩
  obtain ⟨ho,bb,off,rfl,_,hcc⟩:=hel k (by rw [← HN.out];exact hlt)
  obtain ⟨a,ha⟩:∃ a,a=l[k]'(by rw [← HN.out];exact hlt):=⟨_,rfl⟩
  have hak:a.keep.length≤20:=by rw [ha];exact HK20.out k _
  rw [← ha] at ho hcc
  obtain ⟨k0,k1,k2,k3,k4,k5,k6,k7,k8,k9,k10,k11,k12,k13,k14,k15,k16⟩:=oact_load (b:=bb) (off:=off+k*17) (a:=a) (fun i hi => by rw [Nat.add_assoc];exact hcc i hi)
  have HMA:=Lib.hid (mayK_any a.kind wr)
  obtain ⟨su,hsu⟩:∃ su,su=sureOf o.h.l s:=⟨_,rfl⟩
  rw [← hsu] at HSW ⊢
  by_cases hmk:mayB a.kind=true
  case neg =>
   rw [Bool.not_eq_true] at hmk
   rw [hmk] at HMA
   have HNX:=Lib.hid HSW.out.next
   clear hhe hbk hqn hob hup hoi hid hwr hv9 hel ho hcc ha hak hmk k1 k2 k3 k4 k5 k6 k7 k8 k9 k10 k11 k12 k13 k14 k15 k16 hsu HSW
   go_wp2_with fail
   refine HMA.out.mono ?_
   rintro e y1 ⟨rfl,rfl⟩
   clear HMA
   go_wp2_with fail
   go_roundg (n-(k+1))
   case measure => omega
   case rel => exact ⟨k+1,by go_num,by omega,rfl,HNX.out⟩
  case pos =>
  rw [hmk] at HMA
  obtain ⟨R,hR,rid,rb,rn,rcs⟩:=sure_act (a:=a) hob (by omega) (by omega) hup hoi (by omega)
  have hB:w.heap.size≤w1.heap.size:=HB1.out.size
  have hdo:=does_all a hhe HE1.out hob (by omega) (by omega) ho hB (by omega) ((mayB_iff _).1 hmk) hR
  rw [hid] at hdo
  have HDO:=Lib.hid hdo
  have HRC:=Lib.hid rcs
  have HRB:=Lib.hid rb
  have HRI:=Lib.hid (show R.2.id=1 from rid.trans hid)
  have HRN:=Lib.hid rn
  have HBK:=Lib.hid hbk
  have HQN:=Lib.hid hqn
  have HSU:=Lib.hid hsu
  obtain ⟨now,hno⟩:∃ now,now=o.now:=⟨_,rfl⟩
  obtain ⟨nx,hnx⟩:∃ nx,nx=o.x.next:=⟨_,rfl⟩
  obtain ⟨gp,hgp⟩:∃ gp,gp=o.x.gap:=⟨_,rfl⟩
  rw [← hno] at HRN ⊢
  rw [← hnx,← hgp] at HBK
  have HNG:=Lib.hid (And.intro hnx hgp)
  have HID:=Lib.hid hob.id
  clear hhe hbk hqn hob hup hoi hid hwr hv9 hel hcc ha hak hmk hsu hno hnx hgp hR rid rb rn rcs hB hdo HSW
  obtain ⟨kx,kc,hkv,_⟩:=id ho.kv
  obtain ⟨kl,hkl⟩:∃ kl,kl=a.keep.length:=⟨_,rfl⟩
  rw [← hkl] at hkv
  rw [hkv] at k11
  have HOK:=Lib.hid ho
  unfold oactC at HDO
  rw [hkv] at HDO
  obtain ⟨kd,nd,nn,⟨zt,zi,zp,zs,zh,za,zd,zn⟩,kv,keep,own,ah,af,an,adt⟩:=a
  simp only at k0 k1 k2 k3 k4 k5 k6 k7 k8 k9 k10 k11 k12 k13 k14 k15 k16 HMA HDO
  clear ho hkv hkl HOK
  go_wp2_with fail
  refine HMA.out.mono ?_
  rintro e y1 ⟨rfl,rfl⟩
  clear HMA
  go_wp2_with fail
  refine HDO.out.mono ?_
  rintro e y2 ⟨u,bd2,j2,jx2,rfl,_,hn2,hk2⟩
  have hn2':HE w1 y2 (QC qc) jh bd2 j2 jx2 R.2:=hn2.drop fun k e => .inl e
  have hbk2:=HBK.out.chg hk2 fun e => e rfl
  have HN2:=Lib.hid hn2'
  have HBK2:=Lib.hid hbk2
  have HUP:=Lib.hid (ho_up hn2')
  clear hn2 hk2 hn2' hbk2 HDO HBK k0 k1 k2 k3 k4 k5 k6 k7 k8 k9 k10 k11 k12 k13 k14 k15 k16
  go_upto_region 13 with fail
  go_cut [49] (fun v49 wx => v49=.bool false∧SuM w1 wx jh qc su nx gp now k)
  case first =>
   rcases HRC.out with ⟨ru,s',i',m⟩ | ⟨ru,iD⟩
   case inl =>
    rw [ru] at HUP
    have HSM:=Lib.hid (show SuM w1 y2 jh qc su nx gp now k from ⟨bd2,j2,jx2,R.2,s',HN2.out,HBK2.out,HQN.out,by have:=HRB.out.later;exact this,ru,i'.later,HRI.out,by rw [HSU.out];exact m.sure,by rw [HNG.out.1];exact m.next,by rw [HNG.out.2];exact m.gap,HRN.out⟩)
    clear ru i' m HRC HRB HN2 HBK2
    go_wp2_with fail
    refine HUP.out.mono ?_
    rintro e y3 ⟨rfl,rfl⟩
    clear HUP
    go_wp2_with fail
    go_meet
    exact ⟨rfl,HSM.out⟩
   case inr =>
    rw [ru] at HUP
    obtain ⟨o',l',t',dr',d3',s3',A,b',i',u',id',m',now',ref',_,_⟩:=HoD.begins iD (by omega) (by omega) HRB.out.now HRB.out.ref HRB.out.id
    have hrs:=ho_restart HN2.out HE1.out ru A.off A.start A.on A.files A.next A.opened A.dOff A.load HRB.out.id
    rw [← A.is] at hrs
    have HRS:=Lib.hid hrs
    have HPL:=Lib.hid (show HoB o' 1048576 (2*(k+1))∧HoI o'.d o'.h s3' o'.x o'.id 1048576 (2*(k+1))∧o'.up=true∧o'.id=1∧su≤sureOf o'.h.l s3'∧nx≤o'.x.next∧gp≤o'.x.gap∧now≤o'.now from ⟨b',i',u',id'.trans HRI.out,by rw [HSU.out];exact m'.sure,by rw [HNG.out.1];exact m'.next,by rw [HNG.out.2];exact m'.gap,by rw [now'];exact HRN.out⟩)
    clear ru iD A b' i' u' id' m' now' ref' hrs HRC HRB
    go_wp2_with fail
    refine HUP.out.mono ?_
    rintro e y3 ⟨rfl,rfl⟩
    clear HUP
    go_wp2_with fail
    refine HRS.out.mono ?_
    rintro e y4 ⟨rfl,j4,jx4,hn4,hk4⟩
    have HSM:=Lib.hid (show SuM w1 y4 jh qc su nx gp now k from ⟨bd2,j4,jx4,o',s3',hn4,HBK2.out.chg hk4 fun e => e rfl,HQN.out,HPL.out.1,HPL.out.2.2.1,HPL.out.2.1,HPL.out.2.2.2.1,HPL.out.2.2.2.2⟩)
    clear hn4 hk4 HRS HPL HN2 HBK2
    go_wp2_with fail
    go_meet
    exact ⟨rfl,HSM.out⟩
  case rest =>
   obtain ⟨rfl,hsm⟩:=hcut
   obtain ⟨u3,hu3⟩:∃ u3,u3=wc:=⟨_,rfl⟩
   subst hu3
   obtain ⟨bd3,j3,jx3,o3,s3,hn3,hbk3,hqn3,hb3,hu3,hi3,hid3,m1,m2,m3,m4⟩:=hsm
   clear HRC HRB HRI HRN HN2 HBK2 HUP HSU HNG
   have hf3:=hi3.few (by omega) (by omega)
   have hlg:=ho_log_up hn3 hu3 HE1.out hf3
   obtain ⟨fi,hfi⟩:∃ q:Nat,q=firstOf o3.h.l:=⟨_,rfl⟩
   obtain ⟨s9,hs9⟩:∃ q:Nat,q=sureOf o3.h.l s3:=⟨_,rfl⟩
   obtain ⟨e9,he9⟩:∃ q:Nat,q=nextOf o3.h.l:=⟨_,rfl⟩
   obtain ⟨x9,hx9⟩:∃ q,q=o3.x.next:=⟨_,rfl⟩
   obtain ⟨g9,hg9⟩:∃ q,q=o3.x.gap:=⟨_,rfl⟩
   obtain ⟨n9,hn9⟩:∃ q,q=o3.now:=⟨_,rfl⟩
   have p1:¬ (s9:Int)<su:=by omega
   have p2:¬ (e9:Int)<s9:=by have:=sureOf_le o3.h.l s3;omega
   have p3:¬ x9<nx:=by omega
   have p4:¬ g9<gp:=by omega
   have p5:¬ x9>s9:=by have:=hi3.node.sure;omega
   have p6:¬ n9<now:=by omega
   have r1:decide ((s9:Int)<su)=false:=decide_eq_false p1
   have r2:decide ((e9:Int)<s9)=false:=decide_eq_false p2
   have r3:decide (x9<nx)=false:=decide_eq_false p3
   have r4:decide (g9<gp)=false:=decide_eq_false p4
   have r5:decide ((s9:Int)<x9)=false:=decide_eq_false p5
   have r6:decide (n9<now)=false:=decide_eq_false p6
   have t1:decide (s9<su)=false:=decide_eq_false (by omega)
   have t2:decide (e9<s9)=false:=decide_eq_false (by omega)
   rw [← hfi,← hs9,← he9] at hlg
   have HLG:=Lib.hid hlg
   have HN3:=Lib.hid hn3
   have HBK3:=Lib.hid hbk3
   have HCU:=Lib.hid (fun (W:World) (hW:Below u3.heap.size u3 W) => show Calls Tryz.prog 46 #[.pointer (some ⟨jh,0,none⟩)] W fun e w' => e=.returned (.agg #[.int .i64 x9,.int .i64 g9])∧Below W.heap.size W w' from by
    have:=ho_cursor (hn3.below hW)
    unfold curO at this
    rw [if_pos hu3] at this
    unfold curV at this
    rw [hx9,hg9]
    exact this)
   have HNO:=Lib.hid (fun (W:World) (hW:Below u3.heap.size u3 W) => show Calls Tryz.prog 50 #[.pointer (some ⟨jh,0,none⟩)] W fun e w' => e=.returned (.int .i64 n9)∧W=w' from by
    rw [hn9]
    exact ho_now (hn3.below hW))
   have HPL:=Lib.hid (And.intro hqn3 (And.intro hb3 (And.intro hu3 (And.intro hi3 hid3))))
   have HEQ:=Lib.hid (And.intro hs9 (And.intro hx9 (And.intro hg9 hn9)))
   clear hn3 hbk3 hqn3 hb3 hu3 hi3 hid3 m1 m2 m3 m4 hf3 hlg hfi hs9 he9 hx9 hg9 hn9
   go_wp2_with fail
   refine HLG.out.mono ?_
   rintro e y3 ⟨rfl,hb3⟩
   have HCU3:=Lib.hid (HCU.out y3 hb3)
   have HB3:=Lib.hid hb3
   clear hb3 HLG HCU
   go_wp2_with fail
   refine HCU3.out.mono ?_
   rintro e y4 ⟨rfl,hb4⟩
   have hb34:=HB3.out.trans (hb4.mono HB3.out.size)
   obtain ⟨qk,hqk⟩:∃ q,q=y4.heap.size:=⟨_,rfl⟩
   obtain ⟨y5,hy5⟩:∃ y,y=y4.alloc (.cells #[.int .i64 x9,.int .i64 g9] 30 (0,0)):=⟨_,rfl⟩
   have hk5:Blk y5 qk 30 #[.int .i64 x9,.int .i64 g9]:=by rw [hy5,hqk];exact Blk.alloc_new y4 _ _
   have hb5:Below u3.heap.size u3 y5:=by rw [hy5];exact hb34.alloc hb34.size _
   have HY5:=Lib.hid hy5
   have HQK:=Lib.hid hqk
   have HQS:=Lib.hid (show u3.heap.size≤qk by rw [hqk];exact hb34.size)
   have HB5:=Lib.hid hb5
   have HK5:=Lib.hid hk5
   have HNO5:=Lib.hid (HNO.out y5 hb5)
   have hc5:=HBK3.out.below hb5
   have q0:=hc5.cell 0
   have q1:=hc5.cell 1
   have g0:=hk5.cell 0
   have g1:=hk5.cell 1
   simp only [List.getElem?_toArray,List.getElem?_cons_zero,List.getElem?_cons_succ] at q0 q1 g0 g1
   clear hb4 hb34 hy5 hqk hk5 hb5 hc5 HCU3
   go_upto_region 17 with fail
   rw [← HY5.out]
   try rw [← HQK.out]
   go_wp2_with fail
   refine HNO5.out.mono ?_
   rintro e y6 ⟨rfl,rfl⟩
   obtain ⟨y7,hy7⟩:∃ y,y=y5.drew:=⟨_,rfl⟩
   have HY7:=Lib.hid (show Below y5.heap.size y5 y7 by rw [hy7];exact (Below.refl _ _).drew)
   have HB7:=Lib.hid (HB5.out.trans (HY7.out.mono HB5.out.size))
   have HNO7:=Lib.hid (HNO.out y7 HB7.out)
   have hT:y7.cell? ⟨qk,0,none⟩=some (.int .i64 x9)∧y7.cell? ⟨qk,1,none⟩=some (.int .i64 g9):=⟨(HK5.out.below HY7.out).cell 0,(HK5.out.below HY7.out).cell 1⟩
   have hS:True:=trivial
   clear HNO5 HNO q0 q1 g0 g1
   go_wp2_with fail
   refine wp_region_two (T:=fun W => W.cell? ⟨qk,0,none⟩=some (.int .i64 x9)∧W.cell? ⟨qk,1,none⟩=some (.int .i64 g9)) (S:=fun _ => True) (n:=99) (by kernel_rfl) ?_
   rw [← hy7]
   clear hy7
   refine tk 0 92 hT hS ?_
   refine tk 1 93 hT hS ?_
   try simp only [xq]
   refine tk 2 94 hT hS ?_
   try simp only [xq]
   refine two_one 3 rfl (by kernel_rfl) ?_
   intro K0 hK0
   go_simp
   refine HNO7.out.mono ?_
   rintro e y8 ⟨rfl,rfl⟩
   refine hK0.out _ _ hT (fun _ _ => hS) ?_
   clear hK0 K0
   try simp only [xq]
   clear HNO7
   refine tk 4 5 hT hS ?_
   try simp only [xq]
   have hb7':=HBK3.out.below HB7.out
   have q0:=hb7'.cell 0
   have q1:=hb7'.cell 1
   have fq0:=hb7'.free 0
   have fq1:=hb7'.free 1
   simp only [List.getElem?_toArray,List.getElem?_cons_zero,List.getElem?_cons_succ] at q0 q1
   have hqq:qk≠qc:=by have:=HBK3.out.lt;have:=HQS.out;omega
   refine two_one 5 rfl (by kernel_rfl) ?_
   intro K0 hK0
   go_simp
   obtain ⟨z2,hz2⟩:∃ y,y=(y7.setCell ⟨qc,0,none⟩ (.int .i64 x9)).setCell ⟨qc,1,none⟩ (.int .i64 g9):=⟨_,rfl⟩
   rw [← hz2]
   have hc2:Chg (QC qc) y7 z2:=by rw [hz2];exact ((Chg.refl (QC qc) y7).setCell (p:=⟨qc,0,none⟩) (fun _ => rfl) _).setCell (p:=⟨qc,1,none⟩) (fun _ => rfl) _
   have hk2:=(hb7'.set 0 (.int .i64 x9)).set 1 (.int .i64 g9)
   rw [← hz2] at hk2
   simp only [List.setIfInBounds_toArray,List.set_cons_zero,List.set_cons_succ] at hk2
   have hn2:=(HN3.out.below HB7.out).row hc2 fun k e _ => ⟨e,by have:k=qc:=e;rw [this];exact HPL.out.1⟩
   have hkk:=(HK5.out.below HY7.out).chg hc2 hqq
   have hT1:z2.cell? ⟨qk,0,none⟩=some (.int .i64 x9)∧z2.cell? ⟨qk,1,none⟩=some (.int .i64 g9):=⟨hkk.cell 0,hkk.cell 1⟩
   have HFI:=Lib.hid (show SuW w1 z2 jh qc (.int .i64 s9) (.int .i64 n9) (k+1) from ⟨bd3,j3,jx3,o3,s3,hn2,by rw [← HEQ.out.2.1,← HEQ.out.2.2.1];exact hk2,HPL.out.1,HPL.out.2.1,HPL.out.2.2.1,HPL.out.2.2.2.1,HPL.out.2.2.2.2,by rw [← HEQ.out.1],by rw [← HEQ.out.2.2.2]⟩)
   refine hK0.out _ _ hT1 (fun _ _ => hS) ?_
   clear hK0 K0
   try simp only [xq]
   clear hT
   have hT:=hT1
   clear hT1 hz2 hc2 hk2 hn2 hkk hb7' hqq q0 q1 fq0 fq1
   refine tk 6 6 hT hS ?_
   try simp only [xq]
   refine two_done (by kernel_rfl) ?_ _
   go_wp2_with fail
   go_roundg (n-(k+1))
   case measure => omega
   case rel => exact ⟨k+1,by go_num,by omega,rfl,HFI.out⟩
end Go.Proofs.YtdacanghbepjpaaGreatDoor
