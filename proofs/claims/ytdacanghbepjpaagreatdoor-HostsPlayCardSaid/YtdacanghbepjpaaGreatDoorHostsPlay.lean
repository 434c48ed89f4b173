/- A host is what its log and its daemon come to, by their own words: walked. -/
import Derived.Test.YtdacanghbepjpaaGreatDoorG15
import Derived.Deep.DeepCutAuto
import Derived.Deep.CutBlock
set_option linter.unusedSimpArgs false
set_option linter.unusedVariables false
set_option maxRecDepth 100000
namespace Go.Proofs.YtdacanghbepjpaaGreatDoor
open Go.RowKit Go.Maps
open Dsk
def PlW (w0 w:World) (jh jt:Nat) (m:Int) (k:Nat):Prop :=
 ∃ bd j jx bd' j' jx' o,HT w0 w NoK jh bd j jx o jt bd' j' jx' o∧HoB o 1048576 k∧o.id=m
theorem PlW.base {w0 w:World} {jh jt k:Nat} {m:Int} (h:PlW w0 w jh jt m k):Below w0.heap.size w0 w:=by
 obtain ⟨bd,j,jx,bd',j',jx',o,h1,h2,h3⟩:=h
 exact h1.base
theorem does_ms {a:OAct} {o:Hs} {R:(List Ml×Int)×Hs} (hR:DoesR a o R):(R.1.1=[]∧(sentT R.1.1).toList.isEmpty=true)∨(R.1.1=[⟨o.id,-1,sentT R.1.1⟩]∧(sentT R.1.1).toList.isEmpty=false):=by
 have hz:(sentT []).toList.isEmpty=true:=noB_is
 rcases hR with ⟨_,rfl⟩ | ⟨_,_,rfl⟩ | ⟨_,_,o',l,t,dr,d3,A,rfl⟩
 · unfold doesO
   repeat' split
   all_goals first
    | exact .inl ⟨rfl,hz⟩
    | skip
   unfold stepR
   split
   · show (sentO o=[]∧(sentT (sentO o)).toList.isEmpty=true)∨(sentO o=[⟨o.id,-1,sentT (sentO o)⟩]∧(sentT (sentO o)).toList.isEmpty=false)
     unfold sentO
     split
     · exact .inl ⟨rfl,hz⟩
     rename_i h
     refine .inr ⟨rfl,?_⟩
     show ((stepC o.now o.d o.h o.x).1.1).toList.isEmpty=false
     cases hq:((stepC o.now o.d o.h o.x).1.1).toList.isEmpty with
     | true => exact absurd (noB_of hq) h
     | false => rfl
   exact .inl ⟨rfl,hz⟩
 · exact .inl ⟨rfl,hz⟩
 exact .inl ⟨rfl,hz⟩
set_option maxHeartbeats 32000000 in
theorem walkHostsPlay (i:Int) (xs:Value×List OAct) (w:World) (hi:0≤i∧i≤255) (h1:OActsIn w xs) (he:LEnv w) :
  Calls Tryz.prog 11 #[.int .u8 i,xs.1] w fun e w' => e=.returned (.bool true)∧Below w.heap.size w w':=by
 obtain ⟨v,l⟩:=xs
 obtain ⟨hrd,hlm⟩:=h1
 simp only at hrd hlm ⊢
 have HE0:=Zh he
 have HBY:=Zh (beyond_oacts v l w hrd hlm 100 (by decide))
 have HRD:=Zh (fun (W:World) (hW:Below w.heap.size w W) => hrd.below hW)
 obtain ⟨n,hn⟩:∃ n,n=l.length:=⟨_,rfl⟩
 have hc100:((100:Nat):Int)=100:=rfl
 rw [hc100] at HBY
 obtain ⟨x0,c0,hv,_⟩:=id hrd
 rw [← hn] at hv hlm
 subst hv
 have HN:=Zh hn
 unfold maxLen at hlm
 clear hn hrd he hc100
 go_enter Tryz.func11,Tryz.ntmps11
 go_wp2_with fail
 refine HBY.out.mono ?_
 rintro e w1 ⟨⟨b,rfl,hb100⟩,hb1⟩
 have HB1:=Zh hb1
 clear hb1 HBY
 by_cases hb:b=1
 case pos =>
  subst hb
  go_wp2_with fail
  refine (lives_h _ (HE0.out.below HB1.out)).mono ?_
  rintro e w2 ⟨rfl,hb2⟩
  have HB2:=Zh (HB1.out.trans (hb2.mono HB1.out.size))
  clear hb2
  go_wp2_with fail
  go_ret
  exact ⟨rfl,HB2.out⟩
 case neg =>
 have hbb:(b == 1)=false:=beq_eq_false_iff_ne.2 hb
 obtain ⟨hl100,hk20⟩:=hb100 hb
 have hn100:n≤100:=by rw [HN.out];exact hl100
 have HK20:=Zh hk20
 have HE1:=Zh (HE0.out.below HB1.out)
 obtain ⟨m,hm⟩:∃ m:Int,m=i % 4:=⟨_,rfl⟩
 have hh:Po.HostOk m:=⟨by omega,by omega⟩
 have hw8:IntKind.i64.wrap i=i:=by rw [IntKind.wrap_i64];omega
 have hrm:i.tmod 4=m:=by rw [hm,Int.tmod_eq_emod_of_nonneg (by omega)]
 have HH:=Zh hh
 have hcst:((1048576:Nat):Int)=1048576:=rfl
 have hnew:=ho_new m hh 1048576 (by decide) (by decide) w1 (w0:=w1) (Below.refl _ _)
 have hdsk:=fun (W:World) => DA.new 1048576 W (by decide) (by decide)
 rw [hcst] at hnew
 simp only [hcst] at hdsk
 have HNEW:=Zh hnew
 have HDSK:=Zh hdsk
 clear hb hb100 hl100 hk20 hnew hcst hdsk hh hm hi
 go_wp2_with fail
 refine HNEW.out.mono ?_
 rintro e w2 ⟨jh,rfl,bd,j,jx,hn2,hb2⟩
 have HB2:=Zh hb2
 have HN2:=Zh hn2
 clear hn2 hb2 HNEW
 go_wp2_with fail
 refine (HDSK.out w2).mono ?_
 rintro e w3 ⟨bd',rfl,hd3⟩
 have HD3:=Zh hd3
 clear hd3 HDSK
 obtain ⟨jt,hjt⟩:∃ q,q=w3.heap.size:=⟨_,rfl⟩
 obtain ⟨w4,hw4⟩:∃ y,y=w3.alloc (.cells #[.int .i64 m,.int .i64 0,.int .i64 0,.pointer (some ⟨bd',0,none⟩),.pointer none,.pointer none,.bool false] 115 (0,0)):=⟨_,rfl⟩
 have HTB:=Zh (tw_begin (w0:=w1) (w:=w2) (w1:=w3) HH.out HB2.out HD3.out (fun k e => e) hjt hw4)
 have HW4:=Zh hw4
 have HJT:=Zh hjt
 clear hjt hw4 HD3
 go_wp2_with fail
 rw [← HW4.out,← HJT.out]
 refine HTB.out.mono ?_
 rintro e w5 ⟨rfl,j',jx',ht5,hb5⟩
 obtain ⟨pl,px,hpp,c0,c1,c2,c3,c4,c5,c6⟩:=ht5.cells
 obtain ⟨rfl,rfl⟩:=hpp rfl
 have n0:=NodeC.new m HH.out (c:=1048576) (by decide) (by decide)
 have HST:=Zh (show PlW w1 w5 jh jt m 0 from
  ⟨bd,j,jx,bd',j',jx',_,((HN2.out.drop (K2:=NoK) fun k e => e.elim).pairT hb5 ht5),⟨⟨Int.le_refl _,Int.le_refl _⟩,⟨Int.le_refl _,Int.le_refl _⟩,HH.out,.inl ⟨rfl,⟨0,n0.hoI rfl⟩,Int.le_refl _,Int.le_refl _⟩⟩,rfl⟩)
 clear ht5 hb5 HN2 HB2 HTB HW4 HJT n0 c0 c1 c2 c3 c5 c6
 go_wp2_with fail
 clear c4
 go_loopg [11] n (fun g v11 wr => ∃ (k:Nat),v11=.int .i64 k∧k≤n∧g=n-k∧PlW w1 wr jh jt m k)
 case atStart => exact ⟨0,rfl,by omega,by omega,HST.out⟩
 case round =>
 obtain ⟨k,rfl,hk,rfl,hst⟩:=hrel
 clear HST
 by_cases hlt:k<n
 case neg =>
  obtain rfl:k=n:=by omega
  have hge:¬ (k:Int)<k:=by omega
  have HL:=Zh hst.base
  clear hst hlt
  go_wp2_with fail
  refine (lives_h _ (HE1.out.below HL.out)).mono ?_
  rintro e z1 ⟨rfl,hz1⟩
  have HL1:=Zh (HL.out.trans (hz1.mono HL.out.size))
  clear hz1
  go_wp2_with fail
  go_ret
  exact ⟨rfl,HB1.out.trans (HL1.out.mono HB1.out.size)⟩
 case pos =>
 have hlt2:(k:Int)<n:=by omega
 have HSW:=Zh hst
 obtain ⟨bd,j,jx,bd',j',jx',o,hh2,hob,hid⟩:=hst
 have HRDB:=Zh (fun (W:World) (hW:Below w1.heap.size w1 W) => HB1.out.trans (hW.mono HB1.out.size))
 have hwr:Below w.heap.size w wr:=HRDB.out wr hh2.base
 obtain ⟨x9,c9,hv9,hel⟩:=HRD.out wr hwr
 rw [← HN.out] at hv9
 obtain ⟨rfl,rfl⟩:x0=x9∧c0=c9:=by injection hv9 with e1 e2 e3;exact ⟨e1,e3⟩
 obtain ⟨ho,bb,off,rfl,hbb9,hcc⟩:=hel k (by rw [← HN.out];exact hlt)
 obtain ⟨a,ha⟩:∃ a,a=l[k]'(by rw [← HN.out];exact hlt):=⟨_,rfl⟩
 have hak:a.keep.length≤20:=by rw [ha];exact HK20.out k _
 rw [← ha] at ho hcc
 have HBB:=Zh (show ∃ X,X=a∧OActOk wr w.heap.size X from ⟨a,rfl,ho⟩)
 have hcells:∀ (W:World),Below w.heap.size w W→OActOk W w.heap.size a∧∀ i,i<17→W.cell? ⟨bb,off+(k*17+i),none⟩=(oactC a)[i]?:=fun W hW => by
  obtain ⟨x9,c9,hv9,hel⟩:=HRD.out W hW
  obtain ⟨ho2,bb2,off2,e2,_,hcc2⟩:=hel k (by rw [← HN.out];exact hlt)
  injection hv9 with e1 e3 e4
  rw [e2] at e1
  injection e1 with e1
  injection e1 with e5 e6 e7
  subst e5 e6
  rw [← ha] at ho2 hcc2
  exact ⟨ho2,hcc2⟩
 have HCE:=Zh hcells
 obtain ⟨k0,k1,k2,k3,k4,k5,k6,k7,k8,k9,k10,k11,k12,k13,k14,k15,k16⟩:=oact_load (b:=bb) (off:=off+k*17) (a:=a) (fun i hi => by rw [Nat.add_assoc];exact hcc i hi)
 have HMA:=Zh (fun W:World => mayK_any a.kind W)
 obtain ⟨R,hR,rb,rid⟩:=hob.all (a:=a) (by omega) (by omega) (by omega)
 have hB:w.heap.size≤w1.heap.size:=HB1.out.size
 obtain ⟨kx,kc,hkv,_⟩:=id ho.kv
 obtain ⟨q,hq⟩:∃ q,q=wr.heap.size:=⟨_,rfl⟩
 obtain ⟨w9,hw9⟩:∃ y,y=wr.alloc (.cells (oactC a).toArray 95 (0,0)):=⟨_,rfl⟩
 have hb9:=Zb hw9
 have hk9:Blk w9 q 95 (oactC a).toArray:=by rw [hw9,hq];exact Blk.alloc_new wr _ _
 have h29:=hh2.add hb9
 have hkq:Also NoK wr w9 q:=.inr ⟨by omega,hk9.lt⟩
 have HNX:=Zh (show PlW w1 w9 jh jt m (k+1) from ⟨_,_,_,_,_,_,_,hh2.below hb9,hob.later,hid⟩)
 have hw9b:Below w.heap.size w w9:=HRDB.out w9 h29.base
 have hdo:=fun hm => h29.host (R:=R) fun K2 n2 => does_all a n2 HE1.out hob (by omega) (by omega) (HCE.out w9 hw9b).1 hB (by omega) hm hR
 have hdt:=fun (hm:MayK a.kind) (W:World) (K:Nat→Prop) (bd j jx:Nat) (hW:Below w1.heap.size w1 W) (hh:HT w1 W K jh bd j jx R.2 jt bd' j' jx' o) => hh.twin (o2:=R.2) fun K2 n2 => tdoes_all a n2 HE1.out hob (by omega) (by omega) (HCE.out W (HRDB.out W hW)).1 hB (by omega) hm hR
 have hml:=fun W:World => mail_any a o.id W _ kx kc hkv
 rw [hid] at hdo hdt hml
 have hms:(R.1.1=[]∧(sentT R.1.1).toList.isEmpty=true)∨(R.1.1=[⟨m,-1,sentT R.1.1⟩]∧(sentT R.1.1).toList.isEmpty=false):=by
  have:=does_ms hR
  rw [hid] at this
  exact this
 obtain ⟨s9,hf9⟩:∃ s9,R.2.up=true→Few R.2.d R.2.h s9 R.2.x:=by
  by_cases hu:R.2.up=true
  · obtain ⟨s9,h9,_⟩:=rb.few (by omega) (by omega) hu
    exact ⟨s9,fun _ => h9⟩
  exact ⟨0,fun e => absurd e hu⟩
 have HDO:=Zh hdo
 have HDT:=Zh hdt
 have HML:=Zh hml
 have HMS:=Zh hms
 have HF9:=Zh hf9
 have HRB:=Zh rb
 have HRI:=Zh (rid.trans hid)
 have HK9:=Zh hk9
 have HKQ:=Zh hkq
 have HW9:=Zh hw9
 have HMY:=Zh (mayB_iff a.kind)
 have HQ:=Zh hq
 clear hdo hdt hml hms hf9 rb rid hk9 hkq hw9 hb9 h29 hw9b hR hB
 clear hh2 hob hid hwr hv9 hel hcc ha hak HCE hcells HBB hbb9 hq ho
 obtain ⟨kl,hkl⟩:∃ kl,kl=a.keep.length:=⟨_,rfl⟩
 rw [← hkl] at hkv
 obtain ⟨M,hM⟩:∃ M,M=mailO a m:=⟨_,rfl⟩
 rw [← hM] at HDT HML
 clear hM
 obtain ⟨mf,mt,md⟩:=M
 unfold mlV mlRow at HDT HML
 rw [hkv] at k11
 unfold oactC at HDO HDT HML HK9 HW9
 rw [hkv] at HDO HDT HML HK9 HW9
 simp only [List.take_succ_cons,List.take_zero] at HDT
 obtain ⟨kd,nd,nn,⟨zt,zi,zp,zs,zh,za,zd,zn⟩,kv,keep,own,ah,af,an,adt⟩:=a
 simp only at k0 k1 k2 k3 k4 k5 k6 k7 k8 k9 k10 k11 k12 k13 k14 k15 k16 HMA HDO HDT HML HK9 HW9 HMY
 clear hkv hkl
 go_upto_block 1 with fail
 refine wp_block ?_
 refine wp_seq_k fun L0 hL0 => ?_
 have HL0:=Zh hL0
 clear hL0
 go_wp2_with fail
 rw [← HW9.out,← HQ.out]
 clear k0 k1 k2 k3 k4 k5 k6 k7 k8 k9 k10 k11 k12 k13 k14 k15 k16
 refine HL0.out _ _ ?_
 clear HL0
 have k0:=HK9.out.cell 0
 simp only [Zx] at k0
 refine wp_seq_k fun L1 hL1 => ?_
 have HL1:=Zh hL1
 clear hL1
 go_wp2_with fail
 refine (HMA.out w9).mono ?_
 rintro e y1 ⟨rfl,rfl⟩
 clear HMA
 obtain ⟨mb,hmb⟩:∃ mb,mb=mayB kd:=⟨_,rfl⟩
 rw [← hmb] at HMY ⊢
 clear hmb
 cases mb
 case false =>
  clear HDO HDT HML HMS k0
  go_wp2_with fail
  go_roundg (n-(k+1))
  case measure => omega
  case rel => exact ⟨k+1,by go_num,by omega,rfl,HNX.out⟩
 case true =>
 have HD1:=Zh (HDO.out (HMY.out.1 rfl))
 have HD2:=Zh (HDT.out (HMY.out.1 rfl))
 clear HDO HDT k0
 go_wp2_with fail
 refine HL1.out _ _ ?_
 clear HL1
 refine pl_round HD1 HD2 HML HK9 HKQ HMS HE1 HF9 (fun c a o v w h => by cases o <;> exact h) ?_
 intros
 rename_i wx hbx
 have HFX:=Zh (show PlW w1 wx jh jt m (k+1) from by
  obtain ⟨bd2,j2,jx2,bd3,j3,jx3,hbx⟩:=hbx
  exact ⟨bd2,j2,jx2,bd3,j3,jx3,_,hbx,HRB.out,HRI.out⟩)
 clear hbx HD1 HD2 HML HK9 HKQ HMS
 go_wp2_with fail
 go_roundg (n-(k+1))
 case measure => omega
 case rel => exact ⟨k+1,by go_num,by omega,rfl,HFX.out⟩
end Go.Proofs.YtdacanghbepjpaaGreatDoor
