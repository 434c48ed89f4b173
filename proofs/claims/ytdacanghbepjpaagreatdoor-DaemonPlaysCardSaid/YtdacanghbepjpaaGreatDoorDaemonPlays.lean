/- Whatever a log is written, whenever the daemon steps, and whatever answers come: what is sent, which answers count, and the cursor, are the document's: walked. -/
import Derived.Test.YtdacanghbepjpaaGreatDoorG13
import Derived.Test.YtdacanghbepjpaaGreatDoorG14
import Derived.Test.YtdacanghbepjpaaGreatDoorSink2
import Derived.Deep.DeepCutAuto
import Derived.Deep.CutBlock
namespace Go.Proofs.YtdacanghbepjpaaGreatDoor
set_option linter.unusedSimpArgs false
set_option linter.unusedVariables false
set_option maxRecDepth 100000
open Go.RowKit Go.Maps
open Dsk
def PyI (w W:World) (jn jr jl:Nat) (now:Int) (k:Nat):Prop:=∃ K bd j jx d h x s Ls v LV,NE w W K jn bd j jx d h x∧NodeC d h s x Ls 1048576 k∧PyM w W K jn jr jl x v (firstOf h.l) (sureOf h.l s) LV Ls∧0≤x.sent∧x.sent≤now
theorem py_wm {d:Dk} {h:Hl} {s k c:Nat} {x:Dm} {Ls:List Sp.Span} (n:NodeC d h s x Ls c k):decide (x.many>0)=!x.out.toList.isEmpty:=by
 have hm:=n.node.out.many0
 have hp:=n.node.out.pos
 cases hq:x.out.toList.isEmpty with
 | true =>
  have:=hm.2 (noB_of hq)
  rw [decide_eq_false (by omega)]
  rfl
 | false =>
  have h1:x.many≠0:=fun e => by
   have:=hm.1 e
   rw [this,noB_is] at hq
   cases hq
  rw [decide_eq_true (by omega)]
  rfl
theorem py_start {w w2 w3 w4:World} {jn bd j jx jr jl:Nat} {d:Dk} {h:Hl} {x:Dm} (n:NE w w2 NoK jn bd j jx d h x) (hx:x=⟨x.host,0,0,noB,0,0⟩) (h3:w3=w2.alloc (.cells #[.int .i64 x.host,.int .i64 0,.int .i64 0,.string ⟨#[]⟩,.int .i64 0,.int .i64 0] 71 (0,0))) (hr:jr=w2.heap.size)
  (h4:w4=w3.alloc (.cells #[.int .i64 0,.int .i64 0,.slice none 0 0] 74 (0,0))) (hl:jl=w3.heap.size) (hw:w.heap.size≤w2.heap.size):NE w w4 (Also NoK w2 w4) jn bd j jx d h x∧PyM w w4 (Also NoK w2 w4) jn jr jl x 0 0 0 (.slice none 0 0) []:=by
 have hb3:Below w2.heap.size w2 w3:=by rw [h3];exact (Below.refl _ _).alloc (Nat.le_refl _) _
 have hk3:Blk w3 jr 71 #[.int .i64 x.host,.int .i64 0,.int .i64 0,.string ⟨#[]⟩,.int .i64 0,.int .i64 0]:=by rw [h3,hr];exact Blk.alloc_new w2 _ _
 have hb4:Below w3.heap.size w3 w4:=by rw [h4];exact (Below.refl _ _).alloc (Nat.le_refl _) _
 have hk4:Blk w4 jl 74 #[.int .i64 0,.int .i64 0,.slice none 0 0]:=by rw [h4,hl];exact Blk.alloc_new w3 _ _
 have hj:=n.jlt
 have l3:=hk3.lt
 have l4:=hk4.lt
 have z3:=hb3.size
 have z4:=hb4.size
 refine ⟨n.add (hb3.trans (hb4.mono hb3.size)),⟨?_,hk4,OwnRow.nil _ _,fun e => ?_,.inr ⟨by omega,by omega⟩,.inr ⟨by omega,by omega⟩,fun q e => (by cases e),by omega,fun q e => ?_⟩⟩
 · have hk:=hk3.below hb4
   have e:dmC x 0=#[.int .i64 x.host,.int .i64 0,.int .i64 0,.string ⟨#[]⟩,.int .i64 0,.int .i64 0]:=by rw [hx];rfl
   rw [e]
   exact hk
 · rw [hx]
 · rcases e with e | e
   · exact e.elim
   · omega
set_option maxHeartbeats 32000000 in
theorem walkDaemonPlays (i:Int) (xs:Value×List DAct) (w:World) (hi:0≤i∧i≤255) (h1:DActsIn w xs) (he:LEnv w) :
  Calls Tryz.prog 6 #[.int .u8 i,xs.1] w fun e w' => e=.returned (.bool true)∧Below w.heap.size w w':=by
 obtain ⟨v,l⟩:=xs
 obtain ⟨hrd,hlm⟩:=h1
 simp only at hrd hlm ⊢
 have HE:=Lib.hid he
 obtain ⟨n,hn⟩:∃ n,n=l.length:=⟨_,rfl⟩
 have HBY:=Lib.hid (beyond_acts v l w hrd hlm 120 (by decide))
 have HRD:=Lib.hid (fun (W:World) (hW:Below w.heap.size w W) => hrd.below hW)
 have hc120:((120:Nat):Int)=120:=rfl
 rw [hc120,← hn] at HBY
 obtain ⟨x0,c0,hv,_⟩:=id hrd
 rw [← hn] at hv hlm
 subst hv
 have HN:=Lib.hid hn
 unfold maxLen at hlm
 obtain ⟨m,hm⟩:∃ m:Int,m=i % 4:=⟨_,rfl⟩
 have hh:Po.HostOk m:=⟨by omega,by omega⟩
 have hw8:IntKind.i64.wrap i=i:=by rw [IntKind.wrap_i64];omega
 have hrm:i.tmod 4=m:=by rw [hm,Int.tmod_eq_emod_of_nonneg (by omega)]
 have HH:=Lib.hid hh
 clear hm hh hn hrd he hc120
 go_enter Tryz.func6,Tryz.ntmps6
 go_wp2_with fail
 refine HBY.out.mono ?_
 rintro e w1 ⟨⟨b,rfl,hb120⟩,hb1⟩
 have HB1:=Lib.hid hb1
 clear hb1 HBY
 by_cases hb:b=1
 case pos =>
  subst hb
  go_wp2_with fail
  refine (lives_any _ (HE.out.below HB1.out)).mono ?_
  rintro e w2 ⟨rfl,hb2⟩
  have HB2:=Lib.hid (HB1.out.trans (hb2.mono HB1.out.size))
  clear hb2
  go_wp2_with fail
  go_ret
  exact ⟨rfl,HB2.out⟩
 case neg =>
 have hbb:(b == 1)=false:=beq_eq_false_iff_ne.2 hb
 have hn120:=hb120 hb
 have HBG:=Lib.hid (begun_any m HH.out w1)
 have HE1:=Lib.hid (HE.out.below HB1.out)
 clear hb120 hb
 go_wp2_with fail
 refine HBG.out.mono ?_
 rintro e w2 ⟨jn,rfl,bd,j,jx,P,hnd⟩
 have HND:=Lib.hid hnd.ne
 obtain ⟨jr,hjr⟩:∃ q,q=w2.heap.size:=⟨_,rfl⟩
 obtain ⟨w3,hw3⟩:∃ y,y=w2.alloc (.cells #[.int .i64 m,.int .i64 0,.int .i64 0,.string ⟨#[]⟩,.int .i64 0,.int .i64 0] 71 (0,0)):=⟨_,rfl⟩
 obtain ⟨jl,hjl⟩:∃ q,q=w3.heap.size:=⟨_,rfl⟩
 obtain ⟨w4,hw4⟩:∃ y,y=w3.alloc (.cells #[.int .i64 0,.int .i64 0,.slice none 0 0] 74 (0,0)):=⟨_,rfl⟩
 obtain ⟨g1,g2⟩:=py_start HND.out rfl hw3 hjr hw4 hjl HND.out.base.size
 have hjl2:jr+1=jl:=by rw [hjl,hw3,hjr];exact (Array.size_push _).symm
 have HST:=Lib.hid (show PyI w1 w4 jn jr jl 0 0 from ⟨_,bd,j,jx,_,_,_,0,[],0,_,g1,NodeC.new m HH.out (by decide) (by decide),g2,Int.le_refl _,Int.le_refl _⟩)
 have HW3:=Lib.hid hw3
 have HW4:=Lib.hid hw4
 have HJR:=Lib.hid hjr
 have HJL:=Lib.hid hjl2
 clear hnd HBG g1 g2 hw3 hw4 hjr hjl hjl2
 go_wp2_with fail
 rw [← HJR.out,HJL.out,← HW3.out,← HW4.out]
 clear HW3 HW4 HJR HJL HND
 go_loopg [9,10] n (fun g v9 v10 wr => ∃ (k:Nat) (now:Int),v9=.int .i64 now∧v10=.int .i64 k∧k≤n∧g=n-k∧0≤now∧now≤5*k∧PyI w1 wr jn jr jl now k)
 case atStart => exact ⟨0,0,rfl,rfl,by omega,by omega,Int.le_refl _,by omega,HST.out⟩
 case round =>
  obtain ⟨k,now,rfl,rfl,hk,rfl,hn0,hn5,hst⟩:=hrel
  clear HST
  obtain ⟨K,bd,j,jx,d,h,x,s,Ls,v0,LV,nd,nc,pm,hs0,hs1⟩:=hst
  by_cases hlt:k<n
  case neg =>
   obtain rfl:k=n:=by omega
   have hge:¬ (k:Int)<k:=by omega
   have HL:=Lib.hid nd.base
   clear nd nc pm hs0 hs1 hlt
   go_wp2_with fail
   refine (lives_any _ (HE1.out.below HL.out)).mono ?_
   rintro e z1 ⟨rfl,hz1⟩
   have HL1:=Lib.hid (HL.out.trans (hz1.mono HL.out.size))
   clear hz1
   go_wp2_with fail
   go_ret
   exact ⟨rfl,HB1.out.trans (HL1.out.mono HB1.out.size)⟩
  case pos =>
  have hlt2:(k:Int)<n:=by omega
  obtain ⟨x9,c9,hv9,hel⟩:=HRD.out wr (HB1.out.trans (nd.base.mono HB1.out.size))
  rw [← HN.out] at hv9
  obtain ⟨rfl,rfl⟩:x0=x9∧c0=c9:=by injection hv9 with e1 e2 e3;exact ⟨e1,e3⟩
  obtain ⟨ho,bb,off,rfl,_,hcc⟩:=hel k (by rw [← HN.out];exact hlt)
  obtain ⟨a,ha⟩:∃ a,a=l[k]'(by rw [← HN.out];exact hlt):=⟨_,rfl⟩
  rw [← ha] at ho hcc
  obtain ⟨k0,k1,k2,k3,k4,k5,k6,k7,k8,k9,k10,k11,k12,k13⟩:=dact_load (b:=bb) (off:=off+k*14) (a:=a) (fun i hi => by rw [Nat.add_assoc];exact hcc i hi)
  obtain ⟨q,hq⟩:∃ q,q=wr.heap.size:=⟨_,rfl⟩
  obtain ⟨w9,hw9⟩:∃ y,y=wr.alloc (.cells (dactC a).toArray 59 (0,0)):=⟨_,rfl⟩
  have hb9:Below wr.heap.size wr w9:=by rw [hw9];exact (Below.refl _ _).alloc (Nat.le_refl _) _
  have hk9:Blk w9 q 59 (dactC a).toArray:=by rw [hw9,hq];exact Blk.alloc_new wr _ _
  have hbase:=nd.base.size
  have HN9:=Lib.hid (nd.add hb9)
  have HM9:=Lib.hid (pm.add nd.jlt hbase hb9)
  have HKQ:=Lib.hid (show Also K wr w9 q from .inr ⟨by omega,hk9.lt⟩)
  have HQN:=Lib.hid (show ∀ b,LV.ownBlock=some b→¬ q=b from fun b e e2 => by have:=(OwnRow.lt pm.row b e).2;omega)
  have HNC:=Lib.hid nc
  obtain ⟨s',Ls',n',hls⟩:=nc.wrE (by omega) (by omega) a.kind a.n a.s
  have HNW:=Lib.hid n'
  have HLS:=Lib.hid hls
  have HNX:=Lib.hid nc.next
  have hdt:=ho.data
  have hkd2:=ho.kind
  have han:=ho.n
  have HWP:=Lib.hid (show 5≤a.kind % 9→wrP a.kind a.n a.s d h=(0,h,d) from fun e => by unfold wrP;rw [if_neg (by omega),if_neg (by omega),if_neg (by omega),if_neg (by omega)])
  have HWR:=Lib.hid (fun (W:World) (hW:Below w9.heap.size w9 W) => ((nd.add hb9).below hW).writes HE1.out (nc.few (by omega) (by omega)) a ho)
  obtain ⟨R,hR⟩:∃ R,R=wrP a.kind a.n a.s d h:=⟨_,rfl⟩
  rw [← hR] at HWR HNW HWP
  have HK9:=Lib.hid hk9
  have HW9:=Lib.hid hw9
  have HQ:=Lib.hid hq
  have HS01:=Lib.hid (And.intro hs0 hs1)
  obtain ⟨r9,h',d'⟩:=R
  clear hv9 hel hcc ha ho nd nc pm n' hls hR hq hw9 hb9 hk9 hs0 hs1 hbase
  obtain ⟨kd,⟨zt,zi,zp,zs,zh,za,zd,zn⟩,an,aa,af,ab,adt⟩:=a
  unfold dactC at HWR HK9 HW9
  simp only at k0 k1 k2 k3 k4 k5 k6 k7 k8 k9 k10 k11 k12 k13 HWR HK9 HW9 HNW HWP HLS hdt hkd2 han
  go_upto_block 1 with fail
  refine wp_block ?_
  refine wp_seq_k fun L0 hL0 => ?_
  have HL0:=Lib.hid hL0
  clear hL0
  go_wp2_with fail
  rw [← HW9.out,← HQ.out]
  clear k0 k1 k2 k3 k4 k5 k6 k7 k8 k9 k10 k11 k12 k13 HW9
  refine HL0.out _ _ ?_
  clear HL0
  obtain ⟨_,c1,_⟩:=HN9.out.cells
  have HEN:=Lib.hid (HN9.out.end_ (HNC.out.few (by omega) (by omega)))
  rw [HNX.out] at HEN
  refine wp_seq_k fun L1 hL1 => ?_
  have HL1:=Lib.hid hL1
  clear hL1
  go_wp2_with fail
  refine HEN.out.mono ?_
  rintro e y1 ⟨rfl,hy1⟩
  have HY1:=Lib.hid hy1
  clear hy1 HEN c1
  go_wp2_with fail
  refine HL1.out _ _ ?_
  clear HL1
  refine wp_seq_k fun L2 hL2 => ?_
  refine wp_seq_k fun L3 hL3 => ?_
  have HL3:=Lib.hid hL3
  have HL2:=Lib.hid hL2
  clear hL3 hL2
  have HQ1:=Lib.hid (HK9.out.below HY1.out)
  have HM1:=Lib.hid (HM9.out.below HY1.out)
  have HWY:=Lib.hid (HWR.out y1 HY1.out)
  obtain ⟨z0,z1,z2,z3,z4,z5,z6,z7,z8,z9,z10,z11,z12,z13⟩:y1.cell? ⟨q,0,none⟩=some (.int .u8 kd)∧y1.cell? ⟨q,1,none⟩=some (.int .i64 zt)∧y1.cell? ⟨q,2,none⟩=some (.int .i64 zi)∧y1.cell? ⟨q,3,none⟩=some (.int .i64 zp)∧y1.cell? ⟨q,4,none⟩=some (.string zs)∧y1.cell? ⟨q,5,none⟩=some (.string zh)∧y1.cell? ⟨q,6,none⟩=some (.int .i64 za)∧y1.cell? ⟨q,7,none⟩=some (.int .i64 zd)∧y1.cell? ⟨q,8,none⟩=some (.string zn)∧y1.cell? ⟨q,9,none⟩=some (.int .u8 an)∧y1.cell? ⟨q,10,none⟩=some (.int .i64 aa)∧y1.cell? ⟨q,11,none⟩=some (.int .i64 af)∧y1.cell? ⟨q,12,none⟩=some (.int .i64 ab)∧y1.cell? ⟨q,13,none⟩=some (.string adt) :=
   ⟨HQ1.out.cell 0,HQ1.out.cell 1,HQ1.out.cell 2,HQ1.out.cell 3,HQ1.out.cell 4,HQ1.out.cell 5,HQ1.out.cell 6,HQ1.out.cell 7,HQ1.out.cell 8,HQ1.out.cell 9,HQ1.out.cell 10,HQ1.out.cell 11,HQ1.out.cell 12,HQ1.out.cell 13⟩
  obtain ⟨bk,hbk⟩:∃ b,b=decide (kd % 9<5):=⟨_,rfl⟩
  rw [← hbk] at HWY
  have HBK:=Lib.hid hbk
  clear hbk HWR
  go_wp2_with fail
  refine HWY.out.mono ?_
  rintro e y2 ⟨rfl,hn2,hk2⟩
  have HN2:=Lib.hid hn2
  have HM2:=Lib.hid (HM1.out.keeps hk2)
  have HQ2:=Lib.hid (HQ1.out.chg hk2 fun e => e HKQ.out)
  clear hn2 hk2 HWY HM1 HQ1 z0 z1 z2 z3 z4 z5 z6 z7 z8 z9 z10 z11 z12 z13
  cases bk
  case true =>
   go_wp2_with fail
   refine HL3.out _ _ ?_
   refine wp_cond_true rfl ?_
   refine py_wrote HN2 HNW (by omega) HM2 HQ2 HQN HE1 (Lib.hid rfl) (Lib.hid (HLS.out.imp id And.left)) (fun c a o v w h => by cases o <;> exact h) ?_
   intros
   rename_i wx hwx
   obtain ⟨K2,LV2,g1,g2⟩:=hwx
   have HFI:=Lib.hid (show PyI w1 wx jn jr jl now (k+1) from ⟨K2,bd,j,jx,_,_,x,s',Ls',v0,LV2,g1,HNW.out,g2,HS01.out.1,HS01.out.2⟩)
   clear g1 g2 HL2 HL3 HN2 HM2 HQ2 HNW HLS
   go_wp2_with fail
   go_roundg (n-(k+1))
   case measure => omega
   case rel => exact ⟨k+1,now,rfl,by go_num,by omega,rfl,hn0,by omega,HFI.out⟩
  case false =>
   have hk95:5≤kd % 9:=by have:=HBK.out;have h2:=of_decide_eq_false this.symm;omega
   have hwp:=HWP.out hk95
   injection hwp with e1 e2
   injection e2 with e2 e3
   subst e2 e3
   go_wp2_with fail
   refine HL3.out _ _ ?_
   refine wp_cond_false rfl ?_
   go_wp2_with fail
   refine HL2.out _ _ ?_
   refine wp_seq_k fun L4 hL4 => ?_
   refine py_switch HN2 HNC (by omega) HM2 HQ2 HE1 hk95 hkd2 han hdt ⟨hn0,by omega⟩ HS01.out (fun c a o v w h => by cases o <;> exact h) ?_
   intros
   rename_i nw wx hwx
   obtain ⟨f1,f2,d2,x2,v2,g1,g2,g3,g4,g5⟩:=hwx
   refine hL4 _ _ ?_
   refine py_end (k:=k) (Lib.hid g1) (Lib.hid g3) (Lib.hid (py_wm g2)) (fun c a o v w h => by cases o <;> exact h) ?_
   intros
   rename_i wz hwz
   have HFI:=Lib.hid (show PyI w1 wz jn jr jl nw (k+1) from ⟨_,bd,j,jx,d2,_,x2,s,Ls,v2,LV,g1.below hwz,g2,g3.below hwz,g4,g5⟩)
   clear g1 g2 g3 g4 g5 hwz hL4 HL2 HL3 HN2 HM2 HQ2 HNW HLS HNC
   go_wp2_with fail
   go_roundg (n-(k+1))
   case measure => omega
   case rel => exact ⟨k+1,nw,rfl,by go_num,by omega,rfl,by omega,by omega,HFI.out⟩
end Go.Proofs.YtdacanghbepjpaaGreatDoor
