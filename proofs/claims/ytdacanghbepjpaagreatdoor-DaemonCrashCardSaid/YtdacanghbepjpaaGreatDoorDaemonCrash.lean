/- Wherever the disk fails, as often as it does, with whatever kept: neither Next nor Gap falls; each record below Next was in a batch that was answered, or is one of as many as Gap says: walked. -/
import Derived.Test.YtdacanghbepjpaaGreatDoorQ5
namespace Go.Proofs.YtdacanghbepjpaaGreatDoor
set_option linter.unusedSimpArgs false
set_option linter.unusedVariables false
set_option maxRecDepth 100000
open Go.RowKit Go.Maps
open Dsk
set_option maxHeartbeats 32000000 in
theorem walkDaemonCrash (xs:Value×List DAct) (us:Value×List Int) (ks:Value×List Int) (w:World) (h1:DActsIn w xs) (h2:RdU w us.1 us.2∧us.2.length≤maxLen) (h3:KeepIn w ks) (he:LEnv w) :
  Calls Tryz.prog 7 #[xs.1,us.1,ks.1] w fun e w' => e=.returned (.bool true)∧Below w.heap.size w w':=by
 obtain ⟨v,l⟩:=xs
 obtain ⟨uv,ul⟩:=us
 obtain ⟨kv,kl⟩:=ks
 obtain ⟨hrd,hlm⟩:=h1
 obtain ⟨hru,hum⟩:=h2
 obtain ⟨hrk,hkm⟩:=h3
 simp only at hrd hlm hru hum hrk hkm ⊢
 have HE:=Lib.hid he
 have HBY:=Lib.hid (beyond_acts v l w hrd hlm 100 (by decide))
 have HRD:=Lib.hid (fun (W:World) (hW:Below w.heap.size w W) => hrd.below hW)
 have HRU:=Lib.hid (fun (W:World) (hW:Below w.heap.size w W) => hru.below hW)
 have HRK:=Lib.hid (fun (W:World) (hW:Below w.heap.size w W) => show KeepR W (fun k => w.heap.size≤k) kv kl from hrk.chg (T:=fun _ => False) (Chg.of_below hW) (fun _ e => e.elim))
 obtain ⟨n,hn⟩:∃ n,n=l.length:=⟨_,rfl⟩
 obtain ⟨un,hun⟩:∃ un,un=ul.length:=⟨_,rfl⟩
 obtain ⟨kn,hkn⟩:∃ kn,kn=kl.length:=⟨_,rfl⟩
 have hc100:((100:Nat):Int)=100:=rfl
 rw [hc100,← hn] at HBY
 obtain ⟨x0,c0,hv,_⟩:=id hrd
 obtain ⟨x1,c1,huv,_⟩:=id hru
 obtain ⟨x2,c2,hkv,_⟩:=id hrk
 rw [← hn] at hv hlm
 rw [← hun] at huv hum
 rw [← hkn] at hkv hkm
 subst hv huv hkv
 have HN:=Lib.hid hn
 have HUN:=Lib.hid hun
 have HKN:=Lib.hid hkn
 unfold maxLen at hlm hum hkm
 clear hn hun hkn hrd hru hrk he hc100
 go_enter Tryz.func7,Tryz.ntmps7
 go_wp2_with fail
 refine HBY.out.mono ?_
 rintro e w1 ⟨⟨b,rfl,hb100⟩,hb1⟩
 have HB1:=Lib.hid hb1
 clear hb1 HBY
 by_cases hbig:b=1∨100<un∨20<kn
 case pos =>
  have hcs:b=1∨(b≠1∧100<un)∨(b≠1∧¬ 100<un∧20<kn):=by omega
  clear hbig hb100
  rcases hcs with rfl | ⟨q1,q2⟩ | ⟨q1,q2,q3⟩
  · skip
    go_wp2_with fail
    refine (lives_any _ (HE.out.below HB1.out)).mono ?_
    rintro e w2 ⟨rfl,hb2⟩
    have HB2:=Lib.hid (HB1.out.trans (hb2.mono HB1.out.size))
    clear hb2
    go_wp2_with fail
    go_ret
    exact ⟨rfl,HB2.out⟩
  · have hbb:(b == 1)=false:=beq_eq_false_iff_ne.2 q1
    have hq:(100:Int)<un:=by omega
    go_wp2_with fail
    refine (lives_any _ (HE.out.below HB1.out)).mono ?_
    rintro e w2 ⟨rfl,hb2⟩
    have HB2:=Lib.hid (HB1.out.trans (hb2.mono HB1.out.size))
    clear hb2
    go_wp2_with fail
    go_ret
    exact ⟨rfl,HB2.out⟩
  · have hbb:(b == 1)=false:=beq_eq_false_iff_ne.2 q1
    have hq:¬ (100:Int)<un:=by omega
    have hq3:(20:Int)<kn:=by omega
    go_wp2_with fail
    refine (lives_any _ (HE.out.below HB1.out)).mono ?_
    rintro e w2 ⟨rfl,hb2⟩
    have HB2:=Lib.hid (HB1.out.trans (hb2.mono HB1.out.size))
    clear hb2
    go_wp2_with fail
    go_ret
    exact ⟨rfl,HB2.out⟩
 case neg =>
 have hbb:(b == 1)=false:=beq_eq_false_iff_ne.2 fun e => hbig (.inl e)
 have hq:¬ (100:Int)<un:=by omega
 have hq3:¬ (20:Int)<kn:=by omega
 have hn100:n≤100:=hb100 fun e => hbig (.inl e)
 have hun100:un≤100:=by omega
 have hkn20:kn≤20:=by omega
 have HBG:=Lib.hid (begun_any 1 (by decide) w1)
 have HE1:=Lib.hid (HE.out.below HB1.out)
 clear hb100 hbig
 go_wp2_with fail
 refine HBG.out.mono ?_
 rintro e w2 ⟨jn,rfl,bd,j,jx,P,hnd⟩
 have HND:=Lib.hid hnd.ne
 obtain ⟨c0',c1',c2'⟩:=hnd.cells
 have HCU:=Lib.hid hnd.ne.cursor
 unfold curV at HCU
 simp only at HCU
 clear hnd HBG
 go_wp2_with fail
 refine HCU.out.mono ?_
 rintro e w3 ⟨rfl,hb3⟩
 obtain ⟨qc,hqc⟩:∃ q,q=w3.heap.size:=⟨_,rfl⟩
 obtain ⟨w4,hw4⟩:∃ y,y=w3.alloc (.cells #[.int .i64 0,.int .i64 0] 30 (0,0)):=⟨_,rfl⟩
 have hb4:Below w2.heap.size w2 w4:=by rw [hw4];exact hb3.alloc hb3.size _
 have hk4:Blk w4 qc 30 #[.int .i64 0,.int .i64 0]:=by rw [hw4,hqc];exact Blk.alloc_new w3 _ _
 have HW4:=Lib.hid hw4
 have HQC:=Lib.hid hqc
 have HST:=Lib.hid (show CrW w1 w4 jn bd qc (.slice none 0 0) 0 0 0 from by
  have hj:=HND.out.jlt
  have hz:=HND.out.base.size
  have h3:=hb3.size
  have nc:=NodeC.new 1 (by decide) (c:=1048576) (by decide) (by decide)
  refine ⟨_,j,jx,_,_,0,_,[],HND.out.add hb4,⟨nc.node,rfl,.inl rfl,⟨Int.le_refl _,by decide⟩,Int.le_refl _,Nat.zero_le _,Nat.zero_le _,Nat.le_refl _,Nat.le_refl _,rfl⟩,⟨hk4,OwnRow.nil _ _,.inr ⟨by omega,hk4.lt⟩,(fun q hq => by cases hq),fun q hq => ?_⟩,Int.le_refl _,Int.le_refl _⟩
  rcases hq with hq | hq
  · exact hq.elim
  · exact ⟨by omega,by omega⟩)
 clear HCU hb3 hb4 hk4 hw4 hqc HND c0' c1' c2'
 go_wp2_with fail
 rw [← HW4.out,← HQC.out]
 go_loopg [8,9,10,12] n (fun g v8 v9 v10 v12 wr => ∃ (k:Nat) (many now:Int),v12=.int .i64 k∧k≤n∧g=n-k∧v10=.int .i64 many∧v9=.int .i64 now∧0≤now∧now≤4*k∧CrW w1 wr jn bd qc v8 many now k)
 case atStart => exact ⟨0,0,0,rfl,by omega,by omega,rfl,rfl,by omega,by omega,HST.out⟩
 case round =>
  obtain ⟨k,many,now,rfl,hk,rfl,rfl,rfl,hnow1,hnow2,hst⟩:=hrel
  clear HST
  obtain ⟨K,j,jx,d,h,s,x,had,hne,hci,hcm,hx1,hx2⟩:=hst
  obtain ⟨hx,hc,hhs⟩:=OwnRow.shape hcm.row
  obtain ⟨hn9,hhn9⟩:∃ hn9,hn9=had.length:=⟨_,rfl⟩
  rw [← hhn9] at hhs
  subst hhs
  by_cases hlt:k<n
  case neg =>
   obtain rfl:k=n:=by omega
   have hge:¬ (k:Int)<k:=by omega
   have HL:=Lib.hid hne.base
   clear hne hci hcm hlt
   go_wp2_with fail
   refine (lives_any _ (HE1.out.below HL.out)).mono ?_
   rintro e z1 ⟨rfl,hz1⟩
   have HL1:=Lib.hid (HL.out.trans (hz1.mono HL.out.size))
   clear hz1
   go_wp2_with fail
   go_ret
   exact ⟨rfl,HB1.out.trans (HL1.out.mono HB1.out.size)⟩
  case pos =>
   obtain ⟨N,hN⟩:∃ N:Nat,x.next=N:=⟨x.next.toNat,by have:=hci.node.gap;omega⟩
   obtain ⟨G,hG⟩:∃ G,x.gap=G:=⟨_,rfl⟩
   obtain ⟨M,hM⟩:∃ M:Nat,many=M:=⟨many.toNat,by have:=hci.mb;omega⟩
   subst hM
   have hbN:N≤30000000:=by
    have h9:=hci.next
    have h8:=hci.node.sure
    have h7:=sureOf_le h.l s
    omega
   have hbM:M≤8:=by have:=hci.mb;omega
   rw [hN,hG] at hcm
   have hlt2:(k:Int)<n:=by omega
   have HNE:=Lib.hid hne
   have HCI:=Lib.hid hci
   have HCM:=Lib.hid hcm
   have HNX:=Lib.hid hN
   have HGP:=Lib.hid hG
   clear hne hci hcm hN hG hhn9
   go_upto_block 1 with fail
   refine wp_block ?_
   refine cr_body HB1 HE1 HRD HN HRU HRK HUN HKN hun100 hkn20 hn100 HNE.out HCI.out HCM.out HNX.out HGP.out hx1 hx2 hnow1 hnow2 hlt hbN hbM (fun c a o v w h => by cases o <;> exact h) ?_
   intros;rename_i v8 many2 now2 wx g1 g2 g3
   have HG3:=Lib.hid g3
   clear g3 HNE HCI HCM
   go_wp2_with fail
   go_roundg (n-(k+1))
   case measure => omega
   case rel => exact ⟨k+1,many2,now2,by go_num,by omega,rfl,rfl,rfl,g1,by omega,HG3.out⟩
end Go.Proofs.YtdacanghbepjpaaGreatDoor
