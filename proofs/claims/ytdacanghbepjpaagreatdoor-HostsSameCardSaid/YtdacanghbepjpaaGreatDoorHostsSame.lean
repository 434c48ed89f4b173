/- Two hosts that are asked the same come to the same, and send the same: walked. -/
import Derived.Test.YtdacanghbepjpaaGreatDoorHpD
import Derived.Deep.DeepCutAuto
import Derived.Deep.CutBlock
namespace Go.Proofs.YtdacanghbepjpaaGreatDoor
set_option linter.unusedSimpArgs false
set_option linter.unusedVariables false
set_option maxRecDepth 100000
open Go.RowKit Go.Maps
open Dsk
def SaW (w0 w:World) (jh jo:Nat) (k:Nat):Prop :=
 ∃ bd j jx bd' j' jx' o,H2 w0 w NoK jh bd j jx o jo bd' j' jx' o∧HoB o 1048576 k∧o.id=2
theorem SaW.next {w0 w:World} {jh jo k:Nat} (h:SaW w0 w jh jo k):SaW w0 w jh jo (k+1):=by
 obtain ⟨bd,j,jx,bd',j',jx',o,h1,h2,h3⟩:=h
 exact ⟨bd,j,jx,bd',j',jx',o,h1,h2.later,h3⟩
theorem SaW.base {w0 w:World} {jh jo k:Nat} (h:SaW w0 w jh jo k):Below w0.heap.size w0 w:=by
 obtain ⟨bd,j,jx,bd',j',jx',o,h1,h2,h3⟩:=h
 exact h1.base
set_option maxHeartbeats 32000000 in
theorem walkHostsSame (xs:Value×List OAct) (w:World) (h1:OActsIn w xs) (he:LEnv w) :
  Calls Tryz.prog 8 #[xs.1] w fun e w' => e=.returned (.bool true)∧Below w.heap.size w w':=by
 obtain ⟨v,l⟩:=xs
 obtain ⟨hrd,hlm⟩:=h1
 simp only at hrd hlm ⊢
 have HE0:=Lib.hid he
 have HBY:=Lib.hid (beyond_oacts v l w hrd hlm 80 (by decide))
 have HRD:=Lib.hid (fun (W:World) (hW:Below w.heap.size w W) => hrd.below hW)
 obtain ⟨n,hn⟩:∃ n,n=l.length:=⟨_,rfl⟩
 have hc100:((80:Nat):Int)=80:=rfl
 rw [hc100] at HBY
 obtain ⟨x0,c0,hv,_⟩:=id hrd
 rw [← hn] at hv hlm
 subst hv
 have HN:=Lib.hid hn
 unfold maxLen at hlm
 clear hn hrd he hc100
 go_enter Tryz.func8,Tryz.ntmps8
 go_wp2_with fail
 refine HBY.out.mono ?_
 rintro e w1 ⟨⟨b,rfl,hb100⟩,hb1⟩
 have HB1:=Lib.hid hb1
 clear hb1 HBY
 by_cases hb:b=1
 case pos =>
  subst hb
  go_wp2_with fail
  refine (lives_h _ (HE0.out.below HB1.out)).mono ?_
  rintro e w2 ⟨rfl,hb2⟩
  have HB2:=Lib.hid (HB1.out.trans (hb2.mono HB1.out.size))
  clear hb2
  go_wp2_with fail
  go_ret
  exact ⟨rfl,HB2.out⟩
 case neg =>
 have hbb:(b == 1)=false:=beq_eq_false_iff_ne.2 hb
 obtain ⟨hl100,hk20⟩:=hb100 hb
 have hn100:n≤80:=by rw [HN.out];exact hl100
 have HK20:=Lib.hid hk20
 have HE1:=Lib.hid (HE0.out.below HB1.out)
 have hnew:=fun (W:World) (hW:Below w1.heap.size w1 W) => ho_new 2 ⟨by decide,by decide⟩ 1048576 (by decide) (by decide) W (w0:=w1) hW
 have hcst:((1048576:Nat):Int)=1048576:=rfl
 rw [hcst] at hnew
 have HNEW:=Lib.hid hnew
 clear hb hb100 hl100 hk20 hnew hcst
 go_wp2_with fail
 refine (HNEW.out w1 (Below.refl _ _)).mono ?_
 rintro e w2 ⟨jh,rfl,bd,j,jx,hn2,hb2⟩
 have HB2:=Lib.hid hb2
 have HN2:=Lib.hid hn2
 clear hn2 hb2
 go_wp2_with fail
 refine (HNEW.out w2 HB2.out).mono ?_
 rintro e w3 ⟨jo,rfl,bd',j',jx',hn3,hb3⟩
 have n0:=NodeC.new 2 (by decide) (c:=1048576) (by decide) (by decide)
 have HST:=Lib.hid (show SaW w1 w3 jh jo 0 from
  ⟨bd,j,jx,bd',j',jx',_,(HN2.out.drop (K2:=NoK) fun k e => e.elim).pair hb3 hn3,⟨⟨Int.le_refl _,Int.le_refl _⟩,⟨Int.le_refl _,Int.le_refl _⟩,⟨by decide,by decide⟩,.inl ⟨rfl,⟨0,n0.hoI rfl⟩,Int.le_refl _,Int.le_refl _⟩⟩,rfl⟩)
 clear hn3 hb3 HN2 HB2 HNEW n0
 go_wp2_with fail
 go_loopg [7] n (fun g v7 wr => ∃ (k:Nat),v7=.int .i64 k∧k≤n∧g=n-k∧SaW w1 wr jh jo k)
 case atStart => exact ⟨0,rfl,by omega,by omega,HST.out⟩
 case round =>
  obtain ⟨k,rfl,hk,rfl,hst⟩:=hrel
  clear HST
  by_cases hlt:k<n
  case neg =>
   obtain rfl:k=n:=by omega
   have hge:¬ (k:Int)<k:=by omega
   have HL:=Lib.hid hst.base
   clear hst hlt
   go_wp2_with fail
   refine (lives_h _ (HE1.out.below HL.out)).mono ?_
   rintro e z1 ⟨rfl,hz1⟩
   have HL1:=Lib.hid (HL.out.trans (hz1.mono HL.out.size))
   clear hz1
   go_wp2_with fail
   go_ret
   exact ⟨rfl,HB1.out.trans (HL1.out.mono HB1.out.size)⟩
  case pos =>
  have hlt2:(k:Int)<n:=by omega
  have HSW:=Lib.hid hst
  obtain ⟨bd,j,jx,bd',j',jx',o,hh2,hob,hid⟩:=hst
  have HRDB:=Lib.hid (fun (W:World) (hW:Below w1.heap.size w1 W) => HB1.out.trans (hW.mono HB1.out.size))
  have hwr:Below w.heap.size w wr:=HRDB.out wr hh2.base
  obtain ⟨x9,c9,hv9,hel⟩:=HRD.out wr hwr
  rw [← HN.out] at hv9
  obtain ⟨rfl,rfl⟩:x0=x9∧c0=c9:=by injection hv9 with e1 e2 e3;exact ⟨e1,e3⟩
  obtain ⟨ho,bb,off,rfl,hbb9,hcc⟩:=hel k (by rw [← HN.out];exact hlt)
  obtain ⟨a,ha⟩:∃ a,a=l[k]'(by rw [← HN.out];exact hlt):=⟨_,rfl⟩
  have hak:a.keep.length≤20:=by rw [ha];exact HK20.out k _
  rw [← ha] at ho hcc
  have HBB:=Lib.hid (show ∃ X,X=a∧OActOk wr w.heap.size X from ⟨a,rfl,ho⟩)
  have hcells:∀ (W:World),Below w.heap.size w W→OActOk W w.heap.size a∧∀ i,i<17→W.cell? ⟨bb,off+(k*17+i),none⟩=(oactC a)[i]?:=fun W hW => by
   obtain ⟨x9,c9,hv9,hel⟩:=HRD.out W hW
   obtain ⟨ho2,bb2,off2,e2,_,hcc2⟩:=hel k (by rw [← HN.out];exact hlt)
   injection hv9 with e1 e3 e4
   rw [e2] at e1
   injection e1 with e1
   injection e1 with e5 e6 e7
   subst e5 e6
   rw [← ha] at ho2 hcc2
   exact ⟨ho2,hcc2⟩
  have HCE:=Lib.hid hcells
  obtain ⟨k0,k1,k2,k3,k4,k5,k6,k7,k8,k9,k10,k11,k12,k13,k14,k15,k16⟩:=oact_load (b:=bb) (off:=off+k*17) (a:=a) (fun i hi => by rw [Nat.add_assoc];exact hcc i hi)
  have HMA:=Lib.hid (mayK_any a.kind wr)
  by_cases hmk:mayB a.kind=true
  case neg =>
   rw [Bool.not_eq_true] at hmk
   rw [hmk] at HMA
   have HNX:=Lib.hid HSW.out.next
   clear hh2 hob hid hwr hv9 hel ho hcc ha hak hmk k1 k2 k3 k4 k5 k6 k7 k8 k9 k10 k11 k12 k13 k14 k15 k16 HSW HCE hcells HBB hbb9
   go_wp2_with fail
   refine HMA.out.mono ?_
   rintro e y1 ⟨rfl,rfl⟩
   clear HMA
   go_wp2_with fail
   go_roundg (n-(k+1))
   case measure => omega
   case rel => exact ⟨k+1,by go_num,by omega,rfl,HNX.out⟩
  case pos =>
  rw [hmk] at HMA
  obtain ⟨R,hR,rb,rid⟩:=hob.all (a:=a) (by omega) (by omega) (by omega)
  have hB:w.heap.size≤w1.heap.size:=HB1.out.size
  have hmk2:=(mayB_iff _).1 hmk
  have hdo:=hh2.does (R:=R) fun K2 n2 => does_all a n2 HE1.out hob (by omega) (by omega) ho hB (by omega) hmk2 hR
  rw [hid] at hdo
  have HDO:=Lib.hid hdo
  have HWR:=Lib.hid hh2.base
  have hdo2:∀ (W:World) (K:Nat→Prop) (bd j jx:Nat) (oo:Hs),Below w1.heap.size w1 W→H2 w1 W K jo bd' j' jx' o jh bd j jx oo→Calls Tryz.prog 45 #[.pointer (some ⟨jo,0,none⟩),.agg (oactC a).toArray,.int .i64 2] W fun e w' => ∃ u bd' j' jx',e=.returned (.tuple #[u,.int .i64 R.1.2])∧OwnMl w' W.heap.size u R.1.1∧H2 w1 w' (KU K u) jo bd' j' jx' R.2 jh bd j jx oo∧Keeps K W w':=fun W K bd j jx oo hW hh => by
   have:=hh.does (R:=R) fun K2 n2 => does_all a n2 HE1.out hob (by omega) (by omega) (HCE.out W (HRDB.out W hW)).1 hB (by omega) hmk2 hR
   rw [hid] at this
   exact this
  have HDO2:=Lib.hid hdo2
  obtain ⟨rl,hrl⟩:∃ rl,rl=R.1.1.length:=⟨_,rfl⟩
  have HRL:=Lib.hid hrl
  clear hrl
  have HRB:=Lib.hid rb
  have HRI:=Lib.hid (rid.trans hid)
  obtain ⟨kx,kc,hkv,_⟩:=id ho.kv
  obtain ⟨kl,hkl⟩:∃ kl,kl=a.keep.length:=⟨_,rfl⟩
  rw [← hkl] at hkv
  rw [hkv] at k11
  have HLD:=Lib.hid (fun (W:World) (hW:Below w.heap.size w W) => oact_load (b:=bb) (off:=off+k*17) (a:=a) (fun i hi => by rw [Nat.add_assoc];exact (HCE.out W hW).2 i hi))
  rw [hkv] at HLD
  unfold oactC at HDO HDO2
  rw [hkv] at HDO HDO2
  clear hh2 hob hid hwr hv9 hel ho hcc ha hak hmk hmk2 rb rid hR hB hdo hdo2 HSW HCE hcells HBB hbb9 hkv hkl
  obtain ⟨kd,nd,nn,⟨zt,zi,zp,zs,zh,za,zd,zn⟩,kv,keep,own,ah,af,an,adt⟩:=a
  simp only at k0 k1 k2 k3 k4 k5 k6 k7 k8 k9 k10 k11 k12 k13 k14 k15 k16 HMA HDO HDO2 HLD
  go_upto_block 1 with fail
  refine wp_block ?_
  refine wp_seq_k fun L0 hL0 => ?_
  have HL0:=Lib.hid hL0
  clear hL0
  go_wp2_with fail
  refine HMA.out.mono ?_
  rintro e y1 ⟨rfl,rfl⟩
  clear HMA k0 k1 k2 k3 k4 k5 k6 k7 k8 k9 k10 k11 k12 k13 k14 k15 k16
  go_wp2_with fail
  refine HL0.out _ _ ?_
  refine sa_do HRDB HWR.out hlt2 hn100 HLD HDO HDO2 (fun c a o v w h => by cases o <;> exact h) ?_
  intros
  rename_i wx hbx
  have HFX:=Lib.hid (show SaW w1 wx jh jo (k+1) from by
   obtain ⟨bd2,j2,jx2,bd3,j3,jx3,hbx⟩:=hbx
   exact ⟨bd2,j2,jx2,bd3,j3,jx3,_,hbx,HRB.out,HRI.out⟩)
  clear hbx HDO HDO2 HLD HL0
  go_wp2_with fail
  go_roundg (n-(k+1))
  case measure => omega
  case rel => exact ⟨k+1,by go_num,by omega,rfl,HFX.out⟩
end Go.Proofs.YtdacanghbepjpaaGreatDoor
