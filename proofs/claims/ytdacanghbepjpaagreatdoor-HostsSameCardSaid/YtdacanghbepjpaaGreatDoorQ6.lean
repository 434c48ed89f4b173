/- The chapter's host: what it comes to, plainly. The chapter's host: walked. -/
import Derived.Test.YtdacanghbepjpaaGreatDoorQ4
import Derived.Test.YtdacanghbepjpaaGreatDoorM14
import Derived.Test.YtdacanghbepjpaaGreatDoorQ1
namespace Go.Proofs.YtdacanghbepjpaaGreatDoor
set_option linter.unusedSimpArgs false
set_option linter.unusedVariables false
open Dsk
def x0E:Dm:=⟨0,0,0,noB,0,0⟩
theorem hv_rest:∃ d1 h1 s1 d2 x2 d3 s3 d4 x4 d5 x5,
  appP (Dk.new 10000) ⟨0,false,[]⟩ (spanD 1)=(0,h1,d1)∧NodeC d1 h1 s1 x0E [spanD 1] 10000 1 ∧
  stepC 0 d1 h1 x0E=((noB,0),x2,d2)∧NodeC d2 h1 s1 x2 [spanD 1] 10000 2∧x2.sent=0 ∧
  syncP d2 h1=(0,h1,d3)∧NodeC d3 h1 s3 x2 [spanD 1] 10000 3 ∧
  stepC 0 d3 h1 x2=((batchB 0 0 [spanD 1],0),x4,d4)∧NodeC d4 h1 s3 x4 [spanD 1] 10000 4∧x4.sent=0 ∧
  takeC (Po.ackS 0 0 1) d4 x4=((true,0),x5,d5)∧NodeC d5 h1 s3 x5 [spanD 1] 10000 5∧x5.sent=0∧x5.next=1∧x5.gap=0∧x5.host=0 ∧
  firstOf h1.l=0∧sureOf h1.l s3=1∧nextOf h1.l=1:=by
 have n0:=NodeC.new 0 (by decide) (c:=10000) (by decide) (by decide)
 obtain ⟨a1,a2,s1,n1,su1⟩:=n0.app (by omega) (by omega) (spanD 1) (spanD_may (by omega))
 obtain ⟨⟨r1,h1,d1⟩,hR1⟩:∃ R,R=appP (Dk.new 10000) ⟨0,false,[]⟩ (spanD 1):=⟨_,rfl⟩
 rw [← hR1] at a1 a2 n1
 simp only at a1 a2 n1
 subst a1
 have hl:h1.l=lsE 1:=a2
 have hs0:sureOf h1.l s1=0:=by rw [a2];exact su1
 have hf:firstOf h1.l=0:=by rw [hl];exact first_lsE (by omega)
 obtain ⟨_,_,d2,x2,b1,n2,b2,b3,b4,b5,b6⟩:=n1.step0 (by omega) (by omega) rfl 0 0 (by rw [hf];rfl)
 rw [hs0] at b6
 rcases b6 with ⟨_,b6,b7⟩ | ⟨b6,_⟩
 case inr => omega
 rw [b6] at b1
 obtain ⟨c1,c2,s3,n3,c3⟩:=n2.sync
 obtain ⟨⟨r3,h3,d3⟩,hR3⟩:∃ R,R=syncP d2 h1:=⟨_,rfl⟩
 rw [← hR3] at c1 c2 n3
 simp only at c1 c2 n3
 subst c1 c2
 have hs1:sureOf h3.l s3=1:=c3
 obtain ⟨_,_,d4,x4,e1,n4,e2,e3,e4,e5,e6⟩:=n3.step0 (by omega) (by omega) b6 0 0 (by rw [hf,b3];rfl)
 rw [hs1] at e6
 rcases e6 with ⟨e6,_⟩ | ⟨_,e6,e7,e8⟩
 · omega
 have hpg:pageL h3.l s3 0=[spanD 1]:=by rw [e8.is_];rfl
 rw [hpg] at e6 e7
 have f1:x4.host=0:=e2.trans b2
 have f2:x4.next=0:=e3
 have f3:x4.many=1:=e7
 have hx2h:x2.host=0:=b2
 rw [hx2h] at e6
 have e6':x4.out=batchB 0 0 [spanD 1]:=e6
 have f4:x4.out≠noB:=by rw [e6'];exact batchB_ne _ _ _
 have f5:x4.gap=0:=by rw [e4,b4,b3];rfl
 have k1:Po.decAck (Po.ackS 0 0 1)=some (0,0,1):=Po.decAck_ack (h:=0) (f:=0) (n:=1) ⟨by decide,by decide,by decide,by decide⟩
 rcases n4.take (by omega) (by omega) (Po.ackS 0 0 1) with ⟨e,_⟩ | ⟨_,e,_⟩ | ⟨_,_,d5,g1,n5⟩
 · rw [k1] at e;cases e
 · exact absurd ⟨f4,by rw [k1,f1,f2,f3];rfl⟩ e
 rw [f2,f3] at g1 n5
 rw [e6'] at e1
 have hnx:nextOf h3.l=1:=n5.next
 refine ⟨d1,h3,s1,d2,x2,d3,s3,d4,x4,d5,_,hR1.symm,n1,b1,n2,b5,hR3.symm,n3,e1,n4,e5,g1,n5,e5,rfl,f5,f1,hf,hs1,hnx⟩
end Go.Proofs.YtdacanghbepjpaaGreatDoor
namespace Go.Proofs.YtdacanghbepjpaaGreatDoor
set_option linter.unusedSimpArgs false
set_option linter.unusedVariables false
set_option maxRecDepth 100000
open Go.RowKit Go.Maps
open Dsk
set_option maxHeartbeats 2000000 in
theorem spanH_any (n:Int) (w:World):Calls Tryz.prog 102 #[.int .i64 n] w fun e w' => e=.returned (spV (spanD n))∧Below w.heap.size w w':=by
 go_enter Tryz.func102,Tryz.ntmps102
 go_wp2_with fail
 have k:=Blk.alloc_new w 47 #[.int .i64 3,.int .i64 n,.int .i64 0,.string ⟨#[97]⟩,.string ⟨#[104]⟩,.int .i64 10,.int .i64 0,.string ⟨#[]⟩]
 have k0:=k.cell 0
 have k1:=k.cell 1
 have k2:=k.cell 2
 have k3:=k.cell 3
 have k4:=k.cell 4
 have k5:=k.cell 5
 have k6:=k.cell 6
 have k7:=k.cell 7
 simp only [List.getElem?_toArray,List.getElem?_cons_zero,List.getElem?_cons_succ] at k0 k1 k2 k3 k4 k5 k6 k7
 refine bodyPost_ret (v:=.agg #[.int .i64 3,.int .i64 n,.int .i64 0,.string ⟨#[97]⟩,.string ⟨#[104]⟩,.int .i64 10,.int .i64 0,.string ⟨#[]⟩]) (by simp [results,Tryz.results102,go_sem,k0,k1,k2,k3,k4,k5,k6,k7]) rfl ⟨rfl,?_⟩
 exact (Below.refl _ _).alloc (Nat.le_refl _) _
def oN (d:Dk) (h:Hl) (x:Dm):Hs:=⟨0,0,0,true,d,h,x⟩
theorem oN_settle {d:Dk} {h:Hl} {x:Dm} (hd:d.off=false):(oN d h x).settle=oN d h x:=by
 unfold Hs.settle oN
 simp only [hd,Bool.not_false,Bool.and_true]
section
variable {w0 w w':World} {K:Nat→Prop} {jh bd j jx s B:Nat} {d d':Dk} {h h':Hl} {x x':Dm} {y:Sp.Span}
theorem oN_write (n:HE w0 w K jh bd j jx (oN d h x)) (he:LEnv w0) (f:Few d h s x) (h1:y.service.size≤maxLen) (h2:y.host.size≤maxLen) (h3:y.note.size≤maxLen) (hR:appP d h y=(0,h',d')) (hd:d'.off=false) :
  Calls Tryz.prog 62 #[.pointer (some ⟨jh,0,none⟩),spV y] w fun e w' => e=.returned (.int .i64 0)∧HE w0 w' K jh bd j jx (oN d' h' x)∧Keeps K w w':=by
 have hc:=ho_write n he y h1 h2 h3 (fun _ => ⟨f,Int.le_refl _,by show (0:Int)≤1000000;decide⟩)
 have e1:(appP (oN d h x).d (oN d h x).h y).1=0:=by show (appP d h y).1=0;rw [hR]
 have e2:wroteO (oN d h x) y=oN d' h' x:=by
  unfold wroteO
  show (⟨0,0,if (appP d h y).1=0 then 0 else 0+1,true,(appP d h y).2.2,(appP d h y).2.1,x⟩:Hs)=_
  rw [hR];rfl
 rw [HoR.up rfl,e1,e2,oN_settle hd] at hc
 exact hc
theorem oN_sync (n:HE w0 w K jh bd j jx (oN d h x)) (he:LEnv w0) (f:Few d h s x) (hR:syncP d h=(0,h',d')) (hd:d'.off=false) :
  Calls Tryz.prog 63 #[.pointer (some ⟨jh,0,none⟩)] w fun e w' => e=.returned (.int .i64 0)∧HE w0 w' K jh bd j jx (oN d' h' x)∧Keeps K w w':=by
 have hc:=ho_sync n he (fun _ => f)
 have e1:(syncP (oN d h x).d (oN d h x).h).1=0:=by show (syncP d h).1=0;rw [hR]
 have e2:({ oN d h x with d:=(syncP (oN d h x).d (oN d h x).h).2.2,h:=(syncP (oN d h x).d (oN d h x).h).2.1 }:Hs)=oN d' h' x:=by
  show (⟨0,0,0,true,(syncP d h).2.2,(syncP d h).2.1,x⟩:Hs)=_
  rw [hR];rfl
 rw [HoR.up rfl,e1,e2,oN_settle hd] at hc
 exact hc
theorem oN_step {b:ByteArray} (n:HE w0 w K jh bd j jx (oN d h x)) (he:LEnv w0) (f:Few d h s x) (hs:x.sent=0) (hR:stepC 0 d h x=((b,0),x',d')) (hd:d'.off=false) :
  Calls Tryz.prog 61 #[.pointer (some ⟨jh,0,none⟩)] w fun e w' => ∃ u,e=.returned (.tuple #[u,.int .i64 0])∧OwnMl w' w.heap.size u (if b=noB then [] else [⟨0,-1,b⟩])∧HE w0 w' (KU K u) jh bd j jx (oN d' h x')∧Keeps K w w':=by
 have hc:=ho_step n he (fun _ => ⟨f,⟨by show (-4611686018427387904:Int)≤0∧(0:Int)≤4611686018427387903;decide,by show -4611686018427387904≤x.sent∧x.sent≤4611686018427387903;omega⟩⟩) n.base.size
 have e0:stepR (oN d h x)=((sentO (oN d h x),(stepC 0 d h x).1.2),(stepO (oN d h x)).settle):=if_pos rfl
 have e1:sentO (oN d h x)=(if b=noB then [] else [⟨0,-1,b⟩]):=by
  unfold sentO
  show (if (stepC 0 d h x).1.1=noB then [] else [(⟨0,-1,(stepC 0 d h x).1.1⟩:Ml)])=_
  rw [hR]
 have e2:stepO (oN d h x)=oN d' h x':=by
  unfold stepO
  show (⟨0,0,0,true,(stepC 0 d h x).2.2,h,(stepC 0 d h x).2.1⟩:Hs)=_
  rw [hR];rfl
 rw [e0,e1,e2,oN_settle hd,hR] at hc
 exact hc
theorem oN_take {m:Ml} (n:HE w0 w K jh bd j jx (oN d h x)) (f:Few d h s x) (hm:m.data.size≤maxLen) (hto:m.to=0) (hR:takeC m.data.data.toList d x=((true,0),x',d')) (hd:d'.off=false) :
  Calls Tryz.prog 67 #[.pointer (some ⟨jh,0,none⟩),mlV m] w fun e w' => e=.returned (.int .i64 0)∧HE w0 w' K jh bd j jx (oN d' h x')∧Keeps K w w':=by
 have hc:=ho_take n m hm (fun _ => f)
 have e2:takeO m (oN d h x)=(0,oN d' h x'):=by
  unfold takeO
  rw [if_pos (show m.to=(oN d h x).id from hto)]
  show (((takeC m.data.data.toList d x).1.2,⟨0,0,0,true,(takeC m.data.data.toList d x).2.2,h,(takeC m.data.data.toList d x).2.1⟩):Int×Hs)=_
  rw [hR];rfl
 rw [HoR.up rfl,e2,oN_settle hd] at hc
 exact hc
end
theorem NodeC.hoI {d:Dk} {h:Hl} {s k c:Nat} {x:Dm} {Ls:List Sp.Span} {id:Int} (n:NodeC d h s x Ls c k) (hh:x.host=id):HoI d h s x id c k:=⟨n.node,hh,by have:=n.next;have:=n.many;omega,n.tot,n.len,n.room⟩
def K0 (w:World):Nat→Prop:=fun k => k<w.heap.size
set_option maxHeartbeats 16000000 in
theorem lives_h (w:World) (he:LEnv w):Calls Tryz.prog 42 #[] w fun e w' => e=.returned (.bool true)∧Below w.heap.size w w':=by
 obtain ⟨d1,h1,s1,d2,x2,d3,s3,d4,x4,d5,x5,a1,n1,a2,n2,a2s,a3,n3,a4,n4,a4s,a5,n5,a5s,x5n,x5g,x5h,f0,f1,f2⟩:=hv_rest
 have hnew:=ho_new 0 ⟨by decide,by decide⟩ 10000 (by decide) (by decide) w (w0:=w) (Below.refl _ _)
 have hcst:((10000:Nat):Int)=10000:=rfl
 rw [hcst] at hnew
 have HNEW:=Lib.hid hnew
 have HEV:=Lib.hid he
 -- the crash,and a new beginning
 have i5:HoI d5 h1 s3 x5 0 10000 5:=n5.hoI x5h
 obtain ⟨cr,hcr⟩:=i5.crash []
 have HCR:=Lib.hid cr
 obtain ⟨d6,hd6⟩:∃ d6,d6=(d5.crash []).2:=⟨_,rfl⟩
 rw [← hd6] at hcr
 rcases hcr with ⟨e,s',i',_⟩ | ⟨hoff6,iD⟩
 · exfalso
   obtain ⟨l',t',fl,st⟩:=i5.node.run.crash []
   rw [← hd6] at fl
   rw [fl.off] at e
   cases e
 obtain ⟨o7,l7,t7,dr7,d7,s7,A7,b7,i7,u7,id7,m7,now7,ref7,nx7,gp7⟩:=HoD.begins (o:=⟨0,0,0,false,d6,h1,x5⟩) iD (by omega) (by decide) ⟨by show (0:Int)≤0;decide,by show (0:Int)≤((5+1:Nat):Int);decide⟩ ⟨by show (0:Int)≤0;decide,by show (0:Int)≤((5+1:Nat):Int);decide⟩ ⟨by show (0:Int)≤0;decide,by show (0:Int)<4;decide⟩
 have F0:=Lib.hid (n1.few (by omega) (by omega))
 have F1:=Lib.hid ((NodeC.new 0 (by decide) (c:=10000) (by decide) (by decide)).few (by omega) (by omega))
 have F2:=Lib.hid (n2.few (by omega) (by omega))
 have F3:=Lib.hid (n3.few (by omega) (by omega))
 have F4:=Lib.hid (n4.few (by omega) (by omega))
 have F5:=Lib.hid (n5.few (by omega) (by omega))
 have OFF:=Lib.hid (show d1.off=false∧d2.off=false∧d3.off=false∧d4.off=false∧d5.off=false from ⟨n1.node.off,n2.node.off,n3.node.off,n4.node.off,n5.node.off⟩)
 have PL:=Lib.hid (And.intro a1 (And.intro a2 (And.intro a3 (And.intro a4 a5))))
 have SN:=Lib.hid (And.intro a2s (And.intro a4s a5s))
 have FN:=Lib.hid (And.intro f0 (And.intro f1 f2))
 have XN:=Lib.hid (And.intro x5n x5g)
 have HA7:=Lib.hid A7
 have HU7:=Lib.hid (And.intro u7 (And.intro (nx7.trans x5n) (gp7.trans x5g)))
 have HD6:=Lib.hid (And.intro hd6 hoff6)
 clear hnew hcst he a1 a2 a3 a4 a5 n1 n2 n3 n4 n5 a2s a4s a5s f0 f1 f2 x5n x5g x5h A7 b7 i7 u7 id7 m7 now7 ref7 nx7 gp7 iD i5 cr hd6 hoff6
 go_enter Tryz.func42,Tryz.ntmps42
 go_wp2_with fail
 refine HNEW.out.mono ?_
 rintro e w1 ⟨jh,rfl,bd,j,jx,hn1,_⟩
 have HN1:=Lib.hid (show HE w w1 (K0 w) jh bd j jx (oN (Dk.new 10000) ⟨0,false,[]⟩ x0E) from hn1)
 clear hn1 HNEW
 go_wp2_with fail
 refine (spanH_any 1 w1).mono ?_
 rintro e w2 ⟨rfl,hb2⟩
 have hw:=oN_write (y:=spanD 1) (HN1.out.below hb2) HEV.out F1.out (by show (⟨#[97]⟩:ByteArray).size≤maxLen;decide) (by show (⟨#[104]⟩:ByteArray).size≤maxLen;decide) (by show (⟨#[]⟩:ByteArray).size≤maxLen;decide) PL.out.1 OFF.out.1
 unfold spV spanD at hw ⊢
 simp only at hw ⊢
 have HC:=Lib.hid hw
 clear hb2 hw HN1
 go_wp2_with fail
 refine HC.out.mono ?_
 rintro e w3 ⟨rfl,hn3,_⟩
 have HC3:=Lib.hid (oN_step hn3 HEV.out F0.out rfl PL.out.2.1 OFF.out.2.1)
 clear hn3 HC
 go_wp2_with fail
 refine HC3.out.mono ?_
 rintro e w4 ⟨u,rfl,hu4,hn4,_⟩
 simp only [if_true] at hu4
 obtain ⟨ux,uc,hux⟩:=OwnRow.shape hu4
 simp only [List.length_nil] at hux
 subst hux
 have HC4:=Lib.hid (oN_sync (hn4.drop fun k e => .inl e) HEV.out F2.out PL.out.2.2.1 OFF.out.2.2.1 (K:=K0 w))
 clear hu4 hn4 HC3
 go_wp2_with fail
 refine HC4.out.mono ?_
 rintro e w5 ⟨rfl,hn5,_⟩
 have HC5:=Lib.hid (oN_step hn5 HEV.out F3.out SN.out.1 PL.out.2.2.2.1 OFF.out.2.2.2.1)
 clear hn5 HC4
 go_wp2_with fail
 refine HC5.out.mono ?_
 rintro e w6 ⟨u,rfl,hu6,hn6,_⟩
 rw [if_neg (batchB_ne _ _ _)] at hu6
 obtain ⟨ux,uc,hux⟩:=OwnRow.shape hu6
 simp only [List.length_singleton] at hux
 subst hux
 have HU6:=Lib.hid hu6
 have HN6:=Lib.hid (show HE w w6 (K0 w) jh bd j jx (oN d4 h1 x4) from hn6.drop fun k e => .inl e)
 have HAK:=Lib.hid (encAck_any 0 0 1 w6)
 unfold ackV at HAK
 clear hu6 hn6 HC5
 go_wp2_with fail
 refine HAK.out.mono ?_
 rintro e w7 ⟨rfl,hb7⟩
 have hrd:=OwnRow.rd mlRow_len (OwnRow.below HU6.out hb7)
 obtain ⟨y9,c9,hy9,_,hel⟩:=hrd
 simp only [List.length_singleton] at hy9
 obtain ⟨rfl,rfl⟩:ux=y9∧uc=c9:=by injection hy9 with e1 e2 e3;exact ⟨e1,e3⟩
 obtain ⟨b9,o9,rfl,hb9,hcel⟩:=hel 0 (by simp)
 have c1:w7.cell? ⟨b9,o9+1,none⟩=some (.int .i64 (-1)):=by
  have:=hcel 1 (.int .i64 (-1)) (by simp [mlRow])
  rw [Nat.zero_mul,Nat.add_zero] at this
  exact this
 have hea:(encAck 0 0 1).1=ackB 0 0 1:=encAck_of ⟨by decide,by decide,by decide,by decide⟩
 have htk:=oN_take (m:=⟨-1,0,(encAck 0 0 1).1⟩) (HN6.out.below hb7) F4.out (by rw [hea];exact ackB_size ⟨by decide,by decide,by decide,by decide⟩) rfl (by rw [hea];exact PL.out.2.2.2.2) OFF.out.2.2.2.2
 unfold mlV mlRow at htk
 have HC7:=Lib.hid htk
 clear hb7 hy9 hel hcel hea htk HAK HN6 HU6
 go_wp2_with fail
 refine HC7.out.mono ?_
 rintro e w8 ⟨rfl,hn8,_⟩
 have hcu:=ho_cursor hn8
 have ecu:curO (oN d5 h1 x5)=curV 1 0:=by
  unfold curO
  rw [if_pos (show (oN d5 h1 x5).up=true from rfl)]
  show curV x5.next x5.gap=_
  rw [XN.out.1,XN.out.2]
 rw [ecu] at hcu
 unfold curV at hcu
 have HC8:=Lib.hid hcu
 have HN8:=Lib.hid hn8
 clear hn8 hcu ecu HC7 c1
 go_wp2_with fail
 refine HC8.out.mono ?_
 rintro e w9 ⟨rfl,hb9⟩
 have hlg:=ho_log_up (HN8.out.below hb9) rfl HEV.out F5.out
 have elg:firstOf (oN d5 h1 x5).h.l=0∧sureOf (oN d5 h1 x5).h.l s3=1∧nextOf (oN d5 h1 x5).h.l=1:=FN.out
 rw [elg.1,elg.2.1,elg.2.2] at hlg
 have HC9:=Lib.hid hlg
 have HN9:=Lib.hid (HN8.out.below hb9)
 clear hb9 hlg elg HC8 HN8
 go_wp2_with fail
 refine HC9.out.mono ?_
 rintro e w10 ⟨rfl,hb10⟩
 have hcr:=ho_crash (HN9.out.below hb10) (.slice none 0 0) [] ⟨none,0,rfl,fun _ => rfl,fun j hj => absurd hj (by simp)⟩ (by simp)
 have ecr:HoR (oN d5 h1 x5) ((oN d5 h1 x5).d.crash []).1 { oN d5 h1 x5 with d:=((oN d5 h1 x5).d.crash []).2 }=(0,⟨0,0,0,false,d6,h1,x5⟩):=by
  rw [HoR.up rfl]
  show ((d5.crash []).1,(⟨0,0,0,true && !(d5.crash []).2.off,(d5.crash []).2,h1,x5⟩:Hs))=_
  rw [HCR.out,← HD6.out.1,HD6.out.2]
  rfl
 rw [ecr] at hcr
 have HC10:=Lib.hid hcr
 clear hb10 hcr ecr HC9 HN9
 go_wp2_with fail
 refine HC10.out.mono ?_
 rintro e w11 ⟨rfl,hn11,_⟩
 have HN11:=Lib.hid hn11
 clear hn11 HC10
 go_wp2_with fail
 refine (spanH_any 2 w11).mono ?_
 rintro e w12 ⟨rfl,hb12⟩
 have hwr:=ho_write (s:=0) (HN11.out.below hb12) HEV.out (spanD 2) (by show (⟨#[97]⟩:ByteArray).size≤maxLen;decide) (by show (⟨#[104]⟩:ByteArray).size≤maxLen;decide) (by show (⟨#[]⟩:ByteArray).size≤maxLen;decide) (fun e => by cases e)
 rw [HoR.no rfl] at hwr
 unfold spV spanD at hwr ⊢
 simp only at hwr ⊢
 have HC12:=Lib.hid hwr
 clear hb12 hwr HN11
 go_wp2_with fail
 refine HC12.out.mono ?_
 rintro e w13 ⟨rfl,hn13,_⟩
 have HC13:=Lib.hid (ho_up hn13)
 have HN13:=Lib.hid hn13
 clear hn13 HC12
 go_wp2_with fail
 refine HC13.out.mono ?_
 rintro e w14 ⟨rfl,rfl⟩
 have hrs:=ho_restart HN13.out HEV.out rfl HA7.out.off HA7.out.start HA7.out.on HA7.out.files HA7.out.next HA7.out.opened HA7.out.dOff HA7.out.load ⟨by show (0:Int)≤0;decide,by show (0:Int)<4;decide⟩
 rw [← HA7.out.is] at hrs
 have HC14:=Lib.hid hrs
 clear hrs HC13 HN13
 go_wp2_with fail
 refine HC14.out.mono ?_
 rintro e w15 ⟨rfl,j2,jx2,hn15,_⟩
 have hcu:=ho_cursor hn15
 have ecu:curO o7=curV 1 0:=by
  unfold curO
  rw [if_pos HU7.out.1,HU7.out.2.1,HU7.out.2.2]
 rw [ecu] at hcu
 unfold curV at hcu
 have HC15:=Lib.hid hcu
 have HN15:=Lib.hid hn15
 clear hn15 hcu ecu HC14
 go_wp2_with fail
 refine HC15.out.mono ?_
 rintro e w16 ⟨rfl,hb16⟩
 have HN16:=Lib.hid (HN15.out.below hb16)
 have HC16:=Lib.hid (ho_restart_up (HN15.out.below hb16) HU7.out.1)
 clear hb16 HC15 HN15
 go_wp2_with fail
 refine HC16.out.mono ?_
 rintro e w17 ⟨rfl,rfl⟩
 have HBF:=Lib.hid HN16.out.base
 clear HC16 HN16
 go_wp2_with fail
 go_ret
 exact ⟨rfl,HBF.out⟩
end Go.Proofs.YtdacanghbepjpaaGreatDoor
