/- A host's log's pages: walked. -/
import Derived.Test.YtdacanghbepjpaaGreatDoorHlRecs
import Derived.Test.YtdacanghbepjpaaGreatDoorSink2
import Derived.Test.YtdacanghbepjpaaGreatDoorHlR
import Derived.Maps.AppendAt
namespace Go.Proofs.YtdacanghbepjpaaGreatDoor
set_option linter.unusedSimpArgs false
set_option linter.unusedVariables false
set_option maxRecDepth 100000
open Go.RowKit Go.Maps
open Dsk
attribute [local go_sem] Oper.semAt_some
def OnlyN (Q:Exit→Act→World→Prop):Exit→Act→World→Prop
 | .normal,a,w => Q .normal a w
 | _,_,_ => False
theorem wp_onlyN {P:Program} {c:Code} {Q:Exit→Act→World→Prop} {a:Act} {w:World} (h:c.wp P (OnlyN Q) a w):c.wp P Q a w :=
 wp_mono h fun e a w hq => by
  cases e with
  | normal => exact hq
  | _ => exact hq.elim
section
variable {w0 w w':World} {X H S:Nat→Prop} {v lv:Value} {d d':Dk} {j B:Nat} {h:Hl} {vs:List SegV} {l:List Sg}
set_option maxHeartbeats 2000000 in
theorem hrecords_any (w:World):Calls Tryz.prog 94 #[.pointer (some ⟨j,0,none⟩)] w fun e w' => e=.returned (.func (.func 151) #[] #[.pointer (some ⟨w.heap.size,0,none⟩)])∧w.alloc (.cells #[.pointer (some ⟨j,0,none⟩)] 33 (0,0))=w':=by
 go_enter Tryz.func94,Tryz.ntmps94
 go_wp2_with fail
 go_ret
 exact ⟨rfl,rfl⟩
def ReadPost (d:Dk) (h:Hl) (f m:Int) (w:World) (e:Ending) (w':World):Prop :=
 ∃ u,e=.returned (.tuple #[u,.int .i64 (readP d h f m).2.1,.int .i64 (readP d h f m).2.2])∧OwnSp w' w.heap.size u (readP d h f m).1∧Below w.heap.size w w'
theorem blk_putObj' {w:World} {b l:Nat} {t:TypeId} {u:Value} (h:Boxed w b t u) (o:Obj) (hne:b≠l):(w.putObj l o).cell? ⟨b,0,none⟩=some u:=by
 have:Boxed (w.putObj l o) b t u:=by
  unfold Boxed at *
  rw [World.putObj_heap_other hne];exact h
 exact this.cell
theorem three_boxes (w:World) (f m:Int) (w1:World) (hw1:w1=((w.alloc (.cells #[.int .i64 f] 3 (0,0))).alloc (.cells #[.int .i64 m] 3 (0,0))).alloc (.cells #[.slice none 0 0] 61 (0,0))) :
  Blk w1 w.heap.size 3 #[.int .i64 f]∧Blk w1 (w.heap.size+1) 3 #[.int .i64 m]∧Blk w1 (w.heap.size+1+1) 61 #[.slice none 0 0]∧Below w.heap.size w w1∧w1.heap.size=w.heap.size+3:=by
 subst hw1
 obtain ⟨wa,hwa⟩:∃ wa,wa=w.alloc (.cells #[.int .i64 f] 3 (0,0)):=⟨_,rfl⟩
 obtain ⟨wb,hwb⟩:∃ wb,wb=wa.alloc (.cells #[.int .i64 m] 3 (0,0)):=⟨_,rfl⟩
 obtain ⟨wc,hwc⟩:∃ wc,wc=wb.alloc (.cells #[.slice none 0 0] 61 (0,0)):=⟨_,rfl⟩
 rw [← hwa,← hwb,← hwc]
 have ha:Below w.heap.size w wa:=by rw [hwa];exact (Below.refl _ _).alloc (Nat.le_refl _) _
 have hb:Below wa.heap.size wa wb:=by rw [hwb];exact (Below.refl _ _).alloc (Nat.le_refl _) _
 have hc:Below wb.heap.size wb wc:=by rw [hwc];exact (Below.refl _ _).alloc (Nat.le_refl _) _
 have haz:wa.heap.size=w.heap.size+1:=by rw [hwa];exact Array.size_push _
 have hbz:wb.heap.size=wa.heap.size+1:=by rw [hwb];exact Array.size_push _
 have hcz:wc.heap.size=wb.heap.size+1:=by rw [hwc];exact Array.size_push _
 have ka:Blk wa w.heap.size 3 #[.int .i64 f]:=by rw [hwa];exact Blk.alloc_new w _ _
 have kb:Blk wb wa.heap.size 3 #[.int .i64 m]:=by rw [hwb];exact Blk.alloc_new wa _ _
 have kc:Blk wc wb.heap.size 61 #[.slice none 0 0]:=by rw [hwc];exact Blk.alloc_new wb _ _
 rw [hbz,haz] at kc
 rw [haz] at kb
 exact ⟨(ka.below hb).below hc,kb.below hc,kc,(ha.trans (hb.mono ha.size)).trans (hc.mono (by omega)),by omega⟩
set_option maxHeartbeats 4000000 in
theorem hread_off (h0:HS w0 X H w v d j h) (hrun:¬ h.runs d) (f m:Int):Calls Tryz.prog 29 #[.pointer (some ⟨j,0,none⟩),.int .i64 f,.int .i64 m] w (ReadPost d h f m w):=by
 have hq:readP d h f m=([],0,51):=by unfold readP;rw [if_pos hrun]
 obtain ⟨w1,hw1⟩:∃ w1,w1=((w.alloc (.cells #[.int .i64 f] 3 (0,0))).alloc (.cells #[.int .i64 m] 3 (0,0))).alloc (.cells #[.slice none 0 0] 61 (0,0)):=⟨_,rfl⟩
 obtain ⟨k1,k2,k3,kb,kz⟩:=three_boxes w f m w1 hw1
 have HR:=Lib.hid (hruns_any (h0.below kb))
 rw [if_neg hrun] at HR
 have HP:=Lib.hid (fun (W:World) (hW:Below w.heap.size w W) => show ReadPost d h f m w (.returned (.tuple #[.slice none 0 0,.int .i64 0,.int .i64 51])) W from by
  unfold ReadPost
  rw [hq]
  exact ⟨_,rfl,OwnRow.nil _ _,hW⟩)
 have HK3:=Lib.hid k3
 have HB:=Lib.hid kb
 have HW:=Lib.hid hw1
 have HZ:=Lib.hid kz
 clear h0 hrun hq k1 k2 k3 kb kz hw1
 go_enter Tryz.func29,Tryz.ntmps29
 go_wp2_with fail
 rw [← HW.out]
 refine HR.out.mono ?_
 rintro e w2 ⟨rfl,hb2⟩
 have hk:=HK3.out.below hb2
 have c0:=hk.cell 0
 have c1:=hk.free 0
 simp at c0
 have hk2:=hk.set 0 (.slice none 0 0)
 have HB2:=Lib.hid ((HB.out.trans (hb2.mono HB.out.size)).setCell (p:=⟨w.heap.size+1+1,0,none⟩) (by simp;omega) (.slice none 0 0))
 have HK2:=Lib.hid hk2
 clear hb2 hk hk2
 go_wp2_with fail
 have d0:=HK2.out.cell 0
 simp at d0
 refine bodyPost_ret (v:=.tuple #[.slice none 0 0,.int .i64 0,.int .i64 51]) (by simp [results,Tryz.results29,go_sem,d0]) rfl ?_
 exact HP.out _ HB2.out
set_option maxHeartbeats 4000000 in
theorem hread_few (h0:HS w0 X H w v d j h) (he:LEnv w) (hbd:SgsBnd h.l) (hrun:h.runs d) (f m:Int) (hm:m<0) (hsu:sureL d h.l 0≤1000000000) :
  Calls Tryz.prog 29 #[.pointer (some ⟨j,0,none⟩),.int .i64 f,.int .i64 m] w (ReadPost d h f m w):=by
 obtain ⟨su,hsue⟩:∃ su,su=sureL d h.l 0:=⟨_,rfl⟩
 have hq:readP d h f m=([],0,2):=by unfold readP;rw [if_neg (fun e => e hrun),if_pos hm]
 rw [← hsue] at hsu
 obtain ⟨w1,hw1⟩:∃ w1,w1=((w.alloc (.cells #[.int .i64 f] 3 (0,0))).alloc (.cells #[.int .i64 m] 3 (0,0))).alloc (.cells #[.slice none 0 0] 61 (0,0)):=⟨_,rfl⟩
 obtain ⟨k1,k2,k3,kb,kz⟩:=three_boxes w f m w1 hw1
 have HR:=Lib.hid (hruns_any (h0.below kb))
 rw [if_pos hrun] at HR
 have HSU:=Lib.hid (fun (W:World) (hW:Below w.heap.size w W) => hsure_any (h0.below hW) (he.below hW) hbd)
 rw [if_pos hrun,← hsue] at HSU
 have HP:=Lib.hid (fun (W:World) (hW:Below w.heap.size w W) => show ReadPost d h f m w (.returned (.tuple #[.slice none 0 0,.int .i64 0,.int .i64 2])) W from by
  unfold ReadPost
  rw [hq]
  exact ⟨_,rfl,OwnRow.nil _ _,hW⟩)
 have HK2:=Lib.hid k2
 have HK3:=Lib.hid k3
 have HB:=Lib.hid kb
 have HW:=Lib.hid hw1
 have HZ:=Lib.hid kz
 clear h0 hrun hq k1 k2 k3 kb kz hw1 hbd hsue he
 go_enter Tryz.func29,Tryz.ntmps29
 go_wp2_with fail
 rw [← HW.out]
 refine HR.out.mono ?_
 rintro e w2 ⟨rfl,hb2⟩
 have HB2:=Lib.hid (HB.out.trans (hb2.mono HB.out.size))
 have HK2b:=Lib.hid (HK2.out.below hb2)
 have HK3b:=Lib.hid (HK3.out.below hb2)
 clear hb2 HK2 HK3
 go_wp2_with fail
 refine (HSU.out w2 HB2.out).mono ?_
 rintro e w3 ⟨rfl,hb3⟩
 have hk2:=HK2b.out.below hb3
 have hk3:=HK3b.out.below hb3
 have HB3:=Lib.hid (HB2.out.trans (hb3.mono HB2.out.size))
 clear hb3 HK2b HK3b
 have hb4:Below w3.heap.size w3 (w3.alloc (.cells #[.int .i64 su] 3 (0,0))):=(Below.refl _ _).alloc (Nat.le_refl _) _
 have hk24:=hk2.below hb4
 have hk34:=hk3.below hb4
 have m2:=hk24.cell 0
 have m3:=hk34.cell 0
 have n3:=hk34.free 0
 simp only [List.getElem?_toArray,List.getElem?_cons_zero] at m2 m3
 have HK4:=Lib.hid (hk34.set 0 (.slice none 0 0))
 have HB4:=Lib.hid ((HB3.out.trans (hb4.mono HB3.out.size)).setCell (p:=⟨w.heap.size+1+1,0,none⟩) (by simp;omega) (.slice none 0 0))
 clear hb4 hk24 hk34 hk2 hk3
 go_wp2_with fail
 have d0:=HK4.out.cell 0
 simp only [List.getElem?_toArray,List.setIfInBounds_toArray,List.set_cons_zero,List.getElem?_cons_zero] at d0
 refine bodyPost_ret (v:=.tuple #[.slice none 0 0,.int .i64 0,.int .i64 2]) (by simp [results,Tryz.results29,go_sem,d0]) rfl ?_
 exact HP.out _ HB4.out
set_option maxHeartbeats 4000000 in
theorem hread_far (h0:HS w0 X H w v d j h) (he:LEnv w) (hbd:SgsBnd h.l) (hrun:h.runs d) (f m:Int) (hm:0≤m) (hf1:f<firstOf h.l∨(sureL d h.l 0:Int)<f) (hsu:sureL d h.l 0≤1000000000) :
  Calls Tryz.prog 29 #[.pointer (some ⟨j,0,none⟩),.int .i64 f,.int .i64 m] w (ReadPost d h f m w):=by
 obtain ⟨fi,hfi⟩:∃ fi,fi=firstOf h.l:=⟨_,rfl⟩
 obtain ⟨su,hsue⟩:∃ su,su=sureL d h.l 0:=⟨_,rfl⟩
 have hq:readP d h f m=([],0,4):=by
  unfold readP;rw [if_neg (fun e => e hrun),if_neg (by omega),if_pos hf1]
 rw [← hfi,← hsue] at hf1
 rw [← hsue] at hsu
 have HP:=Lib.hid (fun (W:World) (hW:Below w.heap.size w W) => show ReadPost d h f m w (.returned (.tuple #[.slice none 0 0,.int .i64 0,.int .i64 4])) W from by
  unfold ReadPost
  rw [hq]
  exact ⟨_,rfl,OwnRow.nil _ _,hW⟩)
 obtain ⟨w1,hw1⟩:∃ w1,w1=((w.alloc (.cells #[.int .i64 f] 3 (0,0))).alloc (.cells #[.int .i64 m] 3 (0,0))).alloc (.cells #[.slice none 0 0] 61 (0,0)):=⟨_,rfl⟩
 obtain ⟨k1,k2,k3,kb,kz⟩:=three_boxes w f m w1 hw1
 have HR:=Lib.hid (hruns_any (h0.below kb))
 rw [if_pos hrun] at HR
 have HSU:=Lib.hid (fun (W:World) (hW:Below w.heap.size w W) => hsure_any (h0.below hW) (he.below hW) hbd)
 rw [if_pos hrun,← hsue] at HSU
 have HFI:=Lib.hid (fun (W:World) (hW:Below w.heap.size w W) => hfirst_any (h0.below hW) hbd.many)
 rw [if_pos hrun,← hfi] at HFI
 have HK1:=Lib.hid k1
 have HK2:=Lib.hid k2
 have HK3:=Lib.hid k3
 have HB:=Lib.hid kb
 have HW:=Lib.hid hw1
 have HZ:=Lib.hid kz
 clear h0 hrun hq k1 k2 k3 kb kz hw1 hbd hfi hsue he
 go_enter Tryz.func29,Tryz.ntmps29
 go_wp2_with fail
 rw [← HW.out]
 refine HR.out.mono ?_
 rintro e w2 ⟨rfl,hb2⟩
 have HB2:=Lib.hid (HB.out.trans (hb2.mono HB.out.size))
 have HK1b:=Lib.hid (HK1.out.below hb2)
 have HK2b:=Lib.hid (HK2.out.below hb2)
 have HK3b:=Lib.hid (HK3.out.below hb2)
 have HZ2:=Lib.hid (show w.heap.size+3≤w2.heap.size from by have:=hb2.size;have:=HZ.out;omega)
 clear hb2 HK1 HK2 HK3
 go_wp2_with fail
 refine (HSU.out w2 HB2.out).mono ?_
 rintro e w3 ⟨rfl,hb3⟩
 have HK1:=Lib.hid (HK1b.out.below hb3)
 have HK2:=Lib.hid (HK2b.out.below hb3)
 have HK3:=Lib.hid (HK3b.out.below hb3)
 have HB3:=Lib.hid (HB2.out.trans (hb3.mono HB2.out.size))
 have HZ3:=Lib.hid (Nat.le_trans HZ2.out hb3.size)
 clear hb3 HK1b HK2b HK3b
 obtain ⟨q,hq⟩:∃ q,q=w3.heap.size:=⟨_,rfl⟩
 obtain ⟨w4,hw4⟩:∃ w4,w4=w3.alloc (.cells #[.int .i64 su] 3 (0,0)):=⟨_,rfl⟩
 have hb4:Below w3.heap.size w3 w4:=by rw [hw4];exact (Below.refl _ _).alloc (Nat.le_refl _) _
 have hk4:Blk w4 q 3 #[.int .i64 su]:=by rw [hw4,hq];exact Blk.alloc_new w3 _ _
 have m2:=(HK2.out.below hb4).cell 0
 simp only [List.getElem?_toArray,List.getElem?_cons_zero] at m2
 rw [hw4] at m2
 have hm0:¬ m<0:=by omega
 have HK1c:=Lib.hid (HK1.out.below hb4)
 have HK2c:=Lib.hid (HK2.out.below hb4)
 have HK3c:=Lib.hid (HK3.out.below hb4)
 have HK4c:=Lib.hid hk4
 have HB4:=Lib.hid (HB3.out.trans (hb4.mono HB3.out.size))
 have HZ4:=Lib.hid (show w.heap.size+3≤q∧q<w4.heap.size from ⟨by rw [hq];exact HZ3.out,hk4.lt⟩)
 have HW4:=Lib.hid hw4
 have HQ4:=Lib.hid hq
 clear hb4 hk4 hw4 hq HK1 HK2 HK3
 go_wp2_with fail
 rw [← HW4.out,← HQ4.out]
 clear m2
 have HTC:=Lib.hid (fun (W:World) (hW:Below w4.heap.size w4 W) => show W.cell? ⟨w.heap.size,0,none⟩=some (.int .i64 f)∧W.cell? ⟨q,0,none⟩=some (.int .i64 su) from ⟨(HK1c.out.below hW).cell 0,(HK4c.out.below hW).cell 0⟩)
 refine wp_region_two (T:=fun W => W.cell? ⟨w.heap.size,0,none⟩=some (.int .i64 f)∧W.cell? ⟨q,0,none⟩=some (.int .i64 su)) (S:=fun _ => True) (n:=99) (by kernel_rfl) ?_
 obtain ⟨y1,hy1⟩:∃ y1,y1=w4.drew:=⟨_,rfl⟩
 rw [← hy1]
 have hby:Below w4.heap.size w4 y1:=by rw [hy1];exact (Below.refl _ _).drew
 have HY1:=Lib.hid hby
 have hS:True:=trivial
 have hT:=HTC.out y1 HY1.out
 clear hy1 hby
 by_cases hlt1:f<(fi:Int)
 · skip
   refine tk 0 24 hT hS ?_
   refine tk 1 25 hT hS ?_
   try simp only [xq]
   refine two_one 2 rfl (by kernel_rfl) ?_
   intro K hK
   go_simp
   refine (HFI.out y1 (HB4.out.trans (HY1.out.mono HB4.out.size))).mono ?_
   rintro e y2 ⟨rfl,hbz⟩
   have HBy2:=Lib.hid ((HY1.out).trans (hbz.mono (HY1.out).size))
   have hT1:=HTC.out y2 HBy2.out
   refine hK.out _ _ hT1 (fun _ _ => hS) ?_
   clear hK K hT hbz
   have hT:=hT1
   clear hT1
   try simp only [xq]
   refine tk 3 27 hT hS ?_
   refine tk 4 28 hT hS ?_
   try simp only [xq]
   refine tkT 5 29 (v:=undef) rfl rfl (Or.inr ⟨by rfl,rfl⟩) hT hS ?_
   try simp only [xq]
   refine tkT 6 30 (v:=undef) rfl rfl (Or.inr ⟨by rfl,rfl⟩) hT hS ?_
   try simp only [xq]
   refine tkT 7 31 (v:=undef) rfl rfl (Or.inr ⟨by rfl,rfl⟩) hT hS ?_
   try simp only [xq]
   refine tk 8 32 hT hS ?_
   refine tk 9 23 hT hS ?_
   try simp only [xq]
   refine two_done (by kernel_rfl) ?_ _
   clear hT hS
   have HBY:=Lib.hid (HB4.out.trans (HBy2.out.mono HB4.out.size))
   have hk3:=HK3c.out.below HBy2.out
   have m3:=hk3.cell 0
   have n3:=hk3.free 0
   simp only [List.getElem?_toArray,List.getElem?_cons_zero] at m3
   have HK5:=Lib.hid (hk3.set 0 (.slice none 0 0))
   have HB5:=Lib.hid (HBY.out.setCell (p:=⟨w.heap.size+1+1,0,none⟩) (by simp;omega) (.slice none 0 0))
   clear hk3
   go_wp2_with fail
   have d0:=HK5.out.cell 0
   simp only [List.getElem?_toArray,List.setIfInBounds_toArray,List.set_cons_zero,List.getElem?_cons_zero] at d0
   refine bodyPost_ret (v:=.tuple #[.slice none 0 0,.int .i64 0,.int .i64 4]) (by simp [results,Tryz.results29,go_sem,d0]) rfl ?_
   exact HP.out _ HB5.out
 · have hlt2:(su:Int)<f:=by omega
   refine tk 0 24 hT hS ?_
   refine tk 1 25 hT hS ?_
   try simp only [xq]
   refine two_one 2 rfl (by kernel_rfl) ?_
   intro K hK
   go_simp
   refine (HFI.out y1 (HB4.out.trans (HY1.out.mono HB4.out.size))).mono ?_
   rintro e y2 ⟨rfl,hbz⟩
   have HBy2:=Lib.hid ((HY1.out).trans (hbz.mono (HY1.out).size))
   have hT1:=HTC.out y2 HBy2.out
   refine hK.out _ _ hT1 (fun _ _ => hS) ?_
   clear hK K hT hbz
   have hT:=hT1
   clear hT1
   try simp only [xq]
   refine tk 3 27 hT hS ?_
   refine tk 4 28 hT hS ?_
   refine tk 5 29 hT hS ?_
   refine tk 6 30 hT hS ?_
   refine tk 7 31 hT hS ?_
   refine tk 8 32 hT hS ?_
   refine tk 9 23 hT hS ?_
   try simp only [xq]
   refine two_done (by kernel_rfl) ?_ _
   clear hT hS
   have HBY:=Lib.hid (HB4.out.trans (HBy2.out.mono HB4.out.size))
   have hk3:=HK3c.out.below HBy2.out
   have m3:=hk3.cell 0
   have n3:=hk3.free 0
   simp only [List.getElem?_toArray,List.getElem?_cons_zero] at m3
   have HK5:=Lib.hid (hk3.set 0 (.slice none 0 0))
   have HB5:=Lib.hid (HBY.out.setCell (p:=⟨w.heap.size+1+1,0,none⟩) (by simp;omega) (.slice none 0 0))
   clear hk3
   go_wp2_with fail
   have d0:=HK5.out.cell 0
   simp only [List.getElem?_toArray,List.setIfInBounds_toArray,List.set_cons_zero,List.getElem?_cons_zero] at d0
   refine bodyPost_ret (v:=.tuple #[.slice none 0 0,.int .i64 0,.int .i64 4]) (by simp [results,Tryz.results29,go_sem,d0]) rfl ?_
   exact HP.out _ HB5.out
set_option maxHeartbeats 4000000 in
theorem hread_main (h0:HS w0 X H w v d j h) (he:LEnv w) (hbd:SgsBnd h.l) (hrun:h.runs d) (f m:Int) (hm:0≤m) (hf1:(firstOf h.l:Int)≤f) (hf2:f≤sureL d h.l 0) (hN:(numbered h.l).length≤1000000) (hsu:sureL d h.l 0≤1000000000) :
  Calls Tryz.prog 29 #[.pointer (some ⟨j,0,none⟩),.int .i64 f,.int .i64 m] w (ReadPost d h f m w):=by
 obtain ⟨fi,hfi⟩:∃ fi,fi=firstOf h.l:=⟨_,rfl⟩
 obtain ⟨su,hsue⟩:∃ su,su=sureL d h.l 0:=⟨_,rfl⟩
 have hq:readP d h f m=(rdL f su m (numbered h.l),f+(rdL f su m (numbered h.l)).length,0):=by
  unfold readP;rw [if_neg (fun e => e hrun),if_neg (by omega),if_neg (by omega),hsue]
 rw [← hfi] at hf1
 rw [← hsue] at hf2 hsu
 obtain ⟨w1,hw1⟩:∃ w1,w1=((w.alloc (.cells #[.int .i64 f] 3 (0,0))).alloc (.cells #[.int .i64 m] 3 (0,0))).alloc (.cells #[.slice none 0 0] 61 (0,0)):=⟨_,rfl⟩
 obtain ⟨k1,k2,k3,kb,kz⟩:=three_boxes w f m w1 hw1
 have HR:=Lib.hid (hruns_any (h0.below kb))
 rw [if_pos hrun] at HR
 have HSU:=Lib.hid (fun (W:World) (hW:Below w.heap.size w W) => hsure_any (h0.below hW) (he.below hW) hbd)
 rw [if_pos hrun,← hsue] at HSU
 have HFI:=Lib.hid (fun (W:World) (hW:Below w.heap.size w W) => hfirst_any (h0.below hW) hbd.many)
 rw [if_pos hrun,← hfi] at HFI
 obtain ⟨lv,vs,hblk,hrow,_⟩:=h0.mem
 obtain ⟨L,hL⟩:∃ L,L=numbered h.l:=⟨_,rfl⟩
 rw [← hL] at hN
 have HL:=Lib.hid hL
 have HBLK:=Lib.hid hblk
 have HROW:=Lib.hid hrow
 have HBD:=Lib.hid hbd
 have HQ:=Lib.hid hq
 have HK1:=Lib.hid k1
 have HK2:=Lib.hid k2
 have HK3:=Lib.hid k3
 have HB:=Lib.hid kb
 have HW:=Lib.hid hw1
 have HZ:=Lib.hid kz
 clear h0 hrun hq k1 k2 k3 kb kz hw1 hblk hrow hbd hfi hsue hL he
 refine (callsIn_wide (n:=10)).1 ?_
 refine callsIn_of_wp_marks Tryz.func29 rfl trivial ?_ rfl
 refine wpIn_wide.2 ?_
 simp only [Tryz.ntmps29,List.size_toArray,List.length_cons,List.length_nil,Nat.reduceAdd,Nat.reduceSub,Array.replicate_succ,Array.replicate_zero,List.push_toArray,List.append_toArray,List.nil_append,List.cons_append]
 go_wp2_with fail
 rw [← HW.out]
 refine HR.out.mono ?_
 rintro e w2 ⟨rfl,hb2⟩
 have HB2:=Lib.hid (HB.out.trans (hb2.mono HB.out.size))
 have HK1b:=Lib.hid (HK1.out.below hb2)
 have HK2b:=Lib.hid (HK2.out.below hb2)
 have HK3b:=Lib.hid (HK3.out.below hb2)
 have HZ2:=Lib.hid (show w.heap.size+3≤w2.heap.size from by have:=hb2.size;have:=HZ.out;omega)
 clear hb2 HK1 HK2 HK3
 go_wp2_with fail
 refine (HSU.out w2 HB2.out).mono ?_
 rintro e w3 ⟨rfl,hb3⟩
 have HK1:=Lib.hid (HK1b.out.below hb3)
 have HK2:=Lib.hid (HK2b.out.below hb3)
 have HK3:=Lib.hid (HK3b.out.below hb3)
 have HB3:=Lib.hid (HB2.out.trans (hb3.mono HB2.out.size))
 have HZ3:=Lib.hid (Nat.le_trans HZ2.out hb3.size)
 clear hb3 HK1b HK2b HK3b
 obtain ⟨q,hq⟩:∃ q,q=w3.heap.size:=⟨_,rfl⟩
 obtain ⟨w4,hw4⟩:∃ w4,w4=w3.alloc (.cells #[.int .i64 su] 3 (0,0)):=⟨_,rfl⟩
 have hb4:Below w3.heap.size w3 w4:=by rw [hw4];exact (Below.refl _ _).alloc (Nat.le_refl _) _
 have hk4:Blk w4 q 3 #[.int .i64 su]:=by rw [hw4,hq];exact Blk.alloc_new w3 _ _
 have m2:=(HK2.out.below hb4).cell 0
 simp only [List.getElem?_toArray,List.getElem?_cons_zero] at m2
 rw [hw4] at m2
 have hm0:¬ m<0:=by omega
 have HK1c:=Lib.hid (HK1.out.below hb4)
 have HK2c:=Lib.hid (HK2.out.below hb4)
 have HK3c:=Lib.hid (HK3.out.below hb4)
 have HK4c:=Lib.hid hk4
 have HB4:=Lib.hid (HB3.out.trans (hb4.mono HB3.out.size))
 have HZ4:=Lib.hid (show w.heap.size+3≤q∧q<w4.heap.size from ⟨by rw [hq];exact HZ3.out,hk4.lt⟩)
 have HW4:=Lib.hid hw4
 have HQ4:=Lib.hid hq
 clear hb4 hk4 hw4 hq HK1 HK2 HK3
 go_wp2_with fail
 rw [← HW4.out,← HQ4.out]
 clear m2
 have HTC:=Lib.hid (fun (W:World) (hW:Below w4.heap.size w4 W) => show W.cell? ⟨w.heap.size,0,none⟩=some (.int .i64 f)∧W.cell? ⟨q,0,none⟩=some (.int .i64 su) from ⟨(HK1c.out.below hW).cell 0,(HK4c.out.below hW).cell 0⟩)
 refine wp_onlyN ?_
 refine wp_region_two (T:=fun W => W.cell? ⟨w.heap.size,0,none⟩=some (.int .i64 f)∧W.cell? ⟨q,0,none⟩=some (.int .i64 su)) (S:=fun _ => True) (n:=99) (by kernel_rfl) ?_
 obtain ⟨y1,hy1⟩:∃ y1,y1=w4.drew:=⟨_,rfl⟩
 rw [← hy1]
 have hby:Below w4.heap.size w4 y1:=by rw [hy1];exact (Below.refl _ _).drew
 have HY1:=Lib.hid hby
 have hS:True:=trivial
 have hT:=HTC.out y1 HY1.out
 clear hy1 hby
 have hlt1:¬ f<(fi:Int):=by omega
 have hlt2:¬ (su:Int)<f:=by omega
 refine tk 0 24 hT hS ?_
 refine tk 1 25 hT hS ?_
 try simp only [xq]
 refine two_one 2 rfl (by kernel_rfl) ?_
 intro K hK
 go_simp
 refine (HFI.out y1 (HB4.out.trans (HY1.out.mono HB4.out.size))).mono ?_
 rintro e y2 ⟨rfl,hbz⟩
 have HBy2:=Lib.hid ((HY1.out).trans (hbz.mono (HY1.out).size))
 have hT1:=HTC.out y2 HBy2.out
 refine hK.out _ _ hT1 (fun _ _ => hS) ?_
 clear hK K hT hbz
 have hT:=hT1
 clear hT1
 try simp only [xq]
 refine tk 3 27 hT hS ?_
 refine tk 4 28 hT hS ?_
 refine tk 5 29 hT hS ?_
 refine tk 6 30 hT hS ?_
 refine tk 7 31 hT hS ?_
 refine tk 8 32 hT hS ?_
 refine tk 9 23 hT hS ?_
 try simp only [xq]
 refine two_done (by kernel_rfl) ?_ _
 clear hT hS
 simp only [OnlyN]
 have HBY:=Lib.hid (HB4.out.trans (HBy2.out.mono HB4.out.size))
 have HK1:=Lib.hid (HK1c.out.below HBy2.out)
 have HK2:=Lib.hid (HK2c.out.below HBy2.out)
 have HK3:=Lib.hid (HK3c.out.below HBy2.out)
 have HK4:=Lib.hid (HK4c.out.below HBy2.out)
 clear HK1c HK2c HK3c HK4c
 go_wp2_with fail
 obtain ⟨bn,hbn⟩:∃ bn,bn=y2.heap.size:=⟨_,rfl⟩
 refine (hrecords_any _).mono ?_
 rintro e w5 ⟨rfl,hw5⟩
 have hb5:Below y2.heap.size y2 w5:=by rw [← hw5];exact (Below.refl _ _).alloc (Nat.le_refl _) _
 have hk5:Blk w5 bn 33 #[.pointer (some ⟨j,0,none⟩)]:=by rw [← hw5,hbn];exact Blk.alloc_new y2 _ _
 have J1:Boxed w5 w.heap.size 3 (.int .i64 f):=HK1.out.below hb5
 have J2:Boxed w5 (w.heap.size+1) 3 (.int .i64 m):=HK2.out.below hb5
 have J3:Boxed w5 (w.heap.size+1+1) 61 (.slice none 0 0):=HK3.out.below hb5
 have J4:Boxed w5 q 3 (.int .i64 su):=HK4.out.below hb5
 have hB5:=HBY.out.trans (hb5.mono HBY.out.size)
 have hz5:=hB5.size
 have hz6:w.heap.size+3≤w5.heap.size:=by have:=J3.lt;omega
 have hbq:w.heap.size≤q:=by have:=HZ4.out.1;omega
 rw [← hbn]
 clear hbn hw5 hb5 HK1 HK2 HK3 HK4
 go_wp2_with fail
 refine (wpIn_wide (n:=10)).1 ?_
 obtain ⟨i0,hi0,hz0,hz1,hz2⟩:=info_parts Tryz.info_span
 refine wpIn_rangeFunc_ownH (F:=Fence.wide) (α:=Nat×Sp.Span) rfl (by omega) (gf:=151) (lb:=#[.pointer (some ⟨bn,0,none⟩)]) rfl trivial (enters_of Tryz.func151 (by kernel_rfl) rfl)
  (encs:=fun p => #[.int .i64 p.1,spV p.2]) (Kp:=KpS w.heap.size) (S:=fun ys => ys=numbered h.l) (Sp:=fun pre => pre <+: numbered h.l) (N:=(numbered h.l).length) (w0:=w5)
  (fun y K Kx W hW hK hKx hY h0 => records1_in 0 y bn K Kx W HROW.out HBLK.out HBD.out (hB5.trans (hW.mono hz5)) hK hY ((hW.cell (p:=⟨bn,0,none⟩) hk5.lt).trans (hk5.cell 0)) h0)
  (fun a b => KpS.trans a b) (fun W l o o' a b c e => KpS.put hz5 W l o o' a b c e) (Below.refl _ _) (fun _ => rfl)
  (fun pre W => ((∃ u,Boxed W (w.heap.size+1+1) 61 u∧W.ownsRow w.heap.size 47 8 u (rdL f su m pre).length ((rdL f su m pre).flatMap spRow)∧True)∧Boxed W w.heap.size 3 (.int .i64 f)∧Boxed W (w.heap.size+1) 3 (.int .i64 m)∧Boxed W q 3 (.int .i64 su))∧Below w.heap.size w W)
  (fun _ _ _ => False)
  (OwnFrom.and (OwnFrom.and (Own.from (holdsRow_own w.heap.size (w.heap.size+1+1) 61 47 8 (fun pre => (rdL f su m pre).length) (fun pre => (rdL f su m pre).flatMap spRow) (fun _ _ => True)) _) (OwnFrom.and (Own.from (boxed_own _ _ (fun _ => _)) _) (OwnFrom.and (Own.from (boxed_own _ _ (fun _ => _)) _) (Own.from (boxed_own _ _ (fun _ => _)) _)))) (ownFrom_below (Nat.le_refl _) hz5))
  (fun _ _ _ _ _ hs _ _ => hs)
  ⟨⟨⟨_,J3,World.ownsRow_nil _ _ _ _,trivial⟩,J1,J2,J4⟩,hB5⟩
  (fun p a' W => ∃ Bx,Blk W Bx 47 (spRow p.2).toArray∧a'={ tmps:=#[.pointer (some ⟨j,0,none⟩),.int .i64 f,.int .i64 m,undef,.pointer (some ⟨w.heap.size,0,none⟩),.pointer (some ⟨w.heap.size+1,0,none⟩),.pointer (some ⟨w.heap.size+1+1,0,none⟩),.int .i64 0,.int .i64 0,.int .i64 0,.pointer (some ⟨q,0,none⟩),.int .i64 p.1,.pointer (some ⟨Bx,0,none⟩),.pointer (some ⟨j,0,none⟩),.int .i64 0,.int .i64 0,.bool false,undef,.pointer (some ⟨j,0,none⟩),.int .i64 su,.bool (decide (m<0)),.int .i64 m,.bool (decide (m<0)),.bool false,.int .i64 f,.pointer (some ⟨j,0,none⟩),.int .i64 fi,.bool false,.bool false,.int .i64 f,.int .i64 su,.bool false,.bool false,.pointer (some ⟨j,0,none⟩),.func (.func 151) #[] #[.pointer (some ⟨bn,0,none⟩)],.int .i64 p.1,spV p.2,undef,undef,undef,undef,undef,undef,undef,undef,undef,undef,undef,undef,undef,undef,undef,undef,undef,undef,undef,undef,undef,undef,undef],defers:=[] })
  (fun p a' _ A C row hs hg hr => by
   obtain ⟨Bx,h2,h3⟩:=hs
   refine ⟨Bx,(hg.block Bx h2.lt fun e => ?_).trans h2,h3⟩
   obtain ⟨_,o,ho,hc⟩:=hr Bx e.symm
   unfold Blk at h2
   rw [h2] at ho
   cases ho
   cases hc)
  ?assign ?body ?done ?stop
 case assign =>
  rintro y pre ⟨pn,zt,zi,zp,zs,zh,za,zd,zn⟩ W K ⟨⟨⟨u,bS,hrow,_⟩,b4,b5,bq⟩,hB⟩ hK
  unfold spV
  gi_wp2_with fail
  have hal:Below W.heap.size W (W.alloc (.cells #[.int .i64 zt,.int .i64 zi,.int .i64 zp,.string zs,.string zh,.int .i64 za,.int .i64 zd,.string zn] 47 (0,0))):=(Below.refl _ _).alloc (Nat.le_refl _) _
  exact hK _ _ ((KeepsOthers.alloc _ _).from _) ⟨(Below.refl _ W).alloc hB.size _,fun k cs e => e.below hal⟩ ⟨⟨⟨u,bS.alloc _,hrow.alloc _,trivial⟩,b4.alloc _,b5.alloc _,bq.alloc _⟩,hB.alloc hB.size _⟩ ⟨W.heap.size,Blk.alloc_new W _ _,rfl⟩
 case body =>
  rintro y pre ⟨pn,zt,zi,zp,zs,zh,za,zd,zn⟩ a' W hl2 ⟨r,hr⟩ ⟨⟨⟨u,bS,hrow,_⟩,b4,b5,bq⟩,hB⟩ ⟨Bx,hbx,rfl⟩ hlt
  have c4:=b4.cell
  have c5:=b5.cell
  have cq:=bq.cell
  have c6:=bS.cell
  have hown:OwnSp W w.heap.size u (rdL f su m pre):=hrow
  obtain ⟨ux,uc,hu⟩:=hown.shape
  have hul:(rdL f su m pre).length≤1000000:=by have e1:=rdL_len f su m pre;have e2:=hlt;rw [← HL.out] at e2;omega
  obtain ⟨acc,hacc⟩:∃ acc,acc=rdL f su m pre:=⟨_,rfl⟩
  rw [← hacc] at hu hown hrow hul
  obtain ⟨an,han⟩:∃ an,an=acc.length:=⟨_,rfl⟩
  rw [← han] at hu hul
  subst hu
  have HIN:=Lib.hid (show rdL f su m (pre++[(pn,⟨zt,zi,zp,zs,zh,za,zd,zn⟩)])=if f≤pn∧(pn:Int)<su∧(an:Int)<m then acc++[⟨zt,zi,zp,zs,zh,za,zd,zn⟩] else acc from by
   rw [rdL_snoc,← hacc,han];rfl)
  have Hrow:=Lib.hid hrow
  have HAN:=Lib.hid han
  have x0:=hbx.cell 0
  have x1:=hbx.cell 1
  have x2:=hbx.cell 2
  have x3:=hbx.cell 3
  have x4:=hbx.cell 4
  have x5:=hbx.cell 5
  have x6:=hbx.cell 6
  have x7:=hbx.cell 7
  simp [spRow] at x0 x1 x2 x3 x4 x5 x6 x7
  clear hacc hrow han hown
  unfold spV
  by_cases g1:f≤pn
  · by_cases g2:(pn:Int)<su
    · by_cases g3:(an:Int)<m
      · have HE:=Lib.hid HIN.out
        rw [if_pos ⟨g1,g2,g3⟩] at HE
        have hrow2:W.ownsRow w.heap.size 47 8 (.slice ux an uc) an (acc.flatMap spRow):=by have:=Hrow.out;rw [← HAN.out] at this;exact this
        have hcells:∀ (jj:Nat) (vv:Value),([.int .i64 zt,.int .i64 zi,.int .i64 zp,.string zs,.string zh,.int .i64 za,.int .i64 zd,.string zn]:List Value)[jj]?=some vv→(W.alloc (.cells #[.int .i64 zt,.int .i64 zi,.int .i64 zp,.string zs,.string zh,.int .i64 za,.int .i64 zd,.string zn] 47 (0,0))).cell? ((⟨W.heap.size,0,none⟩:Addr).add jj)=some vv:=fun jj vv hj => by
         rw [add_none,Nat.zero_add,(Blk.alloc_new W _ _).cell]
         simpa using hj
        clear HIN
        gi_wp2_with (gi_at_builtin;refine wpListIn_append_own _ rfl _ _ 61 rfl w.heap.size 47 i0 _ 8 88 under_spans hi0 hz0 hz1 hz2 rfl (by decide) _ _ _ rfl (hrow2.alloc _) ⟨W.heap.size,0,none⟩ 1 1 [.int .i64 zt,.int .i64 zi,.int .i64 zp,.string zs,.string zh,.int .i64 za,.int .i64 zd,.string zn] rfl rfl hcells (by simp [Value.oneCell']) (by unfold maxLen;omega) (by omega) (by have:=hB.size;simp;omega) ?_;intro v' w1 hown' hgrow _;obtain ⟨g',cap',rfl⟩:=ownsRow_succ hown';obtain ⟨hv1,hv2,hr2,hk2,hb2⟩:=bS.appended (by decide) hrow2 hB.size (by omega) hown' hgrow;have hc1:=hv1.cell;have hf1:=hv1.frozen)
        have hg2:(W.alloc (.cells #[.int .i64 zt,.int .i64 zi,.int .i64 zp,.string zs,.string zh,.int .i64 za,.int .i64 zd,.string zn] 47 (0,0))).grownBy w1 (Value.slice ux an uc).ownBlock:=hgrow
        have hq9:=HZ4.out.1
        have hKS:∀ k cs,Blk W k 132 cs→Blk (w1.setCell ⟨w.heap.size+1+1,0,none⟩ (.slice (some ⟨g',0,none⟩) (an+1) cap')) k 132 cs:=fun k cs e => by
         have hal:Below W.heap.size W (W.alloc (.cells #[.int .i64 zt,.int .i64 zi,.int .i64 zp,.string zs,.string zh,.int .i64 za,.int .i64 zd,.string zn] 47 (0,0))):=(Below.refl _ _).alloc (Nat.le_refl _) _
         have e1:=e.below hal
         have hne:some k≠(Value.slice ux an uc).ownBlock:=by
          rcases hrow2.2 with ⟨hh,_⟩ | ⟨g,cap,cur,hh,_,hgb,_⟩
          · rw [hh];intro e';cases e'
          · rw [hh]
            intro e'
            injection e' with e'
            have e':k=g:=e'
            subst e'
            unfold Blk at e
            rw [e] at hgb
            injection hgb with hgb
            injection hgb with _ hgb _
            exact absurd hgb (by decide)
         have e2:Blk w1 k 132 cs:=(hg2.block k e1.lt hne).trans e1
         have hne2:k≠w.heap.size+1+1:=fun e' => by
          subst e'
          have:=hv1
          unfold Boxed at this
          unfold Blk at e2
          rw [e2] at this
          injection this with this
          injection this with _ this _
          exact absurd this (by decide)
         exact (Below.heap_setCell _ _ _ _ (fun e' => hne2 (by simpa using e'))).trans e2
        refine ⟨hk2.from _,⟨hb2,hKS⟩,⟨⟨_,hv2,?_⟩,((b4.alloc _).kept hg2 (b4.not_row (by decide) hrow2)).other (by omega) _,((b5.alloc _).kept hg2 (b5.not_row (by decide) hrow2)).other (by omega) _,((bq.alloc _).kept hg2 (bq.not_row (by decide) hrow2)).other (by omega) _⟩,hB.trans hb2⟩
        rw [HE.out,List.length_append,List.flatMap_append,← HAN.out]
        exact hr2
      · have HE:=Lib.hid HIN.out
        rw [if_neg (fun e => g3 e.2.2)] at HE
        clear HIN
        gi_wp2_with fail
        exact ⟨KeepsFrom.refl _ _,KpS.refl _ _,⟨⟨_,bS,by rw [HE.out];exact Hrow.out⟩,b4,b5,bq⟩,hB⟩
    · have HE:=Lib.hid HIN.out
      rw [if_neg (fun e => g2 e.2.1)] at HE
      clear HIN
      gi_wp2_with fail
      exact ⟨KeepsFrom.refl _ _,KpS.refl _ _,⟨⟨_,bS,by rw [HE.out];exact Hrow.out⟩,b4,b5,bq⟩,hB⟩
  · have HE:=Lib.hid HIN.out
    rw [if_neg (fun e => g1 e.1)] at HE
    clear HIN
    gi_wp2_with fail
    exact ⟨KeepsFrom.refl _ _,KpS.refl _ _,⟨⟨_,bS,by rw [HE.out];exact Hrow.out⟩,b4,b5,bq⟩,hB⟩
 case done =>
  rintro D ys W hD rfl ⟨⟨⟨u,bS,hrow,_⟩,b4,b5,bq⟩,hB⟩ hK
  have hown:OwnSp W w.heap.size u (rdL f su m (numbered h.l)):=hrow
  obtain ⟨ux,uc,hu⟩:=hown.shape
  have hul:(rdL f su m (numbered h.l)).length≤1000000:=by have e1:=rdL_len f su m (numbered h.l);rw [← HL.out] at e1;rw [← HL.out];omega
  have HQQ:=Lib.hid HQ.out
  obtain ⟨acc,hacc⟩:∃ acc,acc=rdL f su m (numbered h.l):=⟨_,rfl⟩
  rw [← hacc] at hu hown hrow hul HQQ
  obtain ⟨an,han⟩:∃ an,an=acc.length:=⟨_,rfl⟩
  rw [← han] at hu hul HQQ
  subst hu
  obtain ⟨nx,hnx⟩:∃ nx:Int,nx=f+an:=⟨_,rfl⟩
  have hsum:f+(an:Int)=nx:=hnx.symm
  have hwr:IntKind.i64.wrap nx=nx:=by rw [IntKind.wrap_i64];omega
  rw [← hnx] at HQQ
  have HOW:=Lib.hid hown
  clear hnx hacc han hrow hown
  go_wp2_with fail
  refine wp_onlyN ?_
  refine wp_region_two (T:=fun W => W.cell? ⟨w.heap.size,0,none⟩=some (.int .i64 f)) (S:=fun W => W.cell? ⟨w.heap.size+1+1,0,none⟩=some (.slice ux an uc)) (n:=5) (by kernel_rfl) ?_
  obtain ⟨y3,hy3⟩:∃ y3,y3=W.drew:=⟨_,rfl⟩
  rw [← hy3]
  have hby3:Below W.heap.size W y3:=by rw [hy3];exact (Below.refl _ _).drew
  have hT:y3.cell? ⟨w.heap.size,0,none⟩=some (.int .i64 f):=by rw [hy3];exact b4.cell
  have hS:y3.cell? ⟨w.heap.size+1+1,0,none⟩=some (.slice ux an uc):=by rw [hy3];exact bS.cell
  have b43:Boxed y3 w.heap.size 3 (.int .i64 f):=by rw [hy3];exact b4
  have bS3:Boxed y3 (w.heap.size+1+1) 61 (.slice ux an uc):=by rw [hy3];exact bS
  have hK3:y3.heap[D]?=some (.deferred (some [])):=by rw [hy3];exact hK
  have hB3:Below w.heap.size w y3:=by rw [hy3];exact hB.drew
  have hO3:OwnSp y3 w.heap.size (.slice ux an uc) acc:=by rw [hy3];exact OwnRow.below HOW.out (Below.refl _ _).drew
  have hf3:=bS3.frozen
  clear hy3 b4 bS hK hB
  refine two_take 0 (some 55) (v:=?_) rfl rfl (by kernel_rfl) (by kernel_rfl) (by kernel_rfl) (by kernel_rfl) (by decide) (by kernel_rfl) (fun _ _ _ h => h) (Or.inl ⟨by rfl,?hy0⟩) hT hS ?_
  case hy0 => (intro w' hS';(try unfold S8 at hS');(try unfold T8 at hS');go_simp;(try with_reducible rfl))
  try simp only [xq]
  refine tk 1 56 hT hS ?_
  try simp only [xq]
  refine two_take 2 (some 57) (v:=?_) rfl rfl (by kernel_rfl) (by kernel_rfl) (by kernel_rfl) (by kernel_rfl) (by decide) (by kernel_rfl) (fun _ _ _ h => h) (Or.inl ⟨by rfl,?hy2⟩) hT hS ?_
  case hy2 => (intro w' hS';(try unfold S8 at hS');(try unfold T8 at hS');go_simp;(try with_reducible rfl))
  try simp only [xq]
  refine tk 3 58 hT hS ?_
  refine tk 4 59 hT hS ?_
  try simp only [xq]
  refine two_one 5 rfl (by kernel_rfl) ?_
  intro K hK
  go_simp
  have hc6:=bS3.set (.slice ux an uc)
  have hT1:=(b43.other (B':=w.heap.size+1+1) (by omega) (.slice ux an uc)).cell
  refine hK _ _ hT1 (fun _ e => absurd rfl e) ?_
  clear hK K hT hS
  have hT:=hT1
  have hK4:=(KeepsOthers.setCell y3 ⟨w.heap.size+1+1,0,none⟩ (.slice ux an uc)).same D _ hK3 rfl
  have hB4:=hB3.setCell (p:=⟨w.heap.size+1+1,0,none⟩) (by simp;omega) (.slice ux an uc)
  have hO4:OwnSp (y3.setCell ⟨w.heap.size+1+1,0,none⟩ (.slice ux an uc)) w.heap.size (.slice ux an uc) acc:=World.ownsRow.kept hO3 (grownBy_setCell' _ _ _) (.inr (bS3.not_row (by decide) hO3).symm)
  have hS:=hc6.cell
  have HC6:=Lib.hid hc6
  clear hT1 hc6
  try simp only [xq]
  refine two_one 6 rfl (by kernel_rfl) ?_
  intro K hK
  go_simp
  refine hK.out _ _ hT (fun _ _ => hS) ?_
  clear hK K
  try simp only [xq]
  refine two_one 7 rfl (by kernel_rfl) ?_
  intro K hK
  go_simp
  refine hK.out _ _ hT (fun _ _ => hS) ?_
  clear hK K
  try simp only [xq]
  refine two_done (by kernel_rfl) ?_ _
  simp only [OnlyN]
  clear hT hS
  go_wp2_with fail
  refine ⟨by simp,.inl ⟨_,_,rfl,run_takeDeferred hK4,?_⟩⟩
  have hcz:((y3.setCell ⟨w.heap.size+1+1,0,none⟩ (.slice ux an uc)).putObj D (.deferred none)).cell? ⟨w.heap.size+1+1,0,none⟩=some (.slice ux an uc):=by
   have hne:w.heap.size+1+1≠D:=by omega
   exact (blk_putObj' HC6.out _ hne)
  refine ⟨.tuple #[.slice ux an uc,.int .i64 nx,.int .i64 0],?_,?_⟩
  · simp [results,Tryz.f29,go_sem,hcz]
  · unfold ReadPost
    rw [HQQ.out]
    exact ⟨_,rfl,ownsRow_putObj hO4 _ hK4 rfl,hB4.trans (belowK_b (w:=w) (Nat.le_refl _) _ D _ _ (by omega) hK4 rfl rfl)⟩
 case stop =>
  rintro D c pre W _ _ h _
  exact h.elim
theorem hread_any (h0:HS w0 X H w v d j h) (he:LEnv w) (hbd:SgsBnd h.l) (f m:Int) (hN:(numbered h.l).length≤1000000) (hsu:sureL d h.l 0≤1000000000) :
  Calls Tryz.prog 29 #[.pointer (some ⟨j,0,none⟩),.int .i64 f,.int .i64 m] w (ReadPost d h f m w):=by
 by_cases hrun:h.runs d
 · by_cases hm:m<0
   · exact hread_few h0 he hbd hrun f m hm hsu
   · by_cases hf:f<firstOf h.l∨(sureL d h.l 0:Int)<f
     · exact hread_far h0 he hbd hrun f m (by omega) hf hsu
     · exact hread_main h0 he hbd hrun f m (by omega) (by omega) (by omega) hN hsu
 · exact hread_off h0 hrun f m
end
end Go.Proofs.YtdacanghbepjpaaGreatDoor
