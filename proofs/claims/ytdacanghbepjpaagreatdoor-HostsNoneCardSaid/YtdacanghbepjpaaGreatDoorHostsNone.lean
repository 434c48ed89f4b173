/- A host that is none does nothing; there are MaxHosts numbers, and disks have bytes: walked. -/
import Derived.Test.YtdacanghbepjpaaGreatDoorHoN
import Derived.Test.YtdacanghbepjpaaGreatDoorQ6
import Derived.Test.YtdacanghbepjpaaGreatDoorQ5
import Derived.Deep.DeepCutAuto
import Derived.Deep.CutBlock
namespace Go.Proofs.YtdacanghbepjpaaGreatDoor
set_option linter.unusedSimpArgs false
set_option linter.unusedVariables false
set_option maxRecDepth 100000
open Go.RowKit Go.Maps
open Dsk
theorem NilZ.ptr {w:World} {v:Value} (h:NilZ w v):∃ a,v=.pointer a:=by
 rcases h with h | ⟨b,h,_⟩
 · exact ⟨_,h⟩
 · exact ⟨_,h⟩
theorem new_any (id c:Int) (hc:-9223372036854775808≤c∧c≤9223372036854775807) (w:World):Calls Tryz.prog 43 #[.int .i64 id,.int .i64 c] w fun e w' => ∃ (p:Option Addr) (r:Int),e=.returned (.tuple #[.pointer p,.int .i64 r])∧((r=0∧(∃ b,p=some ⟨b,0,none⟩)∧0≤id∧id<4∧0<c)∨(r=2∧p=none))∧Below w.heap.size w w':=by
 by_cases hh:Po.HostOk id
 · by_cases hq:1≤c∧c≤1048576
   · have hn:=ho_new id hh c.toNat (by omega) (by omega) w (w0:=w) (Below.refl _ _)
     rw [Int.toNat_of_nonneg (by omega)] at hn
     refine hn.mono ?_
     rintro e w' ⟨jh,rfl,_,_,_,_,hb⟩
     exact ⟨_,0,rfl,.inl ⟨rfl,⟨jh,rfl⟩,hh.1,hh.2,by omega⟩,hb⟩
   · refine (ho_new_bad id hh c (by omega) w).mono ?_
     rintro e w' ⟨rfl,rfl⟩
     exact ⟨none,2,rfl,.inr ⟨rfl,rfl⟩,Below.refl _ _⟩
 · refine (ho_new_no id hh (.int .i64 c) w).mono ?_
   rintro e w' ⟨rfl,rfl⟩
   exact ⟨none,2,rfl,.inr ⟨rfl,rfl⟩,Below.refl _ _⟩
set_option maxHeartbeats 16000000 in
theorem walkHostsNone (id c:Int) (a:OAct) (w:World) (h1:-9223372036854775808≤id∧id≤9223372036854775807) (h2:-9223372036854775808≤c∧c≤9223372036854775807) (h3:OActOk w w.heap.size a) (he:LEnv w) :
  Calls Tryz.prog 12 #[.int .i64 id,.int .i64 c,.agg (oactC a).toArray] w fun e w' => e=.returned (.bool true)∧Below w.heap.size w w':=by
 obtain ⟨kx,kc,hkv,_⟩:=_root_.id h3.kv
 obtain ⟨q,hq⟩:∃ q,q=w.heap.size:=⟨_,rfl⟩
 obtain ⟨w1,hw1⟩:∃ y,y=(w.alloc (.cells (oactC a).toArray 95 (0,0))).alloc (.cells (oactC a).toArray 95 (0,0)):=⟨_,rfl⟩
 have hb1:Below w.heap.size w w1:=by rw [hw1];exact ((Below.refl _ _).alloc (by first | exact Nat.le_refl _ | (simp only [alloc_size];omega)) _).alloc (by simp only [alloc_size];omega) _
 have hk1:Blk w1 q 95 (oactC a).toArray:=by
  rw [hw1,hq]
  exact (Blk.alloc_new w _ _).below ((Below.refl _ _).alloc (Nat.le_refl _) _)
 have hk2:Blk w1 (q+1) 95 (oactC a).toArray:=by
  have:=Blk.alloc_new (w.alloc (.cells (oactC a).toArray 95 (0,0))) 95 (oactC a).toArray
  rw [hw1,hq]
  simpa using this
 have hrd:RdOA w1 w.heap.size (.slice (some ⟨q+1,0,none⟩) 1 1) [a]:=by
  refine ⟨_,1,rfl,fun j hj => ?_⟩
  obtain rfl:j=0:=by simpa using hj
  refine ⟨h3.below hb1,q+1,0,rfl,hk2.lt,fun i hi => ?_⟩
  have e0:0+(0*17+i)=i:=by omega
  rw [e0,hk2.cell]
  simp
 have HBY:=Lib.hid (beyond_oacts _ [a] w1 hrd (by unfold maxLen;simp) 1 (by decide))
 have HB1:=Lib.hid hb1
 have HK1:=Lib.hid hk1
 have HE:=Lib.hid he
 have HC:=Lib.hid h2
 have HS:=Lib.hid h3.s
 have HNW:=Lib.hid (new_any id c h2)
 obtain ⟨kd,nd,nn,⟨zt,zi,zp,zs,zh,za,zd,zn⟩,kv,keep,own,ah,af,an,adt⟩:=a
 obtain ⟨kl,hkl⟩:∃ kl,kl=keep.length:=⟨_,rfl⟩
 simp only at hkv
 rw [← hkl] at hkv
 subst hkv
 unfold oactC at *
 simp only at *
 have hone:(1:Int)=((1:Nat):Int):=rfl
 have HW1:=Lib.hid hw1
 have HQ:=Lib.hid hq
 clear hb1 hk1 hk2 hrd h3 he hw1 hq hone hkl h1 h2
 go_enter Tryz.func12,Tryz.ntmps12
 go_wp2_with fail
 rw [← HW1.out]
 try rw [← HQ.out]
 refine HBY.out.mono ?_
 rintro e w2 ⟨⟨b,rfl,_⟩,hb2⟩
 have HB2:=Lib.hid (HB1.out.trans (hb2.mono HB1.out.size))
 have HK2:=Lib.hid (HK1.out.below hb2)
 clear hb2 HBY
 by_cases hb:b=1
 case pos =>
  subst hb
  go_wp2_with fail
  refine (lives_h _ (HE.out.below HB2.out)).mono ?_
  rintro e w3 ⟨rfl,hb3⟩
  have HB3:=Lib.hid (HB2.out.trans (hb3.mono HB2.out.size))
  clear hb3
  go_wp2_with fail
  go_ret
  exact ⟨rfl,HB3.out⟩
 case neg =>
 have hbb:(b == 1)=false:=beq_eq_false_iff_ne.2 hb
 clear hb
 go_wp2_with fail
 go_loopw [7,8] (fun v7 v8 wr => ∃ (k:Nat),v8=.int .i64 k∧k≤2∧NilZ wr v7∧Below w2.heap.size w2 wr) (fun _ v8 _ => 2-(intOf v8).toNat)
 case atStart => exact ⟨0,rfl,by omega,.inl rfl,Below.refl _ _⟩
 case round =>
  obtain ⟨k,rfl,hk,hz,hbw⟩:=hrel
  obtain ⟨p7,rfl⟩:=hz.ptr
  have HZ0:=Lib.hid hz
  have HBW0:=Lib.hid hbw
  clear hz hbw
  by_cases hlt:k<2
  case neg =>
   have hlt2:¬ (k:Int)<2:=by omega
   go_wp2_with fail
   refine (HNW.out wr).mono ?_
   rintro e w5 ⟨p,r,rfl,hcs,hb5⟩
   have HB5:=Lib.hid (HB2.out.trans ((HBW0.out.mono (Nat.le_refl _)).trans (hb5.mono HBW0.out.size) |>.mono HB2.out.size))
   clear hb5
   rcases hcs with ⟨rfl,⟨bp,rfl⟩,i0,i1,i2⟩ | ⟨rfl,rfl⟩
   · have j0:id≥0:=i0
     have j2:c>0:=i2
     go_wp2_with fail
     refine (lives_h _ (HE.out.below HB5.out)).mono ?_
     rintro e w6 ⟨rfl,hb6⟩
     have HB6:=Lib.hid (HB5.out.trans (hb6.mono HB5.out.size))
     clear hb6
     go_wp2_with fail
     go_ret
     exact ⟨rfl,HB6.out⟩
   · go_wp2_with fail
     refine (lives_h _ (HE.out.below HB5.out)).mono ?_
     rintro e w6 ⟨rfl,hb6⟩
     have HB6:=Lib.hid (HB5.out.trans (hb6.mono HB5.out.size))
     clear hb6
     go_wp2_with fail
     go_ret
     exact ⟨rfl,HB6.out⟩
  case pos =>
   have hlt2:(k:Int)<2:=by omega
   obtain ⟨y0,hy0⟩:∃ y0,y0=wr:=⟨_,rfl⟩
   subst hy0
   have HK9_0:=Lib.hid (HK2.out.below HBW0.out)
   unfold curV at *
   have HX:=Lib.hid (nil_log HZ0.out)
   go_wp2_with fail
   refine HX.out.mono ?_
   rintro e y9 ⟨rfl,rfl⟩
   clear HX
   have HX:=Lib.hid (nil_step HZ0.out.nil)
   go_wp2_with fail
   refine HX.out.mono ?_
   rintro e y1 ⟨rfl,hb⟩
   have HZ1:=Lib.hid (HZ0.out.below hb)
   have HBW1:=Lib.hid (HBW0.out.trans (hb.mono HBW0.out.size))
   have HK9_1:=Lib.hid (HK9_0.out.below hb)
   clear hb HX HZ0 HBW0 HK9_0
   have HX:=Lib.hid (nil_up HZ1.out)
   go_wp2_with fail
   refine HX.out.mono ?_
   rintro e y9 ⟨rfl,rfl⟩
   clear HX
   have HX:=Lib.hid (nil_now HZ1.out)
   go_wp2_with fail
   refine HX.out.mono ?_
   rintro e y9 ⟨rfl,rfl⟩
   clear HX
   have HX:=Lib.hid (nil_refused HZ1.out)
   go_wp2_with fail
   refine HX.out.mono ?_
   rintro e y9 ⟨rfl,rfl⟩
   clear HX
   have HX:=Lib.hid (nil_cursor HZ1.out)
   unfold curV at HX
   go_wp2_with fail
   refine HX.out.mono ?_
   rintro e y2 ⟨rfl,hb⟩
   have HZ2:=Lib.hid (HZ1.out.below hb)
   have HBW2:=Lib.hid (HBW1.out.trans (hb.mono HBW1.out.size))
   have HK9_2:=Lib.hid (HK9_1.out.below hb)
   clear hb HX HZ1 HBW1 HK9_1
   have HX:=Lib.hid (nil_waiting HZ2.out)
   go_wp2_with fail
   refine HX.out.mono ?_
   rintro e y9 ⟨rfl,rfl⟩
   clear HX
   have k3:=HK9_2.out.cell 3
   have k4:=HK9_2.out.cell 4
   have k5:=HK9_2.out.cell 5
   have k6:=HK9_2.out.cell 6
   have k7:=HK9_2.out.cell 7
   have k8:=HK9_2.out.cell 8
   have k9:=HK9_2.out.cell 9
   have k10:=HK9_2.out.cell 10
   simp only [List.getElem?_toArray,List.getElem?_cons_zero,List.getElem?_cons_succ] at k3 k4 k5 k6 k7 k8 k9 k10
   have HX:=Lib.hid (nil_write HZ2.out.nil ⟨zt,zi,zp,zs,zh,za,zd,zn⟩)
   unfold spV at HX
   simp only at HX
   go_wp2_with fail
   refine HX.out.mono ?_
   rintro e y3 ⟨rfl,hb⟩
   have HZ3:=Lib.hid (HZ2.out.below hb)
   have HBW3:=Lib.hid (HBW2.out.trans (hb.mono HBW2.out.size))
   have HK9_3:=Lib.hid (HK9_2.out.below hb)
   clear hb HX HZ2 HBW2 HK9_2 k3 k4 k5 k6 k7 k8 k9 k10
   have HX:=Lib.hid (nil_sync HZ3.out.nil)
   go_wp2_with fail
   refine HX.out.mono ?_
   rintro e y4 ⟨rfl,hb⟩
   have HZ4:=Lib.hid (HZ3.out.below hb)
   have HBW4:=Lib.hid (HBW3.out.trans (hb.mono HBW3.out.size))
   have HK9_4:=Lib.hid (HK9_3.out.below hb)
   clear hb HX HZ3 HBW3 HK9_3
   have HX:=Lib.hid (nil_rotate HZ4.out.nil)
   go_wp2_with fail
   refine HX.out.mono ?_
   rintro e y5 ⟨rfl,hb⟩
   have HZ5:=Lib.hid (HZ4.out.below hb)
   have HBW5:=Lib.hid (HBW4.out.trans (hb.mono HBW4.out.size))
   have HK9_5:=Lib.hid (HK9_4.out.below hb)
   clear hb HX HZ4 HBW4 HK9_4
   have HX:=Lib.hid (nil_retain HZ5.out.nil 1)
   go_wp2_with fail
   refine HX.out.mono ?_
   rintro e y6 ⟨rfl,hb⟩
   have HZ6:=Lib.hid (HZ5.out.below hb)
   have HBW6:=Lib.hid (HBW5.out.trans (hb.mono HBW5.out.size))
   have HK9_6:=Lib.hid (HK9_5.out.below hb)
   clear hb HX HZ5 HBW5 HK9_5
   have HX:=Lib.hid (nil_tick HZ6.out.nil)
   go_wp2_with fail
   refine HX.out.mono ?_
   rintro e y9 ⟨rfl,rfl⟩
   clear HX
   have HX:=Lib.hid (nil_take HZ6.out.nil ⟨0,0,⟨#[]⟩⟩)
   unfold mlV mlRow at HX
   go_wp2_with fail
   refine HX.out.mono ?_
   rintro e y7 ⟨rfl,hb⟩
   have HZ7:=Lib.hid (HZ6.out.below hb)
   have HBW7:=Lib.hid (HBW6.out.trans (hb.mono HBW6.out.size))
   have HK9_7:=Lib.hid (HK9_6.out.below hb)
   clear hb HX HZ6 HBW6 HK9_6
   have HX:=Lib.hid (nil_crash HZ7.out.nil none 0 0)
   go_wp2_with fail
   refine HX.out.mono ?_
   rintro e y8 ⟨rfl,hb⟩
   have HZ8:=Lib.hid (HZ7.out.below hb)
   have HBW8:=Lib.hid (HBW7.out.trans (hb.mono HBW7.out.size))
   have HK9_8:=Lib.hid (HK9_7.out.below hb)
   clear hb HX HZ7 HBW7 HK9_7
   have HX:=Lib.hid (nil_fail HZ8.out.nil 0 none 0 0)
   go_wp2_with fail
   refine HX.out.mono ?_
   rintro e y9 ⟨rfl,hb⟩
   have HZ9:=Lib.hid (HZ8.out.below hb)
   have HBW9:=Lib.hid (HBW8.out.trans (hb.mono HBW8.out.size))
   have HK9_9:=Lib.hid (HK9_8.out.below hb)
   clear hb HX HZ8 HBW8 HK9_8
   have HX:=Lib.hid (nil_restart HZ9.out.nil)
   go_wp2_with fail
   refine HX.out.mono ?_
   rintro e y9 ⟨rfl,rfl⟩
   clear HX
   obtain ⟨z1,hz1⟩:∃ y,y=y9.alloc (.cells #[.int .i64 0,.int .i64 0,.int .i64 0,.pointer none,.pointer none,.pointer none] 122 (0,0)):=⟨_,rfl⟩
   have HBN:=Lib.hid (show Below y9.heap.size y9 z1 by rw [hz1];exact (Below.refl _ _).alloc (Nat.le_refl _) _)
   have HNZ:=Lib.hid (show NilZ z1 (.pointer (some ⟨y9.heap.size,0,none⟩)) from .inr ⟨_,rfl,by rw [hz1];exact Blk.alloc_new _ _ _⟩)
   have HZ1:=Lib.hid hz1
   clear hz1
   go_wp2_with fail
   rw [← HZ1.out]
   go_roundw
   case rel => exact ⟨k+1,by go_num,by omega,HNZ.out,HBW9.out.trans (HBN.out.mono HBW9.out.size)⟩
   case measure => simp [intOf];omega
end Go.Proofs.YtdacanghbepjpaaGreatDoor
