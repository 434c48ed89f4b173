/- A host's log is opened: of a disk that is none, or down, or has no file: walked. -/
import Derived.Test.YtdacanghbepjpaaGreatDoorHlRead
import Derived.Test.YtdacanghbepjpaaGreatDoorHlY
import Derived.Test.YtdacanghbepjpaaGreatDoorDiskNil
namespace Go.Proofs.YtdacanghbepjpaaGreatDoor
set_option linter.unusedSimpArgs false
set_option linter.unusedVariables false
set_option maxRecDepth 100000
open Go.RowKit Go.Maps
open Dsk
section
variable {w0 w w':World} {X H S:Nat→Prop} {v lv:Value} {d d':Dk} {j B:Nat} {h:Hl} {vs:List SegV} {l:List Sg}
def cleanP (d:Dk):Int×Dk:=let y:=d.remove lnew;if y.1=4 then (0,y.2) else y
def lnewB:ByteArray:=⟨#[108,110,101,119]⟩
theorem lnewB_data:lnewB.data.toList=lnew:=by rfl
set_option maxHeartbeats 2000000 in
theorem hclean_any (h:Live w0 X w v d) (hj:w.cell? ⟨j,0,none⟩=some v) :
  Calls Tryz.prog 167 #[.pointer (some ⟨j,0,none⟩)] w fun e w' => e=.returned (.int .i64 (cleanP d).1)∧Live w0 X w' v (cleanP d).2∧Keeps X w w':=by
 have hr:=h.remove lnewB (by decide)
 rw [lnewB_data] at hr
 obtain ⟨a,rfl⟩:=h.ptr
 obtain ⟨y,hy⟩:∃ y,y=d.remove lnew:=⟨_,rfl⟩
 rw [← hy] at hr
 obtain ⟨r,d2⟩:=y
 simp only at hr
 unfold lnewB at hr
 have HR:=Lib.hid hr
 have HQ:=Lib.hid (show cleanP d=if r=4 then (0,d2) else (r,d2) from by unfold cleanP;rw [← hy])
 clear h hr hy
 go_enter Tryz.func167,Tryz.ntmps167
 go_wp2_with fail
 refine HR.out.mono ?_
 rintro e w1 ⟨rfl,hl,hk⟩
 have HL:=Lib.hid hl
 have HK:=Lib.hid hk
 clear hl hk
 by_cases h4:r=4
 · have HV:=Lib.hid (show cleanP d=(0,d2) from by rw [HQ.out,if_pos h4])
   subst h4
   go_wp2_with fail
   go_ret
   rw [HV.out]
   exact ⟨rfl,HL.out,HK.out⟩
 · have t1:(r == 4)=false:=beq_eq_false_iff_ne.2 h4
   have HV:=Lib.hid (show cleanP d=(r,d2) from by rw [HQ.out,if_neg h4])
   go_wp2_with fail
   go_ret
   rw [HV.out]
   exact ⟨rfl,HL.out,HK.out⟩
set_option maxHeartbeats 4000000 in
theorem hopen_new (h:Live w0 X w v d) (hoff:d.off=false) (hfl:d.files=[]) :
  Calls Tryz.prog 101 #[v] w fun e w' => ∃ j,e=.returned (.tuple #[.pointer (some ⟨j,0,none⟩),.int .i64 0])∧∃ N,NewIn w w' N∧HS w0 (Plus X N) N w' v d j ⟨d.starts,false,[]⟩∧Keeps X w w':=by
 have HU:=Lib.hid h.up
 rw [hoff] at HU
 have HST:=Lib.hid h.starts
 have hcl:cleanP d=(0,d):=by
  unfold cleanP Dk.remove
  rw [hoff,hfl]
  rfl
 obtain ⟨a,rfl⟩:=h.ptr
 obtain ⟨st,hst⟩:∃ st,st=d.starts:=⟨_,rfl⟩
 rw [← hst] at HST ⊢
 obtain ⟨q,hq⟩:∃ q,q=w.heap.size:=⟨_,rfl⟩
 obtain ⟨w1,hw1⟩:∃ w1,w1=w.alloc (.cells #[.pointer (some ⟨a,0,none⟩),.int .i64 st,.bool false,.slice none 0 0] 136 (0,0)):=⟨_,rfl⟩
 have hb1:Below w.heap.size w w1:=by rw [hw1];exact (Below.refl _ _).alloc (Nat.le_refl _) _
 have hk1:Blk w1 q 136 #[.pointer (some ⟨a,0,none⟩),.int .i64 st,.bool false,.slice none 0 0]:=by rw [hw1,hq];exact Blk.alloc_new w _ _
 have hl1:=h.add hb1
 have HNM:=Lib.hid hl1.names
 rw [hfl] at HNM
 have HL1:=Lib.hid hl1
 have HB1:=Lib.hid hb1
 have HK1:=Lib.hid hk1
 have HW1:=Lib.hid hw1
 have HQ:=Lib.hid hq
 have HC:=Lib.hid hcl
 have HH:=Lib.hid h
 clear h hoff hfl hst hb1 hk1 hl1 hw1 hcl
 go_enter Tryz.func101,Tryz.ntmps101
 go_wp2_with fail
 refine HU.out.mono ?_
 rintro e w2 ⟨rfl,rfl⟩
 go_wp2_with fail
 refine HST.out.mono ?_
 rintro e w2 ⟨rfl,rfl⟩
 go_wp2_with fail
 rw [← HW1.out,← hq]
 clear hq
 refine HNM.out.mono ?_
 rintro e w2 ⟨u,rfl,hou,hb2⟩
 obtain ⟨ux,uc,rfl⟩:∃ x c,u=.slice x 0 c:=by
  obtain ⟨x,c,e,_⟩:=OwnS.each hou
  exact ⟨x,c,e⟩
 have hk2:=HK1.out.below hb2
 have k0:=hk2.cell 0
 have k3:=hk2.cell 3
 simp at k0 k3
 have HK2:=Lib.hid hk2
 have HL2:=Lib.hid (HL1.out.keep hb2)
 have HB2:=Lib.hid (HB1.out.trans (hb2.mono HB1.out.size))
 have HTC:=Lib.hid (fun (W:World) (hW:Below w2.heap.size w2 W) => show W.cell? ⟨q,3,none⟩=some (.slice none 0 0) from (hk2.below hW).cell 3)
 clear hou hb2 hk2
 go_wp2_with fail
 go_loop [32] (fun v32 => v32=.int .i64 0) (fun _ => 0)
 case atStart => rfl
 case round =>
  subst hrel
  go_wp2_with fail
  refine wp_region_two (T:=fun W => W.cell? ⟨q,3,none⟩=some (.slice none 0 0)) (S:=fun _ => True) (n:=99) (by kernel_rfl) ?_
  obtain ⟨y1,hy1⟩:∃ y1,y1=w2.drew:=⟨_,rfl⟩
  rw [← hy1]
  have hby:Below w2.heap.size w2 y1:=by rw [hy1];exact (Below.refl _ _).drew
  have HY1:=Lib.hid hby
  have hS:True:=trivial
  have hT:=HTC.out y1 HY1.out
  clear hy1 hby k0 k3
  have hwm:IntKind.i64.wrap (-1)=-1:=by rw [IntKind.wrap_i64];omega
  have hmx:max (-1:Int) 0=0:=by decide
  refine tk 0 78 hT hS ?_
  refine tk 1 79 hT hS ?_
  refine tk 2 80 hT hS ?_
  refine tk 3 81 hT hS ?_
  refine tk 4 82 hT hS ?_
  refine tk 5 83 hT hS ?_
  refine tk 6 84 hT hS ?_
  refine tk 7 85 hT hS ?_
  refine tk 8 86 hT hS ?_
  refine tk 9 87 hT hS ?_
  refine tk 10 88 hT hS ?_
  refine tk 11 89 hT hS ?_
  refine tk 12 90 hT hS ?_
  refine tk 13 91 hT hS ?_
  try simp only [xq]
  refine two_done (by kernel_rfl) ?_ _
  clear hT hS
  have HY:=Lib.hid (HB2.out.trans (HY1.out.mono HB2.out.size))
  have HLY:=Lib.hid (HL2.out.keep HY1.out)
  have HKY:=Lib.hid (HK2.out.below HY1.out)
  have HCL:=Lib.hid (hclean_any (j:=q) HLY.out (HKY.out.cell 0))
  rw [HC.out] at HCL
  have z0:=HKY.out.cell 3
  simp at z0
  go_wp2_with fail
  go_loop [91] (fun v91 => v91=.int .i64 0) (fun _ => 0)
  case atStart => rfl
  case round =>
   subst hrel
   go_wp2_with fail
   refine HCL.out.mono ?_
   rintro e w3 ⟨rfl,hl3,hk3⟩
   have hqX:Also X w w1 q:=.inr ⟨by rw [HQ.out];exact Nat.le_refl _,HK1.out.lt⟩
   have hb3:=HKY.out.chg hk3 (fun e => e hqX)
   have g3:=hb3.cell 3
   simp at g3
   have HL3:=Lib.hid hl3
   have HK3:=Lib.hid hk3
   have HB3:=Lib.hid hb3
   have HQX:=Lib.hid hqX
   have hgw:¬ (-1:Int)≥0:=by omega
   clear hl3 hk3 hb3 hqX z0
   go_wp2_with fail
   refine wp_region_two (T:=fun _ => True) (S:=fun _ => True) (n:=99) (by kernel_rfl) ?_
   obtain ⟨y2,hy2⟩:∃ y2,y2=w3.drew:=⟨_,rfl⟩
   rw [← hy2]
   have hby2:Below w3.heap.size w3 y2:=by rw [hy2];exact (Below.refl _ _).drew
   have HY2:=Lib.hid hby2
   have hS:True:=trivial
   have hT:True:=trivial
   clear hy2 hby2
   refine tk 0 136 hT hS ?_
   refine tk 1 137 hT hS ?_
   refine tk 2 138 hT hS ?_
   try simp only [xq]
   refine tkT 3 139 (v:=undef) rfl rfl (Or.inr ⟨by rfl,rfl⟩) hT hS ?_
   try simp only [xq]
   refine tkT 4 140 (v:=undef) rfl rfl (Or.inr ⟨by rfl,rfl⟩) hT hS ?_
   try simp only [xq]
   refine tkT 5 141 (v:=undef) rfl rfl (Or.inr ⟨by rfl,rfl⟩) hT hS ?_
   try simp only [xq]
   refine tkT 6 142 (v:=undef) rfl rfl (Or.inr ⟨by rfl,rfl⟩) hT hS ?_
   try simp only [xq]
   refine tkT 7 143 (v:=undef) rfl rfl (Or.inr ⟨by rfl,rfl⟩) hT hS ?_
   try simp only [xq]
   refine tkT 8 144 (v:=undef) rfl rfl (Or.inr ⟨by rfl,rfl⟩) hT hS ?_
   try simp only [xq]
   refine tkT 9 145 (v:=undef) rfl rfl (Or.inr ⟨by rfl,rfl⟩) hT hS ?_
   try simp only [xq]
   refine tkT 10 146 (v:=undef) rfl rfl (Or.inr ⟨by rfl,rfl⟩) hT hS ?_
   try simp only [xq]
   refine tkT 11 147 (v:=undef) rfl rfl (Or.inr ⟨by rfl,rfl⟩) hT hS ?_
   try simp only [xq]
   refine tkT 12 148 (v:=undef) rfl rfl (Or.inr ⟨by rfl,rfl⟩) hT hS ?_
   try simp only [xq]
   refine tkT 13 149 (v:=undef) rfl rfl (Or.inr ⟨by rfl,rfl⟩) hT hS ?_
   try simp only [xq]
   refine tkT 14 150 (v:=undef) rfl rfl (Or.inr ⟨by rfl,rfl⟩) hT hS ?_
   try simp only [xq]
   refine tkT 15 151 (v:=undef) rfl rfl (Or.inr ⟨by rfl,rfl⟩) hT hS ?_
   try simp only [xq]
   refine tkT 16 152 (v:=undef) rfl rfl (Or.inr ⟨by rfl,rfl⟩) hT hS ?_
   try simp only [xq]
   refine tk 17 153 hT hS ?_
   try simp only [xq]
   refine two_done (by kernel_rfl) ?_ _
   clear hT hS
   go_wp2_with fail
   refine bodyPost_ret (v:=.tuple #[.pointer (some ⟨q,0,none⟩),.int .i64 0]) (by simp [results,Tryz.results101,go_sem]) rfl ?_
   refine ⟨q,rfl,fun k => k=q,fun k e => ?_,⟨?_,⟨.slice none 0 0,[],HB3.out.below HY2.out,⟨OwnRow.nil _ _,rfl,fun i hi => absurd hi (by simp),fun i k hi => absurd hi (by simp)⟩,fun k hk => ?_⟩,fun k e => .inr e,fun k e => ?_⟩,?_⟩
   · subst e
     rw [HQ.out]
     exact ⟨Nat.le_refl _,Nat.lt_of_lt_of_le (by rw [← HQ.out];exact HB3.out.lt) HY2.out.size⟩
   · exact (HL3.out.keep HY2.out).drop fun k hk => hk.elim .inl fun e => by subst e;exact HQX.out
   · rcases hk with hk | hk | hk
     · exact hk
     · cases hk
     · simp [blks] at hk
   · subst e
     exact ⟨by rw [HQ.out];exact HH.out.size,Nat.lt_of_lt_of_le HB3.out.lt HY2.out.size⟩
   · exact ((Keeps.below HY.out).trans (HK3.out.mono fun k e => .inl e)).trans (Keeps.below HY2.out)
end
end Go.Proofs.YtdacanghbepjpaaGreatDoor
