/- A host that is none: walked. -/
import Derived.Test.YtdacanghbepjpaaGreatDoorQ4
namespace Go.Proofs.YtdacanghbepjpaaGreatDoor
set_option linter.unusedSimpArgs false
set_option linter.unusedVariables false
set_option maxRecDepth 100000
open Go.RowKit Go.Maps
open Dsk
def NilZ (w:World) (v:Value):Prop:=v=.pointer none∨∃ b,v=.pointer (some ⟨b,0,none⟩)∧Blk w b 122 #[.int .i64 0,.int .i64 0,.int .i64 0,.pointer none,.pointer none,.pointer none]
theorem NilZ.below {w w':World} {v:Value} (h:NilZ w v) (y:Below w.heap.size w w'):NilZ w' v:=by
 rcases h with h | ⟨b,h,hc⟩
 · exact .inl h
 · exact .inr ⟨b,h,hc.below y⟩
theorem NilZ.nil {w:World} {v:Value} (h:NilZ w v):NilH w v:=by
 rcases h with h | ⟨b,h,hc⟩
 · exact .inl h
 · exact .inr ⟨b,hc.lt,h,hc.cell 3⟩
theorem nil_up {w:World} {v:Value} (h:NilZ w v):Calls Tryz.prog 47 #[v] w fun e w' => e=.returned (.bool false)∧w=w':=by
 have HS:=Lib.hid h.nil.state
 clear h
 go_enter Tryz.func47,Tryz.ntmps47
 go_wp2_with fail
 refine HS.out.mono ?_
 rintro e w1 ⟨rfl,rfl⟩
 clear HS
 go_wp2_with fail
 go_ret
 exact ⟨rfl,rfl⟩
theorem nil_now {w:World} {v:Value} (h:NilZ w v):Calls Tryz.prog 50 #[v] w fun e w' => e=.returned (.int .i64 0)∧w=w':=by
 rcases h with rfl | ⟨b,rfl,hc⟩
 · go_enter Tryz.func50,Tryz.ntmps50
   go_wp2_with fail
   go_ret
   exact ⟨rfl,rfl⟩
 · have k:=hc.cell 1
   simp only [List.getElem?_toArray,List.getElem?_cons_zero,List.getElem?_cons_succ] at k
   clear hc
   go_enter Tryz.func50,Tryz.ntmps50
   go_wp2_with fail
   go_ret
   exact ⟨rfl,rfl⟩
theorem nil_refused {w:World} {v:Value} (h:NilZ w v):Calls Tryz.prog 55 #[v] w fun e w' => e=.returned (.int .i64 0)∧w=w':=by
 rcases h with rfl | ⟨b,rfl,hc⟩
 · go_enter Tryz.func55,Tryz.ntmps55
   go_wp2_with fail
   go_ret
   exact ⟨rfl,rfl⟩
 · have k:=hc.cell 2
   simp only [List.getElem?_toArray,List.getElem?_cons_zero,List.getElem?_cons_succ] at k
   clear hc
   go_enter Tryz.func55,Tryz.ntmps55
   go_wp2_with fail
   go_ret
   exact ⟨rfl,rfl⟩
theorem nil_cursor {w:World} {v:Value} (h:NilZ w v):Calls Tryz.prog 46 #[v] w fun e w' => e=.returned (curV 0 0)∧Below w.heap.size w w':=by
 obtain ⟨w1,hw1⟩:∃ y,y=w.alloc (.cells #[.int .i64 0,.int .i64 0] 30 (0,0)):=⟨_,rfl⟩
 obtain ⟨qc,hqc⟩:∃ q,q=w.heap.size:=⟨_,rfl⟩
 have hb1:Below w.heap.size w w1:=by rw [hw1];exact (Below.refl _ _).alloc (Nat.le_refl _) _
 have hk1:Blk w1 qc 30 #[.int .i64 0,.int .i64 0]:=by rw [hw1,hqc];exact Blk.alloc_new w _ _
 have HU:=Lib.hid (nil_up (h.below hb1))
 have HW1:=Lib.hid hw1
 have HQC:=Lib.hid hqc
 have q0:=hk1.cell 0
 have q1:=hk1.cell 1
 have fq0:=hk1.free 0
 have fq1:=hk1.free 1
 have HH:=Lib.hid (show Below w.heap.size w ((w1.setCell ⟨qc,0,none⟩ (.int .i64 0)).setCell ⟨qc,1,none⟩ (.int .i64 0)) from (hb1.setCell (p:=⟨qc,0,none⟩) (by show w.heap.size≤qc;omega) _).setCell (p:=⟨qc,1,none⟩) (by show w.heap.size≤qc;omega) _)
 have s0:=(hk1.set 0 (.int .i64 0)).set 1 (.int .i64 0)
 have s1:=s0.cell 0
 have s2:=s0.cell 1
 simp only [List.getElem?_toArray,List.getElem?_cons_zero,List.getElem?_cons_succ,List.setIfInBounds_toArray,List.set_cons_zero,List.set_cons_succ] at s1 s2 q0 q1
 unfold curV
 have hv:∃ a,v=.pointer a:=by
  rcases h with h | ⟨b,h,_⟩
  · exact ⟨_,h⟩
  · exact ⟨_,h⟩
 obtain ⟨a,rfl⟩:=hv
 clear h hw1 hqc hb1 hk1 s0
 go_enter Tryz.func46,Tryz.ntmps46
 go_wp2_with fail
 rw [← HW1.out,← HQC.out]
 refine HU.out.mono ?_
 rintro e w2 ⟨rfl,rfl⟩
 clear HU
 go_wp2_with fail
 refine bodyPost_ret (v:=.agg #[.int .i64 0,.int .i64 0]) (by simp [results,Tryz.results46,go_sem,s1,s2]) rfl ?_
 exact ⟨rfl,HH.out⟩
theorem nil_log {w:World} {v:Value} (h:NilZ w v):Calls Tryz.prog 49 #[v] w fun e w' => e=.returned (.tuple #[.int .i64 0,.int .i64 0,.int .i64 0])∧w=w':=by
 have HU:=Lib.hid (nil_up h)
 clear h
 go_enter Tryz.func49,Tryz.ntmps49
 go_wp2_with fail
 refine HU.out.mono ?_
 rintro e w1 ⟨rfl,rfl⟩
 clear HU
 go_wp2_with fail
 refine bodyPost_ret (v:=.tuple #[.int .i64 0,.int .i64 0,.int .i64 0]) (by simp [results,Tryz.results49,go_sem]) rfl ?_
 exact ⟨rfl,rfl⟩
theorem nil_waiting {w:World} {v:Value} (h:NilZ w v):Calls Tryz.prog 56 #[v] w fun e w' => e=.returned (.bool false)∧w=w':=by
 have HU:=Lib.hid (nil_up h)
 clear h
 go_enter Tryz.func56,Tryz.ntmps56
 go_wp2_with fail
 refine HU.out.mono ?_
 rintro e w1 ⟨rfl,rfl⟩
 clear HU
 go_wp2_with fail
 go_ret
 exact ⟨rfl,rfl⟩
end Go.Proofs.YtdacanghbepjpaaGreatDoor
