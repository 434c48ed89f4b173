/- A host's log: a new segment is begun when asked for: walked. -/
import Derived.Test.YtdacanghbepjpaaGreatDoorHlS
namespace Go.Proofs.YtdacanghbepjpaaGreatDoor
set_option linter.unusedSimpArgs false
set_option linter.unusedVariables false
set_option maxRecDepth 100000
open Go.RowKit Go.Maps
open Dsk
section
variable {w0 w w':World} {X H S:Nat→Prop} {v lv:Value} {d d':Dk} {j B:Nat} {h:Hl} {vs:List SegV} {l:List Sg}
set_option maxHeartbeats 4000000 in
theorem hrotate_any (h0:HS w0 X H w v d j h) (hrun:h.runs d) (he:LEnv w0) (hbd:SgsBnd h.l) (hnx:nextOf h.l≤999999999) :
  Calls Tryz.prog 89 #[.pointer (some ⟨j,0,none⟩)] w fun e w' => e=.returned (.int .i64 (rotP d h).1)∧HPost w0 X H w v (rotP d h).2.2 j (rotP d h).2.1 w':=by
 have HR:=Lib.hid (hruns_any h0)
 rw [if_pos hrun] at HR
 obtain ⟨lv,vs,ho⟩:=h0.open_
 have HH:=Lib.hid ho
 have HL:=Lib.hid (fun (W:World) (hW:Below w.heap.size w W) => hend_any (ho.below hW).blk (ho.below hW).rows hbd.many)
 rcases List.eq_nil_or_concat h.l with hl | ⟨init,a,hl⟩
 · have hq:rotP d h=(0,h,d):=by unfold rotP;rw [hl];rfl
   rw [hq]
   rw [hl] at HL
   have e0:lastPtr lv ([]:List Sg).length=.pointer none:=lastPtr_nil lv
   rw [e0] at HL
   clear h0 hrun he hbd ho hl hq e0 hnx
   go_enter Tryz.func89,Tryz.ntmps89
   go_wp2_with fail
   refine HR.out.mono ?_
   rintro e w1 ⟨rfl,hb1⟩
   have HB:=Lib.hid hb1
   clear hb1
   go_wp2_with fail
   refine (HL.out w1 HB.out).mono ?_
   rintro e w2 ⟨rfl,hb2⟩
   have HB2:=Lib.hid (HB.out.trans (hb2.mono HB.out.size))
   clear hb2
   go_wp2_with fail
   go_ret
   exact ⟨rfl,HPost.same (HH.out.below HB2.out).hs (HK.below HB2.out)⟩
 · rw [List.concat_eq_append] at hl
   obtain ⟨g,c,sx,sc,ex,ec,hlv,hlp,_,_,hi,hvs⟩:=ho.last hl
   rw [hlp] at HL
   have HTC:=Lib.hid (fun (W:World) (hW:Below w.heap.size w W) => by
    have:=(ho.below hW).cells hlv init.length hi
    rw [hvs] at this
    exact this)
   have hq:rotP d h=if a.spans.length=0 then (0,h,d) else beginP d h []:=by
    unfold rotP
    rw [hl,getLast_snoc]
    simp only [List.length_eq_zero_iff]
   rw [hq]
   have HBG:=Lib.hid (fun (W:World) (hW:Below w.heap.size w W) => hbegin_any (h0.below hW) he hbd hnx (⟨#[]⟩:ByteArray) (by simp [ByteArray.size]))
   obtain ⟨n,hn⟩:∃ n,n=init.length:=⟨_,rfl⟩
   obtain ⟨sn,hsn⟩:∃ sn,sn=a.spans.length:=⟨_,rfl⟩
   simp only [← hn,← hsn] at HL HTC ⊢
   clear h0 hrun he hbd ho hl hq hlv hlp hvs hi hn hnx hsn
   by_cases hs0:sn=0
   · subst hs0
     rw [if_pos rfl]
     go_enter Tryz.func89,Tryz.ntmps89
     go_wp2_with fail
     refine HR.out.mono ?_
     rintro e w1 ⟨rfl,hb1⟩
     have HB:=Lib.hid hb1
     clear hb1
     go_wp2_with fail
     refine (HL.out w1 HB.out).mono ?_
     rintro e w2 ⟨rfl,hb2⟩
     have HB2:=Lib.hid (HB.out.trans (hb2.mono HB.out.size))
     clear hb2
     obtain ⟨_,_,p1,_⟩:=HTC.out w2 HB2.out
     go_wp2_with fail
     go_ret
     exact ⟨rfl,HPost.same (HH.out.below HB2.out).hs (HK.below HB2.out)⟩
   · rw [if_neg hs0]
     have t0:((sn:Int) == 0)=false:=by rw [beq_eq_false_iff_ne];omega
     go_enter Tryz.func89,Tryz.ntmps89
     go_wp2_with fail
     refine HR.out.mono ?_
     rintro e w1 ⟨rfl,hb1⟩
     have HB:=Lib.hid hb1
     clear hb1
     go_wp2_with fail
     refine (HL.out w1 HB.out).mono ?_
     rintro e w2 ⟨rfl,hb2⟩
     have HB2:=Lib.hid (HB.out.trans (hb2.mono HB.out.size))
     clear hb2
     obtain ⟨_,_,p1,_⟩:=HTC.out w2 HB2.out
     go_wp2_with fail
     clear p1
     refine (HBG.out w2 HB2.out).mono ?_
     rintro e w3 ⟨rfl,N,hN,hs,hk⟩
     have HN:=Lib.hid (show HPost w0 X H w v (beginP d h []).2.2 j (beginP d h []).2.1 w3 from ⟨N,fun k e => ⟨Nat.le_trans HB2.out.size (hN k e).1,(hN k e).2⟩,hs,(HK.below HB2.out).trans hk⟩)
     clear hN hs hk
     go_wp2_with fail
     go_ret
     exact ⟨rfl,HN.out⟩
end
end Go.Proofs.YtdacanghbepjpaaGreatDoor
