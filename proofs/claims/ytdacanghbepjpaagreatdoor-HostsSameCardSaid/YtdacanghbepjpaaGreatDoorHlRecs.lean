/- A host's log's records, one by one: the iterator, for every loop body. -/
import Derived.RangeFuncNested
import Derived.RangeFuncBound
import Derived.RangeFuncCalls
import Derived.RangeFuncLeaves
import Derived.Shelf.Abstract
import Derived.Shelf.RegionOpen
import Derived.WalkKit
import Derived.OwnWalkIn
import Derived.TacticsInMore
import Derived.LoopNIn
import Derived.LoopIn
import Derived.Test.YtdacanghbepjpaaGreatDoorM7
import Derived.Test.YtdacanghbepjpaaGreatDoorM6
namespace Go.Proofs.YtdacanghbepjpaaGreatDoor
set_option linter.unusedSimpArgs false
set_option linter.unusedVariables false
set_option maxRecDepth 100000
open Go.RowKit Go.Maps
open Dsk
attribute [local go_sem] Oper.semAt_some
def KpS (n₀:Nat) (W W':World):Prop:=Below n₀ W W'∧∀ k cs,Blk W k 132 cs→Blk W' k 132 cs
theorem KpS.trans {n₀:Nat} {A B C:World} (h:KpS n₀ A B) (k:KpS n₀ B C):KpS n₀ A C:=⟨h.1.trans k.1,fun b cs e => k.2 b cs (h.2 b cs e)⟩
theorem KpS.put {n₀:Nat} {w:World} (hn:n₀≤w.heap.size) (W:World) (l:Nat) (o o':Obj) (hl:w.heap.size≤l) (h:W.heap[l]?=some o) (hc:o.isCells=false) (hw:o.isWalk=false):KpS n₀ W (W.putObj l o') :=
 ⟨belowK_b hn W l o o' hl h hc hw,fun k cs e => by
  have hne:k≠l:=fun e2 => by
   subst e2
   unfold Blk at e
   rw [h] at e
   injection e with e
   rw [e] at hc
   cases hc
  unfold Blk at e ⊢
  rw [World.putObj_heap_other hne]
  exact e⟩
theorem KpS.refl (n₀:Nat) (W:World):KpS n₀ W W:=⟨Below.refl _ _,fun _ _ e => e⟩
def upTo (l:List Sg) (k i:Nat):List (Nat×Sp.Span):=numbered (l.take k)++(match l[k]? with | none => [] | some a => numFrom a.first (a.spans.take i))
theorem upTo_zero (l:List Sg) (k:Nat):upTo l k 0=numbered (l.take k):=by
 unfold upTo
 cases l[k]? with
 | none => simp
 | some a => simp [numFrom]
theorem upTo_end (l:List Sg) (k:Nat) (hk:k<l.length):upTo l k l[k].spans.length=upTo l (k+1) 0:=by
 rw [upTo_zero,List.take_succ_eq_append_getElem hk]
 unfold upTo numbered
 rw [List.getElem?_eq_getElem hk,List.flatMap_append]
 simp
theorem upTo_succ (l:List Sg) (k i:Nat) (hk:k<l.length) (hi:i<l[k].spans.length):upTo l k (i+1)=upTo l k i++[(l[k].first+i,l[k].spans[i])]:=by
 unfold upTo
 rw [List.getElem?_eq_getElem hk]
 simp only
 rw [List.take_succ_eq_append_getElem hi,numFrom_append,← List.append_assoc]
 congr 1
 rw [List.length_take]
 simp only [numFrom]
 congr 2
 omega
theorem upTo_len (l:List Sg) (k i:Nat) (hk:k<l.length) (hi:i<l[k].spans.length):(upTo l k i).length<(numbered l).length:=by
 have e:l=l.take k++l[k]::l.drop (k+1):=by rw [← List.drop_eq_getElem_cons hk,List.take_append_drop]
 have h1:(numbered l).length=(numbered (l.take k)).length+(l[k].spans.length+(numbered (l.drop (k+1))).length):=by
  conv => lhs;rw [e]
  unfold numbered
  rw [List.flatMap_append,List.flatMap_cons,List.length_append,List.length_append,numFrom_length]
 unfold upTo
 rw [List.getElem?_eq_getElem hk,List.length_append]
 simp only
 rw [numFrom_length,List.length_take]
 omega
theorem numFrom_prefix (n:Nat) (xs:List Sp.Span) (i:Nat):numFrom n (xs.take i) <+: numFrom n xs:=by
 have e:numFrom n xs=numFrom n (xs.take i++xs.drop i):=by rw [List.take_append_drop]
 rw [e,numFrom_append]
 exact List.prefix_append _ _
theorem upTo_prefix (l:List Sg) (k i:Nat) (hk:k<l.length):upTo l k i <+: numbered l:=by
 have e:l=l.take k++l[k]::l.drop (k+1):=by rw [← List.drop_eq_getElem_cons hk,List.take_append_drop]
 have h1:numbered l=numbered (l.take k)++(numFrom l[k].first l[k].spans++numbered (l.drop (k+1))):=by
  conv => lhs;rw [e]
  unfold numbered
  rw [List.flatMap_append,List.flatMap_cons]
 rw [h1]
 unfold upTo
 rw [List.getElem?_eq_getElem hk]
 exact (List.prefix_append_right_inj _).2 ((numFrom_prefix _ _ _).trans (List.prefix_append _ _))
section
variable {w0 w w':World} {X H S:Nat→Prop} {v lv:Value} {d d':Dk} {j B:Nat} {h:Hl} {vs:List SegV} {l:List Sg}
theorem segEl {w:World} {B:Nat} {sv:Value} {xs:List Sp.Span} (h:OwnSp w B sv xs) (i:Nat) (hi:i<xs.length):∃ g c,sv=.slice (some ⟨g,0,none⟩) xs.length c∧g<w.heap.size ∧
  (w.cell? ⟨g,i*8,none⟩=some (.int .i64 xs[i].trace)∧w.cell? ⟨g,i*8+1,none⟩=some (.int .i64 xs[i].id)∧w.cell? ⟨g,i*8+2,none⟩=some (.int .i64 xs[i].parent)∧w.cell? ⟨g,i*8+3,none⟩=some (.string xs[i].service) ∧
  w.cell? ⟨g,i*8+4,none⟩=some (.string xs[i].host)∧w.cell? ⟨g,i*8+5,none⟩=some (.int .i64 xs[i].start)∧w.cell? ⟨g,i*8+6,none⟩=some (.int .i64 xs[i].dur)∧w.cell? ⟨g,i*8+7,none⟩=some (.string xs[i].note)):=by
 obtain ⟨g,c,e,_,_,hg,hc⟩:=OwnRow.at_ spRow_len h i hi
 exact ⟨g,c,e,hg,(hc 0 _ rfl).1,(hc 1 _ rfl).1,(hc 2 _ rfl).1,(hc 3 _ rfl).1,(hc 4 _ rfl).1,(hc 5 _ rfl).1,(hc 6 _ rfl).1,(hc 7 _ rfl).1⟩
set_option maxHeartbeats 8000000 in
theorem records1_in (n:Nat) (y Bn:Nat) (J Jx:List (Nat×Sp.Span)→World→Prop) (W:World)
  (hr:LogRows B w lv vs l) (hb:Blk w j 136 #[v,.int .i64 h.st,.bool h.lost,lv]) (hbd:SgsBnd l) (hW:Below w.heap.size w W)
  (hJ:AbidesFrom W.heap.size J)
  (hY:∀ pre p W1,J pre W1→pre.length<(numbered l).length→YieldAt Fence.wide 8 Tryz.prog y #[.int .i64 (p:Nat×Sp.Span).1,spV p.2] W1 fun e W' =>
   (e=.returned (.bool true)∧J (pre++[p]) W'∧KpS w.heap.size W1 W')∨(e=.returned (.bool false)∧Jx (pre++[p]) W'))
  (hBn:W.cell? ⟨Bn,0,none⟩=some (.pointer (some ⟨j,0,none⟩))) (h0:J [] W) :
  CallsIn Fence.wide 9 Tryz.prog 151 (#[.func (.yield y) #[] #[]]++#[.pointer (some ⟨Bn,0,none⟩)]) W fun e W' => (∃ v,e=.returned v) ∧
   ((∃ ys,ys=numbered l∧J ys W')∨(∃ pre,pre <+: numbered l∧Jx pre W')):=by
 obtain ⟨x,c,rfl⟩:=hr.row.shape
 have HRW:=Lib.hid hr
 rw [hr.len] at hb HRW
 obtain ⟨m,hm⟩:∃ m,m=l.length:=⟨_,rfl⟩
 rw [← hm] at hb HRW
 have Hm:=Lib.hid hm
 have hm9:m≤1000000:=by rw [hm];exact hbd.many
 have HBD:=Lib.hid hbd
 have hjl:=hb.lt
 have c3:=hb.cell 3
 simp at c3
 have d3:=(hW.cell (p:=⟨j,3,none⟩) hjl).trans c3
 have HW:=Lib.hid hW
 have HJ:=Lib.hid hJ
 have HY:=Lib.hid hY
 have h00:J (upTo l 0 0) W:=by rw [upTo_zero];exact h0
 have H0:=Lib.hid h00
 have hWz:=hW.size
 have HZ:=Lib.hid hWz
 clear hr hb hm hbd c3 hW hJ hY h0 h00 hWz
 refine callsIn_of_wp Tryz.func151 rfl trivial ?_ rfl
 simp only [Tryz.ntmps151,List.size_toArray,List.length_cons,List.length_nil,Nat.reduceAdd,Nat.reduceSub,Array.replicate_succ,Array.replicate_zero,List.push_toArray,List.append_toArray,List.nil_append,List.cons_append]
 gi_wp2_with fail
 gi_loopw [4,5,6,12] (fun _ _ _ v12 wr => ∃ k:Nat,v12=.int .i64 k∧k≤m∧J (upTo l k 0) wr∧Below w.heap.size w wr∧W.heap.size≤wr.heap.size) (fun _ _ _ v12 _ => m-(intOf v12).toNat)
 case atStart => exact ⟨0,rfl,Nat.zero_le _,H0.out,HW.out,Nat.le_refl _⟩
 case round =>
  obtain ⟨k,rfl,hk,hJk,hbe,hwz⟩:=hrel
  have HJK:=Lib.hid hJk
  have HBE:=Lib.hid hbe
  have HWZ:=Lib.hid hwz
  clear hJk hbe hwz d3
  by_cases hlt:k<m
  · have hkl:k<l.length:=by rw [← Hm.out];exact hlt
    obtain ⟨g,c',sx,sc,ex,ec,hlv,hc,hs,hdep⟩:=HRW.out.seg k hkl
    clear hdep
    rw [← Hm.out] at hlv
    injection hlv with e1 e2 e3
    subst e1
    clear e2 e3
    obtain ⟨a,ha⟩:∃ a,a=l[k]:=⟨_,rfl⟩
    have HA:=Lib.hid ha
    rw [← ha] at hs
    have hmem:a∈l:=by rw [ha];exact List.getElem_mem hkl
    have hgl:=hs.lt
    have s0:=(HBE.out.cell (p:=⟨g,k*3,none⟩) hgl).trans hs.c0
    have s1:=(HBE.out.cell (p:=⟨g,k*3+1,none⟩) hgl).trans hs.c1
    have s2:=(HBE.out.cell (p:=⟨g,k*3+2,none⟩) hgl).trans hs.c2
    have HSP:=Lib.hid hs.spans
    have hf9:=HBD.out.first a hmem
    have hl9:=HBD.out.len a hmem
    obtain ⟨fn,hfn⟩:∃ fn,fn=a.first:=⟨_,rfl⟩
    obtain ⟨sn,hsn⟩:∃ sn,sn=a.spans.length:=⟨_,rfl⟩
    rw [← hfn] at s0 hf9
    rw [← hsn] at s1 s2 hl9 HSP
    have HFN:=Lib.hid hfn
    have HSN:=Lib.hid hsn
    obtain ⟨q,hq⟩:∃ q,q=wr.heap.size:=⟨_,rfl⟩
    obtain ⟨wb,hwb⟩:∃ wb,wb=wr.alloc (.cells #[.int .i64 fn,.slice sx sn sc,.slice ex sn ec] 132 (0,0)):=⟨_,rfl⟩
    have hlt2:(k:Int)<m:=by omega
    have hk0:(0:Int)≤k:=by omega
    clear hs ha hmem hfn hsn hc
    gi_wp2_with fail
    rw [← hwb,← hq]
    have hbb:Below wr.heap.size wr wb:=by rw [hwb];exact (Below.refl _ _).alloc (Nat.le_refl _) _
    have hkb:Blk wb q 132 #[.int .i64 fn,.slice sx sn sc,.slice ex sn ec]:=by rw [hwb,hq];exact Blk.alloc_new wr _ _
    have hjb:J (upTo l k 0) wb:=by rw [hwb];exact HJ.out _ _ _ none HJK.out (World.grownBy_alloc wr _ none) (fun r e => by cases e)
    have HBB:=Lib.hid (HBE.out.trans (hbb.mono HBE.out.size))
    have HWB:=Lib.hid (Nat.le_trans HWZ.out hbb.size)
    have HKB:=Lib.hid hkb
    have HJB:=Lib.hid hjb
    clear hwb hq hbb hkb hjb s0 s1 s2
    gi_loopw [5,6,19] (fun _ _ v19 wi => ∃ i:Nat,v19=.int .i64 i∧i≤sn∧J (upTo l k i) wi∧Below w.heap.size w wi∧Blk wi q 132 #[.int .i64 fn,.slice sx sn sc,.slice ex sn ec]∧W.heap.size≤wi.heap.size) (fun _ _ v19 _ => sn-(intOf v19).toNat)
    case atStart => exact ⟨0,rfl,Nat.zero_le _,HJB.out,HBB.out,HKB.out,HWB.out⟩
    case round =>
     obtain ⟨i,rfl,hi,hJi,hbi,hki,hwi⟩:=hrel
     have HJI:=Lib.hid hJi
     have HBI:=Lib.hid hbi
     have HKI:=Lib.hid hki
     have HWI:=Lib.hid hwi
     have q0:=hki.cell 0
     have q1:=hki.cell 1
     have q2:=hki.cell 2
     simp at q0 q1 q2
     clear hJi hbi hki hwi
     by_cases hil:i<sn
     · have hia:i<a.spans.length:=by rw [← HSN.out];exact hil
       obtain ⟨ge,ce,hsv,hge,x0,x1,x2,x3,x4,x5,x6,x7⟩:=segEl HSP.out i hia
       rw [← HSN.out] at hsv
       injection hsv with e1 e2 e3
       subst e1
       clear e2 e3
       obtain ⟨xi,hxi⟩:∃ xi,xi=a.spans[i]:=⟨_,rfl⟩
       rw [← hxi] at x0 x1 x2 x3 x4 x5 x6 x7
       obtain ⟨zt,zi,zp,zs,zh,za,zd,zn⟩:=xi
       simp only at x0 x1 x2 x3 x4 x5 x6 x7
       have y0:=(HBI.out.cell (p:=⟨ge,i*8,none⟩) hge).trans x0
       have y1:=(HBI.out.cell (p:=⟨ge,i*8+1,none⟩) hge).trans x1
       have y2:=(HBI.out.cell (p:=⟨ge,i*8+2,none⟩) hge).trans x2
       have y3:=(HBI.out.cell (p:=⟨ge,i*8+3,none⟩) hge).trans x3
       have y4:=(HBI.out.cell (p:=⟨ge,i*8+4,none⟩) hge).trans x4
       have y5:=(HBI.out.cell (p:=⟨ge,i*8+5,none⟩) hge).trans x5
       have y6:=(HBI.out.cell (p:=⟨ge,i*8+6,none⟩) hge).trans x6
       have y7:=(HBI.out.cell (p:=⟨ge,i*8+7,none⟩) hge).trans x7
       have HXI:=Lib.hid (show l[k]'hkl=a∧upTo l k (i+1)=upTo l k i++[(fn+i,⟨zt,zi,zp,zs,zh,za,zd,zn⟩)]∧(upTo l k i).length<(numbered l).length from by
        have e1:l[k]'hkl=a:=HA.out.symm
        have hi':i<(l[k]'hkl).spans.length:=by rw [e1];exact hia
        refine ⟨e1,?_,upTo_len l k i hkl hi'⟩
        rw [upTo_succ l k i hkl hi',HFN.out]
        congr 3
        · rw [e1]
        · rw [hxi];congr 1;rw [e1])
       obtain ⟨qx,hqx⟩:∃ qx,qx=wr.heap.size:=⟨_,rfl⟩
       obtain ⟨wx,hwx⟩:∃ wx,wx=wr.alloc (.cells #[.int .i64 zt,.int .i64 zi,.int .i64 zp,.string zs,.string zh,.int .i64 za,.int .i64 zd,.string zn] 47 (0,0)):=⟨_,rfl⟩
       have hbx:Below wr.heap.size wr wx:=by rw [hwx];exact (Below.refl _ _).alloc (Nat.le_refl _) _
       have hjx:J (upTo l k i) wx:=by rw [hwx];exact HJ.out _ _ _ none HJI.out (World.grownBy_alloc wr _ none) (fun r e => by cases e)
       have hkx:Blk wx q 132 #[.int .i64 fn,.slice (some ⟨ge,0,none⟩) sn sc,.slice ex sn ec]:=HKI.out.below hbx
       obtain ⟨fnY,tmps,assign,body,hy,hR⟩:=HY.out (upTo l k i) (fn+i,⟨zt,zi,zp,zs,zh,za,zd,zn⟩) wx hjx HXI.out.2.2
       unfold spV at hy
       dsimp only at hy
       obtain ⟨tot,htot⟩:∃ tot,tot=fn+i:=⟨_,rfl⟩
       rw [← htot,hwx] at hy
       rw [hwx] at hR
       have hti:(fn:Int)+(i:Int)=(tot:Int):=by omega
       have htw:IntKind.i64.wrap (tot:Int)=tot:=by rw [IntKind.wrap_i64];omega
       have r0:=hkx.cell 0
       simp only [List.getElem?_toArray,List.getElem?_cons_zero] at r0
       rw [hwx] at r0
       have HTOT:=Lib.hid htot
       have HR:=Lib.hid hR
       have HBX:=Lib.hid (HBI.out.trans (hbx.mono HBI.out.size))
       have HKX:=Lib.hid hkx
       have HWX:=Lib.hid (Nat.le_trans HWI.out hbx.size)
       have hil2:(i:Int)<sn:=by omega
       have hi0:(0:Int)≤i:=by omega
       clear x0 x1 x2 x3 x4 x5 x6 x7 hxi hia hbx hjx hkx hR htot
       gi_wp2_with fail
       refine HR.out.mono ?_
       rintro e W3 (⟨rfl,hJ3,hk3⟩ | ⟨rfl,hJx3⟩)
       · rw [← hwx] at hk3
         have HB3:=Lib.hid (HBX.out.trans hk3.1)
         have HK3:=Lib.hid (hk3.2 _ _ HKX.out)
         have HW3:=Lib.hid (Nat.le_trans HWX.out hk3.1.size)
         have HJ3:=Lib.hid hJ3
         clear hJ3 hk3 hy r0 q0 q1 q2 hwx
         gi_wp2_with fail
         go_roundw
         case rel => exact ⟨i+1,by go_num,by omega,(by rw [HXI.out.2.1];exact HJ3.out),HB3.out,HK3.out,HW3.out⟩
         case measure => simp [intOf];omega
       · have HX3:=Lib.hid hJx3
         clear hJx3 hy r0 q0 q1 q2 hwx
         gi_wp2_with fail
         refine bodyPost_ret (results_none rfl _ _ _) rfl ?_
         exact ⟨⟨_,rfl⟩,.inr ⟨_,(by rw [← HXI.out.2.1];exact upTo_prefix l k (i+1) hkl),HX3.out⟩⟩
     · obtain rfl:i=sn:=by omega
       have hge2:¬ (i:Int)<i:=by omega
       clear q0 q1 q2
       gi_wp2_with fail
       go_roundw
       case rel => exact ⟨k+1,by go_num,by omega,by
        have e:=upTo_end l k hkl
        rw [show (l[k]'hkl).spans.length=i by rw [HSN.out,HA.out]] at e
        rw [← e]
        exact HJI.out,HBI.out,HWI.out⟩
       case measure => simp [intOf];omega
  · obtain rfl:k=m:=by omega
    have hge:¬ (k:Int)<k:=by omega
    gi_wp2_with fail
    go_end0
    refine ⟨⟨_,rfl⟩,.inl ?_⟩
    have:=HJK.out
    rw [upTo_zero,List.take_of_length_le (by rw [← Hm.out];exact Nat.le_refl _)] at this
    exact this
end
end Go.Proofs.YtdacanghbepjpaaGreatDoor
