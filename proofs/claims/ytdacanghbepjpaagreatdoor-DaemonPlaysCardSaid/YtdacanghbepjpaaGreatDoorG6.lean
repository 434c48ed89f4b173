/- A host's log's records, one by one: the iterator, for every loop body. A host's log's pages: walked. A host's log is opened: of a disk that is none, or down, or has no file: walked. A host's log that does not run (its disk fell, or was started since): what its acts answer: walked. -/
import Derived.RangeFuncNested
import Derived.RangeFuncBound
import Derived.RangeFuncCalls
import Derived.RangeFuncLeaves
import Derived.Shelf.Abstract
import Derived.Shelf.RegionOpen
import Derived.WalkKit
import Derived.OwnWalkIn
import Derived.TacticsInMore
import Derived.LoopNIn
import Derived.LoopIn
import Derived.Test.YtdacanghbepjpaaGreatDoorG3
import Derived.Test.YtdacanghbepjpaaGreatDoorM6
import Derived.Test.YtdacanghbepjpaaGreatDoorSink2
import Derived.Test.YtdacanghbepjpaaGreatDoorG5
import Derived.Maps.AppendAt
namespace Go.Proofs.YtdacanghbepjpaaGreatDoor
set_option linter.unusedSimpArgs false
set_option linter.unusedVariables false
set_option maxRecDepth 100000
open Go.RowKit Go.Maps
open Dsk
attribute [local go_sem] Oper.semAt_some
def KpS (n₀:Nat) (W W':World):Prop:=Below n₀ W W'∧∀ k cs,Blk W k 132 cs→Blk W' k 132 cs
theorem KpS.trans {n₀:Nat} {A B C:World} (h:KpS n₀ A B) (k:KpS n₀ B C):KpS n₀ A C:=⟨h.1.trans k.1,fun b cs e => k.2 b cs (h.2 b cs e)⟩
theorem KpS.put {n₀:Nat} {w:World} (hn:n₀≤w.heap.size) (W:World) (l:Nat) (o o':Obj) (hl:w.heap.size≤l) (h:W.heap[l]?=some o) (hc:o.isCells=false) (hw:o.isWalk=false):KpS n₀ W (W.putObj l o') :=
 ⟨belowK_b hn W l o o' hl h hc hw,fun k cs e => by
  have hne:k≠l:=fun e2 => by
   subst e2
   unfold Blk at e
   rw [h] at e
   injection e with e
   rw [e] at hc
   cases hc
  unfold Blk at e ⊢
  rw [World.putObj_heap_other hne]
  exact e⟩
theorem KpS.refl (n₀:Nat) (W:World):KpS n₀ W W:=⟨Below.refl _ _,fun _ _ e => e⟩
def upTo (l:List Sg) (k i:Nat):List (Nat×Sp.Span):=numbered (l.take k)++(match l[k]? with | none => [] | some a => numFrom a.first (a.spans.take i))
theorem upTo_zero (l:List Sg) (k:Nat):upTo l k 0=numbered (l.take k):=by
 unfold upTo
 cases l[k]? with
 | none => simp
 | some a => simp [numFrom]
theorem upTo_end (l:List Sg) (k:Nat) (hk:k<l.length):upTo l k l[k].spans.length=upTo l (k+1) 0:=by
 rw [upTo_zero,List.take_succ_eq_append_getElem hk]
 unfold upTo numbered
 rw [List.getElem?_eq_getElem hk,List.flatMap_append]
 simp
theorem upTo_succ (l:List Sg) (k i:Nat) (hk:k<l.length) (hi:i<l[k].spans.length):upTo l k (i+1)=upTo l k i++[(l[k].first+i,l[k].spans[i])]:=by
 unfold upTo
 rw [List.getElem?_eq_getElem hk]
 simp only
 rw [List.take_succ_eq_append_getElem hi,numFrom_append,← List.append_assoc]
 congr 1
 rw [List.length_take]
 simp only [numFrom]
 congr 2
 omega
theorem upTo_len (l:List Sg) (k i:Nat) (hk:k<l.length) (hi:i<l[k].spans.length):(upTo l k i).length<(numbered l).length:=by
 have e:l=l.take k++l[k]::l.drop (k+1):=by rw [← List.drop_eq_getElem_cons hk,List.take_append_drop]
 have h1:(numbered l).length=(numbered (l.take k)).length+(l[k].spans.length+(numbered (l.drop (k+1))).length):=by
  conv => lhs;rw [e]
  unfold numbered
  rw [List.flatMap_append,List.flatMap_cons,List.length_append,List.length_append,numFrom_length]
 unfold upTo
 rw [List.getElem?_eq_getElem hk,List.length_append]
 simp only
 rw [numFrom_length,List.length_take]
 omega
theorem numFrom_prefix (n:Nat) (xs:List Sp.Span) (i:Nat):numFrom n (xs.take i) <+: numFrom n xs:=by
 have e:numFrom n xs=numFrom n (xs.take i++xs.drop i):=by rw [List.take_append_drop]
 rw [e,numFrom_append]
 exact List.prefix_append _ _
theorem upTo_prefix (l:List Sg) (k i:Nat) (hk:k<l.length):upTo l k i <+: numbered l:=by
 have e:l=l.take k++l[k]::l.drop (k+1):=by rw [← List.drop_eq_getElem_cons hk,List.take_append_drop]
 have h1:numbered l=numbered (l.take k)++(numFrom l[k].first l[k].spans++numbered (l.drop (k+1))):=by
  conv => lhs;rw [e]
  unfold numbered
  rw [List.flatMap_append,List.flatMap_cons]
 rw [h1]
 unfold upTo
 rw [List.getElem?_eq_getElem hk]
 exact (List.prefix_append_right_inj _).2 ((numFrom_prefix _ _ _).trans (List.prefix_append _ _))
section
variable {w0 w w':World} {X H S:Nat→Prop} {v lv:Value} {d d':Dk} {j B:Nat} {h:Hl} {vs:List SegV} {l:List Sg}
theorem segEl {w:World} {B:Nat} {sv:Value} {xs:List Sp.Span} (h:OwnSp w B sv xs) (i:Nat) (hi:i<xs.length):∃ g c,sv=.slice (some ⟨g,0,none⟩) xs.length c∧g<w.heap.size ∧
  (w.cell? ⟨g,i*8,none⟩=some (.int .i64 xs[i].trace)∧w.cell? ⟨g,i*8+1,none⟩=some (.int .i64 xs[i].id)∧w.cell? ⟨g,i*8+2,none⟩=some (.int .i64 xs[i].parent)∧w.cell? ⟨g,i*8+3,none⟩=some (.string xs[i].service) ∧
  w.cell? ⟨g,i*8+4,none⟩=some (.string xs[i].host)∧w.cell? ⟨g,i*8+5,none⟩=some (.int .i64 xs[i].start)∧w.cell? ⟨g,i*8+6,none⟩=some (.int .i64 xs[i].dur)∧w.cell? ⟨g,i*8+7,none⟩=some (.string xs[i].note)):=by
 obtain ⟨g,c,e,_,_,hg,hc⟩:=OwnRow.at_ spRow_len h i hi
 exact ⟨g,c,e,hg,(hc 0 _ rfl).1,(hc 1 _ rfl).1,(hc 2 _ rfl).1,(hc 3 _ rfl).1,(hc 4 _ rfl).1,(hc 5 _ rfl).1,(hc 6 _ rfl).1,(hc 7 _ rfl).1⟩
set_option maxHeartbeats 8000000 in
theorem records1_in (n:Nat) (y Bn:Nat) (J Jx:List (Nat×Sp.Span)→World→Prop) (W:World)
  (hr:LogRows B w lv vs l) (hb:Blk w j 136 #[v,.int .i64 h.st,.bool h.lost,lv]) (hbd:SgsBnd l) (hW:Below w.heap.size w W)
  (hJ:AbidesFrom W.heap.size J)
  (hY:∀ pre p W1,J pre W1→pre.length<(numbered l).length→YieldAt Fence.wide 8 Tryz.prog y #[.int .i64 (p:Nat×Sp.Span).1,spV p.2] W1 fun e W' =>
   (e=.returned (.bool true)∧J (pre++[p]) W'∧KpS w.heap.size W1 W')∨(e=.returned (.bool false)∧Jx (pre++[p]) W'))
  (hBn:W.cell? ⟨Bn,0,none⟩=some (.pointer (some ⟨j,0,none⟩))) (h0:J [] W) :
  CallsIn Fence.wide 9 Tryz.prog 151 (#[.func (.yield y) #[] #[]]++#[.pointer (some ⟨Bn,0,none⟩)]) W fun e W' => (∃ v,e=.returned v) ∧
   ((∃ ys,ys=numbered l∧J ys W')∨(∃ pre,pre <+: numbered l∧Jx pre W')):=by
 obtain ⟨x,c,rfl⟩:=hr.row.shape
 have HRW:=Lib.hid hr
 rw [hr.len] at hb HRW
 obtain ⟨m,hm⟩:∃ m,m=l.length:=⟨_,rfl⟩
 rw [← hm] at hb HRW
 have Hm:=Lib.hid hm
 have hm9:m≤1000000:=by rw [hm];exact hbd.many
 have HBD:=Lib.hid hbd
 have hjl:=hb.lt
 have c3:=hb.cell 3
 simp at c3
 have d3:=(hW.cell (p:=⟨j,3,none⟩) hjl).trans c3
 have HW:=Lib.hid hW
 have HJ:=Lib.hid hJ
 have HY:=Lib.hid hY
 have h00:J (upTo l 0 0) W:=by rw [upTo_zero];exact h0
 have H0:=Lib.hid h00
 have hWz:=hW.size
 have HZ:=Lib.hid hWz
 clear hr hb hm hbd c3 hW hJ hY h0 h00 hWz
 refine callsIn_of_wp Tryz.func151 rfl trivial ?_ rfl
 simp only [Tryz.ntmps151,List.size_toArray,List.length_cons,List.length_nil,Nat.reduceAdd,Nat.reduceSub,Array.replicate_succ,Array.replicate_zero,List.push_toArray,List.append_toArray,List.nil_append,List.cons_append]
 gi_wp2_with fail
 gi_loopw [4,5,6,12] (fun _ _ _ v12 wr => ∃ k:Nat,v12=.int .i64 k∧k≤m∧J (upTo l k 0) wr∧Below w.heap.size w wr∧W.heap.size≤wr.heap.size) (fun _ _ _ v12 _ => m-(intOf v12).toNat)
 case atStart => exact ⟨0,rfl,Nat.zero_le _,H0.out,HW.out,Nat.le_refl _⟩
 case round =>
  obtain ⟨k,rfl,hk,hJk,hbe,hwz⟩:=hrel
  have HJK:=Lib.hid hJk
  have HBE:=Lib.hid hbe
  have HWZ:=Lib.hid hwz
  clear hJk hbe hwz d3
  by_cases hlt:k<m
  · have hkl:k<l.length:=by rw [← Hm.out];exact hlt
    obtain ⟨g,c',sx,sc,ex,ec,hlv,hc,hs,hdep⟩:=HRW.out.seg k hkl
    clear hdep
    rw [← Hm.out] at hlv
    injection hlv with e1 e2 e3
    subst e1
    clear e2 e3
    obtain ⟨a,ha⟩:∃ a,a=l[k]:=⟨_,rfl⟩
    have HA:=Lib.hid ha
    rw [← ha] at hs
    have hmem:a∈l:=by rw [ha];exact List.getElem_mem hkl
    have hgl:=hs.lt
    have s0:=(HBE.out.cell (p:=⟨g,k*3,none⟩) hgl).trans hs.c0
    have s1:=(HBE.out.cell (p:=⟨g,k*3+1,none⟩) hgl).trans hs.c1
    have s2:=(HBE.out.cell (p:=⟨g,k*3+2,none⟩) hgl).trans hs.c2
    have HSP:=Lib.hid hs.spans
    have hf9:=HBD.out.first a hmem
    have hl9:=HBD.out.len a hmem
    obtain ⟨fn,hfn⟩:∃ fn,fn=a.first:=⟨_,rfl⟩
    obtain ⟨sn,hsn⟩:∃ sn,sn=a.spans.length:=⟨_,rfl⟩
    rw [← hfn] at s0 hf9
    rw [← hsn] at s1 s2 hl9 HSP
    have HFN:=Lib.hid hfn
    have HSN:=Lib.hid hsn
    obtain ⟨q,hq⟩:∃ q,q=wr.heap.size:=⟨_,rfl⟩
    obtain ⟨wb,hwb⟩:∃ wb,wb=wr.alloc (.cells #[.int .i64 fn,.slice sx sn sc,.slice ex sn ec] 132 (0,0)):=⟨_,rfl⟩
    have hlt2:(k:Int)<m:=by omega
    have hk0:(0:Int)≤k:=by omega
    clear hs ha hmem hfn hsn hc
    gi_wp2_with fail
    rw [← hwb,← hq]
    have hbb:Below wr.heap.size wr wb:=by rw [hwb];exact (Below.refl _ _).alloc (Nat.le_refl _) _
    have hkb:Blk wb q 132 #[.int .i64 fn,.slice sx sn sc,.slice ex sn ec]:=by rw [hwb,hq];exact Blk.alloc_new wr _ _
    have hjb:J (upTo l k 0) wb:=by rw [hwb];exact HJ.out _ _ _ none HJK.out (World.grownBy_alloc wr _ none) (fun r e => by cases e)
    have HBB:=Lib.hid (HBE.out.trans (hbb.mono HBE.out.size))
    have HWB:=Lib.hid (Nat.le_trans HWZ.out hbb.size)
    have HKB:=Lib.hid hkb
    have HJB:=Lib.hid hjb
    clear hwb hq hbb hkb hjb s0 s1 s2
    gi_loopw [5,6,19] (fun _ _ v19 wi => ∃ i:Nat,v19=.int .i64 i∧i≤sn∧J (upTo l k i) wi∧Below w.heap.size w wi∧Blk wi q 132 #[.int .i64 fn,.slice sx sn sc,.slice ex sn ec]∧W.heap.size≤wi.heap.size) (fun _ _ v19 _ => sn-(intOf v19).toNat)
    case atStart => exact ⟨0,rfl,Nat.zero_le _,HJB.out,HBB.out,HKB.out,HWB.out⟩
    case round =>
     obtain ⟨i,rfl,hi,hJi,hbi,hki,hwi⟩:=hrel
     have HJI:=Lib.hid hJi
     have HBI:=Lib.hid hbi
     have HKI:=Lib.hid hki
     have HWI:=Lib.hid hwi
     have q0:=hki.cell 0
     have q1:=hki.cell 1
     have q2:=hki.cell 2
     simp at q0 q1 q2
     clear hJi hbi hki hwi
     by_cases hil:i<sn
     · have hia:i<a.spans.length:=by rw [← HSN.out];exact hil
       obtain ⟨ge,ce,hsv,hge,x0,x1,x2,x3,x4,x5,x6,x7⟩:=segEl HSP.out i hia
       rw [← HSN.out] at hsv
       injection hsv with e1 e2 e3
       subst e1
       clear e2 e3
       obtain ⟨xi,hxi⟩:∃ xi,xi=a.spans[i]:=⟨_,rfl⟩
       rw [← hxi] at x0 x1 x2 x3 x4 x5 x6 x7
       obtain ⟨zt,zi,zp,zs,zh,za,zd,zn⟩:=xi
       simp only at x0 x1 x2 x3 x4 x5 x6 x7
       have y0:=(HBI.out.cell (p:=⟨ge,i*8,none⟩) hge).trans x0
       have y1:=(HBI.out.cell (p:=⟨ge,i*8+1,none⟩) hge).trans x1
       have y2:=(HBI.out.cell (p:=⟨ge,i*8+2,none⟩) hge).trans x2
       have y3:=(HBI.out.cell (p:=⟨ge,i*8+3,none⟩) hge).trans x3
       have y4:=(HBI.out.cell (p:=⟨ge,i*8+4,none⟩) hge).trans x4
       have y5:=(HBI.out.cell (p:=⟨ge,i*8+5,none⟩) hge).trans x5
       have y6:=(HBI.out.cell (p:=⟨ge,i*8+6,none⟩) hge).trans x6
       have y7:=(HBI.out.cell (p:=⟨ge,i*8+7,none⟩) hge).trans x7
       have HXI:=Lib.hid (show l[k]'hkl=a∧upTo l k (i+1)=upTo l k i++[(fn+i,⟨zt,zi,zp,zs,zh,za,zd,zn⟩)]∧(upTo l k i).length<(numbered l).length from by
        have e1:l[k]'hkl=a:=HA.out.symm
        have hi':i<(l[k]'hkl).spans.length:=by rw [e1];exact hia
        refine ⟨e1,?_,upTo_len l k i hkl hi'⟩
        rw [upTo_succ l k i hkl hi',HFN.out]
        congr 3
        · rw [e1]
        · rw [hxi];congr 1;rw [e1])
       obtain ⟨qx,hqx⟩:∃ qx,qx=wr.heap.size:=⟨_,rfl⟩
       obtain ⟨wx,hwx⟩:∃ wx,wx=wr.alloc (.cells #[.int .i64 zt,.int .i64 zi,.int .i64 zp,.string zs,.string zh,.int .i64 za,.int .i64 zd,.string zn] 47 (0,0)):=⟨_,rfl⟩
       have hbx:Below wr.heap.size wr wx:=by rw [hwx];exact (Below.refl _ _).alloc (Nat.le_refl _) _
       have hjx:J (upTo l k i) wx:=by rw [hwx];exact HJ.out _ _ _ none HJI.out (World.grownBy_alloc wr _ none) (fun r e => by cases e)
       have hkx:Blk wx q 132 #[.int .i64 fn,.slice (some ⟨ge,0,none⟩) sn sc,.slice ex sn ec]:=HKI.out.below hbx
       obtain ⟨fnY,tmps,assign,body,hy,hR⟩:=HY.out (upTo l k i) (fn+i,⟨zt,zi,zp,zs,zh,za,zd,zn⟩) wx hjx HXI.out.2.2
       unfold spV at hy
       dsimp only at hy
       obtain ⟨tot,htot⟩:∃ tot,tot=fn+i:=⟨_,rfl⟩
       rw [← htot,hwx] at hy
       rw [hwx] at hR
       have hti:(fn:Int)+(i:Int)=(tot:Int):=by omega
       have htw:IntKind.i64.wrap (tot:Int)=tot:=by rw [IntKind.wrap_i64];omega
       have r0:=hkx.cell 0
       simp only [List.getElem?_toArray,List.getElem?_cons_zero] at r0
       rw [hwx] at r0
       have HTOT:=Lib.hid htot
       have HR:=Lib.hid hR
       have HBX:=Lib.hid (HBI.out.trans (hbx.mono HBI.out.size))
       have HKX:=Lib.hid hkx
       have HWX:=Lib.hid (Nat.le_trans HWI.out hbx.size)
       have hil2:(i:Int)<sn:=by omega
       have hi0:(0:Int)≤i:=by omega
       clear x0 x1 x2 x3 x4 x5 x6 x7 hxi hia hbx hjx hkx hR htot
       gi_wp2_with fail
       refine HR.out.mono ?_
       rintro e W3 (⟨rfl,hJ3,hk3⟩ | ⟨rfl,hJx3⟩)
       · rw [← hwx] at hk3
         have HB3:=Lib.hid (HBX.out.trans hk3.1)
         have HK3:=Lib.hid (hk3.2 _ _ HKX.out)
         have HW3:=Lib.hid (Nat.le_trans HWX.out hk3.1.size)
         have HJ3:=Lib.hid hJ3
         clear hJ3 hk3 hy r0 q0 q1 q2 hwx
         gi_wp2_with fail
         go_roundw
         case rel => exact ⟨i+1,by go_num,by omega,(by rw [HXI.out.2.1];exact HJ3.out),HB3.out,HK3.out,HW3.out⟩
         case measure => simp [intOf];omega
       · have HX3:=Lib.hid hJx3
         clear hJx3 hy r0 q0 q1 q2 hwx
         gi_wp2_with fail
         refine bodyPost_ret (results_none rfl _ _ _) rfl ?_
         exact ⟨⟨_,rfl⟩,.inr ⟨_,(by rw [← HXI.out.2.1];exact upTo_prefix l k (i+1) hkl),HX3.out⟩⟩
     · obtain rfl:i=sn:=by omega
       have hge2:¬ (i:Int)<i:=by omega
       clear q0 q1 q2
       gi_wp2_with fail
       go_roundw
       case rel => exact ⟨k+1,by go_num,by omega,by
        have e:=upTo_end l k hkl
        rw [show (l[k]'hkl).spans.length=i by rw [HSN.out,HA.out]] at e
        rw [← e]
        exact HJI.out,HBI.out,HWI.out⟩
       case measure => simp [intOf];omega
  · obtain rfl:k=m:=by omega
    have hge:¬ (k:Int)<k:=by omega
    gi_wp2_with fail
    go_end0
    refine ⟨⟨_,rfl⟩,.inl ?_⟩
    have:=HJK.out
    rw [upTo_zero,List.take_of_length_le (by rw [← Hm.out];exact Nat.le_refl _)] at this
    exact this
end
end Go.Proofs.YtdacanghbepjpaaGreatDoor
namespace Go.Proofs.YtdacanghbepjpaaGreatDoor
set_option linter.unusedSimpArgs false
set_option linter.unusedVariables false
set_option maxRecDepth 100000
open Go.RowKit Go.Maps
open Dsk
attribute [local go_sem] Oper.semAt_some
def OnlyN (Q:Exit→Act→World→Prop):Exit→Act→World→Prop
 | .normal,a,w => Q .normal a w
 | _,_,_ => False
theorem wp_onlyN {P:Program} {c:Code} {Q:Exit→Act→World→Prop} {a:Act} {w:World} (h:c.wp P (OnlyN Q) a w):c.wp P Q a w :=
 wp_mono h fun e a w hq => by
  cases e with
  | normal => exact hq
  | _ => exact hq.elim
section
variable {w0 w w':World} {X H S:Nat→Prop} {v lv:Value} {d d':Dk} {j B:Nat} {h:Hl} {vs:List SegV} {l:List Sg}
set_option maxHeartbeats 2000000 in
theorem hrecords_any (w:World):Calls Tryz.prog 94 #[.pointer (some ⟨j,0,none⟩)] w fun e w' => e=.returned (.func (.func 151) #[] #[.pointer (some ⟨w.heap.size,0,none⟩)])∧w.alloc (.cells #[.pointer (some ⟨j,0,none⟩)] 33 (0,0))=w':=by
 go_enter Tryz.func94,Tryz.ntmps94
 go_wp2_with fail
 go_ret
 exact ⟨rfl,rfl⟩
def ReadPost (d:Dk) (h:Hl) (f m:Int) (w:World) (e:Ending) (w':World):Prop :=
 ∃ u,e=.returned (.tuple #[u,.int .i64 (readP d h f m).2.1,.int .i64 (readP d h f m).2.2])∧OwnSp w' w.heap.size u (readP d h f m).1∧Below w.heap.size w w'
theorem blk_putObj' {w:World} {b l:Nat} {t:TypeId} {u:Value} (h:Boxed w b t u) (o:Obj) (hne:b≠l):(w.putObj l o).cell? ⟨b,0,none⟩=some u:=by
 have:Boxed (w.putObj l o) b t u:=by
  unfold Boxed at *
  rw [World.putObj_heap_other hne];exact h
 exact this.cell
theorem three_boxes (w:World) (f m:Int) (w1:World) (hw1:w1=((w.alloc (.cells #[.int .i64 f] 3 (0,0))).alloc (.cells #[.int .i64 m] 3 (0,0))).alloc (.cells #[.slice none 0 0] 61 (0,0))) :
  Blk w1 w.heap.size 3 #[.int .i64 f]∧Blk w1 (w.heap.size+1) 3 #[.int .i64 m]∧Blk w1 (w.heap.size+1+1) 61 #[.slice none 0 0]∧Below w.heap.size w w1∧w1.heap.size=w.heap.size+3:=by
 subst hw1
 obtain ⟨wa,hwa⟩:∃ wa,wa=w.alloc (.cells #[.int .i64 f] 3 (0,0)):=⟨_,rfl⟩
 obtain ⟨wb,hwb⟩:∃ wb,wb=wa.alloc (.cells #[.int .i64 m] 3 (0,0)):=⟨_,rfl⟩
 obtain ⟨wc,hwc⟩:∃ wc,wc=wb.alloc (.cells #[.slice none 0 0] 61 (0,0)):=⟨_,rfl⟩
 rw [← hwa,← hwb,← hwc]
 have ha:Below w.heap.size w wa:=by rw [hwa];exact (Below.refl _ _).alloc (Nat.le_refl _) _
 have hb:Below wa.heap.size wa wb:=by rw [hwb];exact (Below.refl _ _).alloc (Nat.le_refl _) _
 have hc:Below wb.heap.size wb wc:=by rw [hwc];exact (Below.refl _ _).alloc (Nat.le_refl _) _
 have haz:wa.heap.size=w.heap.size+1:=by rw [hwa];exact Array.size_push _
 have hbz:wb.heap.size=wa.heap.size+1:=by rw [hwb];exact Array.size_push _
 have hcz:wc.heap.size=wb.heap.size+1:=by rw [hwc];exact Array.size_push _
 have ka:Blk wa w.heap.size 3 #[.int .i64 f]:=by rw [hwa];exact Blk.alloc_new w _ _
 have kb:Blk wb wa.heap.size 3 #[.int .i64 m]:=by rw [hwb];exact Blk.alloc_new wa _ _
 have kc:Blk wc wb.heap.size 61 #[.slice none 0 0]:=by rw [hwc];exact Blk.alloc_new wb _ _
 rw [hbz,haz] at kc
 rw [haz] at kb
 exact ⟨(ka.below hb).below hc,kb.below hc,kc,(ha.trans (hb.mono ha.size)).trans (hc.mono (by omega)),by omega⟩
set_option maxHeartbeats 4000000 in
theorem hread_off (h0:HS w0 X H w v d j h) (hrun:¬ h.runs d) (f m:Int):Calls Tryz.prog 29 #[.pointer (some ⟨j,0,none⟩),.int .i64 f,.int .i64 m] w (ReadPost d h f m w):=by
 have hq:readP d h f m=([],0,51):=by unfold readP;rw [if_pos hrun]
 obtain ⟨w1,hw1⟩:∃ w1,w1=((w.alloc (.cells #[.int .i64 f] 3 (0,0))).alloc (.cells #[.int .i64 m] 3 (0,0))).alloc (.cells #[.slice none 0 0] 61 (0,0)):=⟨_,rfl⟩
 obtain ⟨k1,k2,k3,kb,kz⟩:=three_boxes w f m w1 hw1
 have HR:=Lib.hid (hruns_any (h0.below kb))
 rw [if_neg hrun] at HR
 have HP:=Lib.hid (fun (W:World) (hW:Below w.heap.size w W) => show ReadPost d h f m w (.returned (.tuple #[.slice none 0 0,.int .i64 0,.int .i64 51])) W from by
  unfold ReadPost
  rw [hq]
  exact ⟨_,rfl,OwnRow.nil _ _,hW⟩)
 have HK3:=Lib.hid k3
 have HB:=Lib.hid kb
 have HW:=Lib.hid hw1
 have HZ:=Lib.hid kz
 clear h0 hrun hq k1 k2 k3 kb kz hw1
 go_enter Tryz.func29,Tryz.ntmps29
 go_wp2_with fail
 rw [← HW.out]
 refine HR.out.mono ?_
 rintro e w2 ⟨rfl,hb2⟩
 have hk:=HK3.out.below hb2
 have c0:=hk.cell 0
 have c1:=hk.free 0
 simp at c0
 have hk2:=hk.set 0 (.slice none 0 0)
 have HB2:=Lib.hid ((HB.out.trans (hb2.mono HB.out.size)).setCell (p:=⟨w.heap.size+1+1,0,none⟩) (by simp;omega) (.slice none 0 0))
 have HK2:=Lib.hid hk2
 clear hb2 hk hk2
 go_wp2_with fail
 have d0:=HK2.out.cell 0
 simp at d0
 refine bodyPost_ret (v:=.tuple #[.slice none 0 0,.int .i64 0,.int .i64 51]) (by simp [results,Tryz.results29,go_sem,d0]) rfl ?_
 exact HP.out _ HB2.out
set_option maxHeartbeats 4000000 in
theorem hread_few (h0:HS w0 X H w v d j h) (he:LEnv w) (hbd:SgsBnd h.l) (hrun:h.runs d) (f m:Int) (hm:m<0) (hsu:sureL d h.l 0≤1000000000) :
  Calls Tryz.prog 29 #[.pointer (some ⟨j,0,none⟩),.int .i64 f,.int .i64 m] w (ReadPost d h f m w):=by
 obtain ⟨su,hsue⟩:∃ su,su=sureL d h.l 0:=⟨_,rfl⟩
 have hq:readP d h f m=([],0,2):=by unfold readP;rw [if_neg (fun e => e hrun),if_pos hm]
 rw [← hsue] at hsu
 obtain ⟨w1,hw1⟩:∃ w1,w1=((w.alloc (.cells #[.int .i64 f] 3 (0,0))).alloc (.cells #[.int .i64 m] 3 (0,0))).alloc (.cells #[.slice none 0 0] 61 (0,0)):=⟨_,rfl⟩
 obtain ⟨k1,k2,k3,kb,kz⟩:=three_boxes w f m w1 hw1
 have HR:=Lib.hid (hruns_any (h0.below kb))
 rw [if_pos hrun] at HR
 have HSU:=Lib.hid (fun (W:World) (hW:Below w.heap.size w W) => hsure_any (h0.below hW) (he.below hW) hbd)
 rw [if_pos hrun,← hsue] at HSU
 have HP:=Lib.hid (fun (W:World) (hW:Below w.heap.size w W) => show ReadPost d h f m w (.returned (.tuple #[.slice none 0 0,.int .i64 0,.int .i64 2])) W from by
  unfold ReadPost
  rw [hq]
  exact ⟨_,rfl,OwnRow.nil _ _,hW⟩)
 have HK2:=Lib.hid k2
 have HK3:=Lib.hid k3
 have HB:=Lib.hid kb
 have HW:=Lib.hid hw1
 have HZ:=Lib.hid kz
 clear h0 hrun hq k1 k2 k3 kb kz hw1 hbd hsue he
 go_enter Tryz.func29,Tryz.ntmps29
 go_wp2_with fail
 rw [← HW.out]
 refine HR.out.mono ?_
 rintro e w2 ⟨rfl,hb2⟩
 have HB2:=Lib.hid (HB.out.trans (hb2.mono HB.out.size))
 have HK2b:=Lib.hid (HK2.out.below hb2)
 have HK3b:=Lib.hid (HK3.out.below hb2)
 clear hb2 HK2 HK3
 go_wp2_with fail
 refine (HSU.out w2 HB2.out).mono ?_
 rintro e w3 ⟨rfl,hb3⟩
 have hk2:=HK2b.out.below hb3
 have hk3:=HK3b.out.below hb3
 have HB3:=Lib.hid (HB2.out.trans (hb3.mono HB2.out.size))
 clear hb3 HK2b HK3b
 have hb4:Below w3.heap.size w3 (w3.alloc (.cells #[.int .i64 su] 3 (0,0))):=(Below.refl _ _).alloc (Nat.le_refl _) _
 have hk24:=hk2.below hb4
 have hk34:=hk3.below hb4
 have m2:=hk24.cell 0
 have m3:=hk34.cell 0
 have n3:=hk34.free 0
 simp only [List.getElem?_toArray,List.getElem?_cons_zero] at m2 m3
 have HK4:=Lib.hid (hk34.set 0 (.slice none 0 0))
 have HB4:=Lib.hid ((HB3.out.trans (hb4.mono HB3.out.size)).setCell (p:=⟨w.heap.size+1+1,0,none⟩) (by simp;omega) (.slice none 0 0))
 clear hb4 hk24 hk34 hk2 hk3
 go_wp2_with fail
 have d0:=HK4.out.cell 0
 simp only [List.getElem?_toArray,List.setIfInBounds_toArray,List.set_cons_zero,List.getElem?_cons_zero] at d0
 refine bodyPost_ret (v:=.tuple #[.slice none 0 0,.int .i64 0,.int .i64 2]) (by simp [results,Tryz.results29,go_sem,d0]) rfl ?_
 exact HP.out _ HB4.out
set_option maxHeartbeats 4000000 in
theorem hread_far (h0:HS w0 X H w v d j h) (he:LEnv w) (hbd:SgsBnd h.l) (hrun:h.runs d) (f m:Int) (hm:0≤m) (hf1:f<firstOf h.l∨(sureL d h.l 0:Int)<f) (hsu:sureL d h.l 0≤1000000000) :
  Calls Tryz.prog 29 #[.pointer (some ⟨j,0,none⟩),.int .i64 f,.int .i64 m] w (ReadPost d h f m w):=by
 obtain ⟨fi,hfi⟩:∃ fi,fi=firstOf h.l:=⟨_,rfl⟩
 obtain ⟨su,hsue⟩:∃ su,su=sureL d h.l 0:=⟨_,rfl⟩
 have hq:readP d h f m=([],0,4):=by
  unfold readP;rw [if_neg (fun e => e hrun),if_neg (by omega),if_pos hf1]
 rw [← hfi,← hsue] at hf1
 rw [← hsue] at hsu
 have HP:=Lib.hid (fun (W:World) (hW:Below w.heap.size w W) => show ReadPost d h f m w (.returned (.tuple #[.slice none 0 0,.int .i64 0,.int .i64 4])) W from by
  unfold ReadPost
  rw [hq]
  exact ⟨_,rfl,OwnRow.nil _ _,hW⟩)
 obtain ⟨w1,hw1⟩:∃ w1,w1=((w.alloc (.cells #[.int .i64 f] 3 (0,0))).alloc (.cells #[.int .i64 m] 3 (0,0))).alloc (.cells #[.slice none 0 0] 61 (0,0)):=⟨_,rfl⟩
 obtain ⟨k1,k2,k3,kb,kz⟩:=three_boxes w f m w1 hw1
 have HR:=Lib.hid (hruns_any (h0.below kb))
 rw [if_pos hrun] at HR
 have HSU:=Lib.hid (fun (W:World) (hW:Below w.heap.size w W) => hsure_any (h0.below hW) (he.below hW) hbd)
 rw [if_pos hrun,← hsue] at HSU
 have HFI:=Lib.hid (fun (W:World) (hW:Below w.heap.size w W) => hfirst_any (h0.below hW) hbd.many)
 rw [if_pos hrun,← hfi] at HFI
 have HK1:=Lib.hid k1
 have HK2:=Lib.hid k2
 have HK3:=Lib.hid k3
 have HB:=Lib.hid kb
 have HW:=Lib.hid hw1
 have HZ:=Lib.hid kz
 clear h0 hrun hq k1 k2 k3 kb kz hw1 hbd hfi hsue he
 go_enter Tryz.func29,Tryz.ntmps29
 go_wp2_with fail
 rw [← HW.out]
 refine HR.out.mono ?_
 rintro e w2 ⟨rfl,hb2⟩
 have HB2:=Lib.hid (HB.out.trans (hb2.mono HB.out.size))
 have HK1b:=Lib.hid (HK1.out.below hb2)
 have HK2b:=Lib.hid (HK2.out.below hb2)
 have HK3b:=Lib.hid (HK3.out.below hb2)
 have HZ2:=Lib.hid (show w.heap.size+3≤w2.heap.size from by have:=hb2.size;have:=HZ.out;omega)
 clear hb2 HK1 HK2 HK3
 go_wp2_with fail
 refine (HSU.out w2 HB2.out).mono ?_
 rintro e w3 ⟨rfl,hb3⟩
 have HK1:=Lib.hid (HK1b.out.below hb3)
 have HK2:=Lib.hid (HK2b.out.below hb3)
 have HK3:=Lib.hid (HK3b.out.below hb3)
 have HB3:=Lib.hid (HB2.out.trans (hb3.mono HB2.out.size))
 have HZ3:=Lib.hid (Nat.le_trans HZ2.out hb3.size)
 clear hb3 HK1b HK2b HK3b
 obtain ⟨q,hq⟩:∃ q,q=w3.heap.size:=⟨_,rfl⟩
 obtain ⟨w4,hw4⟩:∃ w4,w4=w3.alloc (.cells #[.int .i64 su] 3 (0,0)):=⟨_,rfl⟩
 have hb4:Below w3.heap.size w3 w4:=by rw [hw4];exact (Below.refl _ _).alloc (Nat.le_refl _) _
 have hk4:Blk w4 q 3 #[.int .i64 su]:=by rw [hw4,hq];exact Blk.alloc_new w3 _ _
 have m2:=(HK2.out.below hb4).cell 0
 simp only [List.getElem?_toArray,List.getElem?_cons_zero] at m2
 rw [hw4] at m2
 have hm0:¬ m<0:=by omega
 have HK1c:=Lib.hid (HK1.out.below hb4)
 have HK2c:=Lib.hid (HK2.out.below hb4)
 have HK3c:=Lib.hid (HK3.out.below hb4)
 have HK4c:=Lib.hid hk4
 have HB4:=Lib.hid (HB3.out.trans (hb4.mono HB3.out.size))
 have HZ4:=Lib.hid (show w.heap.size+3≤q∧q<w4.heap.size from ⟨by rw [hq];exact HZ3.out,hk4.lt⟩)
 have HW4:=Lib.hid hw4
 have HQ4:=Lib.hid hq
 clear hb4 hk4 hw4 hq HK1 HK2 HK3
 go_wp2_with fail
 rw [← HW4.out,← HQ4.out]
 clear m2
 have HTC:=Lib.hid (fun (W:World) (hW:Below w4.heap.size w4 W) => show W.cell? ⟨w.heap.size,0,none⟩=some (.int .i64 f)∧W.cell? ⟨q,0,none⟩=some (.int .i64 su) from ⟨(HK1c.out.below hW).cell 0,(HK4c.out.below hW).cell 0⟩)
 refine wp_region_two (T:=fun W => W.cell? ⟨w.heap.size,0,none⟩=some (.int .i64 f)∧W.cell? ⟨q,0,none⟩=some (.int .i64 su)) (S:=fun _ => True) (n:=99) (by kernel_rfl) ?_
 obtain ⟨y1,hy1⟩:∃ y1,y1=w4.drew:=⟨_,rfl⟩
 rw [← hy1]
 have hby:Below w4.heap.size w4 y1:=by rw [hy1];exact (Below.refl _ _).drew
 have HY1:=Lib.hid hby
 have hS:True:=trivial
 have hT:=HTC.out y1 HY1.out
 clear hy1 hby
 by_cases hlt1:f<(fi:Int)
 · skip
   refine tk 0 24 hT hS ?_
   refine tk 1 25 hT hS ?_
   try simp only [xq]
   refine two_one 2 rfl (by kernel_rfl) ?_
   intro K hK
   go_simp
   refine (HFI.out y1 (HB4.out.trans (HY1.out.mono HB4.out.size))).mono ?_
   rintro e y2 ⟨rfl,hbz⟩
   have HBy2:=Lib.hid ((HY1.out).trans (hbz.mono (HY1.out).size))
   have hT1:=HTC.out y2 HBy2.out
   refine hK.out _ _ hT1 (fun _ _ => hS) ?_
   clear hK K hT hbz
   have hT:=hT1
   clear hT1
   try simp only [xq]
   refine tk 3 27 hT hS ?_
   refine tk 4 28 hT hS ?_
   try simp only [xq]
   refine tkT 5 29 (v:=undef) rfl rfl (Or.inr ⟨by rfl,rfl⟩) hT hS ?_
   try simp only [xq]
   refine tkT 6 30 (v:=undef) rfl rfl (Or.inr ⟨by rfl,rfl⟩) hT hS ?_
   try simp only [xq]
   refine tkT 7 31 (v:=undef) rfl rfl (Or.inr ⟨by rfl,rfl⟩) hT hS ?_
   try simp only [xq]
   refine tk 8 32 hT hS ?_
   refine tk 9 23 hT hS ?_
   try simp only [xq]
   refine two_done (by kernel_rfl) ?_ _
   clear hT hS
   have HBY:=Lib.hid (HB4.out.trans (HBy2.out.mono HB4.out.size))
   have hk3:=HK3c.out.below HBy2.out
   have m3:=hk3.cell 0
   have n3:=hk3.free 0
   simp only [List.getElem?_toArray,List.getElem?_cons_zero] at m3
   have HK5:=Lib.hid (hk3.set 0 (.slice none 0 0))
   have HB5:=Lib.hid (HBY.out.setCell (p:=⟨w.heap.size+1+1,0,none⟩) (by simp;omega) (.slice none 0 0))
   clear hk3
   go_wp2_with fail
   have d0:=HK5.out.cell 0
   simp only [List.getElem?_toArray,List.setIfInBounds_toArray,List.set_cons_zero,List.getElem?_cons_zero] at d0
   refine bodyPost_ret (v:=.tuple #[.slice none 0 0,.int .i64 0,.int .i64 4]) (by simp [results,Tryz.results29,go_sem,d0]) rfl ?_
   exact HP.out _ HB5.out
 · have hlt2:(su:Int)<f:=by omega
   refine tk 0 24 hT hS ?_
   refine tk 1 25 hT hS ?_
   try simp only [xq]
   refine two_one 2 rfl (by kernel_rfl) ?_
   intro K hK
   go_simp
   refine (HFI.out y1 (HB4.out.trans (HY1.out.mono HB4.out.size))).mono ?_
   rintro e y2 ⟨rfl,hbz⟩
   have HBy2:=Lib.hid ((HY1.out).trans (hbz.mono (HY1.out).size))
   have hT1:=HTC.out y2 HBy2.out
   refine hK.out _ _ hT1 (fun _ _ => hS) ?_
   clear hK K hT hbz
   have hT:=hT1
   clear hT1
   try simp only [xq]
   refine tk 3 27 hT hS ?_
   refine tk 4 28 hT hS ?_
   try simp only [xq]
   refine tk 5 29 hT hS ?_
   refine tk 6 30 hT hS ?_
   try simp only [xq]
   refine tk 7 31 hT hS ?_
   refine tk 8 32 hT hS ?_
   try simp only [xq]
   refine tk 9 23 hT hS ?_
   try simp only [xq]
   refine two_done (by kernel_rfl) ?_ _
   clear hT hS
   have HBY:=Lib.hid (HB4.out.trans (HBy2.out.mono HB4.out.size))
   have hk3:=HK3c.out.below HBy2.out
   have m3:=hk3.cell 0
   have n3:=hk3.free 0
   simp only [List.getElem?_toArray,List.getElem?_cons_zero] at m3
   have HK5:=Lib.hid (hk3.set 0 (.slice none 0 0))
   have HB5:=Lib.hid (HBY.out.setCell (p:=⟨w.heap.size+1+1,0,none⟩) (by simp;omega) (.slice none 0 0))
   clear hk3
   go_wp2_with fail
   have d0:=HK5.out.cell 0
   simp only [List.getElem?_toArray,List.setIfInBounds_toArray,List.set_cons_zero,List.getElem?_cons_zero] at d0
   refine bodyPost_ret (v:=.tuple #[.slice none 0 0,.int .i64 0,.int .i64 4]) (by simp [results,Tryz.results29,go_sem,d0]) rfl ?_
   exact HP.out _ HB5.out
set_option maxHeartbeats 4000000 in
theorem hread_main (h0:HS w0 X H w v d j h) (he:LEnv w) (hbd:SgsBnd h.l) (hrun:h.runs d) (f m:Int) (hm:0≤m) (hf1:(firstOf h.l:Int)≤f) (hf2:f≤sureL d h.l 0) (hN:(numbered h.l).length≤1000000) (hsu:sureL d h.l 0≤1000000000) :
  Calls Tryz.prog 29 #[.pointer (some ⟨j,0,none⟩),.int .i64 f,.int .i64 m] w (ReadPost d h f m w):=by
 obtain ⟨fi,hfi⟩:∃ fi,fi=firstOf h.l:=⟨_,rfl⟩
 obtain ⟨su,hsue⟩:∃ su,su=sureL d h.l 0:=⟨_,rfl⟩
 have hq:readP d h f m=(rdL f su m (numbered h.l),f+(rdL f su m (numbered h.l)).length,0):=by
  unfold readP;rw [if_neg (fun e => e hrun),if_neg (by omega),if_neg (by omega),hsue]
 rw [← hfi] at hf1
 rw [← hsue] at hf2 hsu
 obtain ⟨w1,hw1⟩:∃ w1,w1=((w.alloc (.cells #[.int .i64 f] 3 (0,0))).alloc (.cells #[.int .i64 m] 3 (0,0))).alloc (.cells #[.slice none 0 0] 61 (0,0)):=⟨_,rfl⟩
 obtain ⟨k1,k2,k3,kb,kz⟩:=three_boxes w f m w1 hw1
 have HR:=Lib.hid (hruns_any (h0.below kb))
 rw [if_pos hrun] at HR
 have HSU:=Lib.hid (fun (W:World) (hW:Below w.heap.size w W) => hsure_any (h0.below hW) (he.below hW) hbd)
 rw [if_pos hrun,← hsue] at HSU
 have HFI:=Lib.hid (fun (W:World) (hW:Below w.heap.size w W) => hfirst_any (h0.below hW) hbd.many)
 rw [if_pos hrun,← hfi] at HFI
 obtain ⟨lv,vs,hblk,hrow,_⟩:=h0.mem
 obtain ⟨L,hL⟩:∃ L,L=numbered h.l:=⟨_,rfl⟩
 rw [← hL] at hN
 have HL:=Lib.hid hL
 have HBLK:=Lib.hid hblk
 have HROW:=Lib.hid hrow
 have HBD:=Lib.hid hbd
 have HQ:=Lib.hid hq
 have HK1:=Lib.hid k1
 have HK2:=Lib.hid k2
 have HK3:=Lib.hid k3
 have HB:=Lib.hid kb
 have HW:=Lib.hid hw1
 have HZ:=Lib.hid kz
 clear h0 hrun hq k1 k2 k3 kb kz hw1 hblk hrow hbd hfi hsue hL he
 refine (callsIn_wide (n:=10)).1 ?_
 refine callsIn_of_wp_marks Tryz.func29 rfl trivial ?_ rfl
 refine wpIn_wide.2 ?_
 simp only [Tryz.ntmps29,List.size_toArray,List.length_cons,List.length_nil,Nat.reduceAdd,Nat.reduceSub,Array.replicate_succ,Array.replicate_zero,List.push_toArray,List.append_toArray,List.nil_append,List.cons_append]
 go_wp2_with fail
 rw [← HW.out]
 refine HR.out.mono ?_
 rintro e w2 ⟨rfl,hb2⟩
 have HB2:=Lib.hid (HB.out.trans (hb2.mono HB.out.size))
 have HK1b:=Lib.hid (HK1.out.below hb2)
 have HK2b:=Lib.hid (HK2.out.below hb2)
 have HK3b:=Lib.hid (HK3.out.below hb2)
 have HZ2:=Lib.hid (show w.heap.size+3≤w2.heap.size from by have:=hb2.size;have:=HZ.out;omega)
 clear hb2 HK1 HK2 HK3
 go_wp2_with fail
 refine (HSU.out w2 HB2.out).mono ?_
 rintro e w3 ⟨rfl,hb3⟩
 have HK1:=Lib.hid (HK1b.out.below hb3)
 have HK2:=Lib.hid (HK2b.out.below hb3)
 have HK3:=Lib.hid (HK3b.out.below hb3)
 have HB3:=Lib.hid (HB2.out.trans (hb3.mono HB2.out.size))
 have HZ3:=Lib.hid (Nat.le_trans HZ2.out hb3.size)
 clear hb3 HK1b HK2b HK3b
 obtain ⟨q,hq⟩:∃ q,q=w3.heap.size:=⟨_,rfl⟩
 obtain ⟨w4,hw4⟩:∃ w4,w4=w3.alloc (.cells #[.int .i64 su] 3 (0,0)):=⟨_,rfl⟩
 have hb4:Below w3.heap.size w3 w4:=by rw [hw4];exact (Below.refl _ _).alloc (Nat.le_refl _) _
 have hk4:Blk w4 q 3 #[.int .i64 su]:=by rw [hw4,hq];exact Blk.alloc_new w3 _ _
 have m2:=(HK2.out.below hb4).cell 0
 simp only [List.getElem?_toArray,List.getElem?_cons_zero] at m2
 rw [hw4] at m2
 have hm0:¬ m<0:=by omega
 have HK1c:=Lib.hid (HK1.out.below hb4)
 have HK2c:=Lib.hid (HK2.out.below hb4)
 have HK3c:=Lib.hid (HK3.out.below hb4)
 have HK4c:=Lib.hid hk4
 have HB4:=Lib.hid (HB3.out.trans (hb4.mono HB3.out.size))
 have HZ4:=Lib.hid (show w.heap.size+3≤q∧q<w4.heap.size from ⟨by rw [hq];exact HZ3.out,hk4.lt⟩)
 have HW4:=Lib.hid hw4
 have HQ4:=Lib.hid hq
 clear hb4 hk4 hw4 hq HK1 HK2 HK3
 go_wp2_with fail
 rw [← HW4.out,← HQ4.out]
 clear m2
 have HTC:=Lib.hid (fun (W:World) (hW:Below w4.heap.size w4 W) => show W.cell? ⟨w.heap.size,0,none⟩=some (.int .i64 f)∧W.cell? ⟨q,0,none⟩=some (.int .i64 su) from ⟨(HK1c.out.below hW).cell 0,(HK4c.out.below hW).cell 0⟩)
 refine wp_onlyN ?_
 refine wp_region_two (T:=fun W => W.cell? ⟨w.heap.size,0,none⟩=some (.int .i64 f)∧W.cell? ⟨q,0,none⟩=some (.int .i64 su)) (S:=fun _ => True) (n:=99) (by kernel_rfl) ?_
 obtain ⟨y1,hy1⟩:∃ y1,y1=w4.drew:=⟨_,rfl⟩
 rw [← hy1]
 have hby:Below w4.heap.size w4 y1:=by rw [hy1];exact (Below.refl _ _).drew
 have HY1:=Lib.hid hby
 have hS:True:=trivial
 have hT:=HTC.out y1 HY1.out
 clear hy1 hby
 have hlt1:¬ f<(fi:Int):=by omega
 have hlt2:¬ (su:Int)<f:=by omega
 refine tk 0 24 hT hS ?_
 refine tk 1 25 hT hS ?_
 try simp only [xq]
 refine two_one 2 rfl (by kernel_rfl) ?_
 intro K hK
 go_simp
 refine (HFI.out y1 (HB4.out.trans (HY1.out.mono HB4.out.size))).mono ?_
 rintro e y2 ⟨rfl,hbz⟩
 have HBy2:=Lib.hid ((HY1.out).trans (hbz.mono (HY1.out).size))
 have hT1:=HTC.out y2 HBy2.out
 refine hK.out _ _ hT1 (fun _ _ => hS) ?_
 clear hK K hT hbz
 have hT:=hT1
 clear hT1
 try simp only [xq]
 refine tk 3 27 hT hS ?_
 refine tk 4 28 hT hS ?_
 try simp only [xq]
 refine tk 5 29 hT hS ?_
 refine tk 6 30 hT hS ?_
 try simp only [xq]
 refine tk 7 31 hT hS ?_
 refine tk 8 32 hT hS ?_
 try simp only [xq]
 refine tk 9 23 hT hS ?_
 try simp only [xq]
 refine two_done (by kernel_rfl) ?_ _
 clear hT hS
 simp only [OnlyN]
 have HBY:=Lib.hid (HB4.out.trans (HBy2.out.mono HB4.out.size))
 have HK1:=Lib.hid (HK1c.out.below HBy2.out)
 have HK2:=Lib.hid (HK2c.out.below HBy2.out)
 have HK3:=Lib.hid (HK3c.out.below HBy2.out)
 have HK4:=Lib.hid (HK4c.out.below HBy2.out)
 clear HK1c HK2c HK3c HK4c
 go_wp2_with fail
 obtain ⟨bn,hbn⟩:∃ bn,bn=y2.heap.size:=⟨_,rfl⟩
 refine (hrecords_any _).mono ?_
 rintro e w5 ⟨rfl,hw5⟩
 have hb5:Below y2.heap.size y2 w5:=by rw [← hw5];exact (Below.refl _ _).alloc (Nat.le_refl _) _
 have hk5:Blk w5 bn 33 #[.pointer (some ⟨j,0,none⟩)]:=by rw [← hw5,hbn];exact Blk.alloc_new y2 _ _
 have J1:Boxed w5 w.heap.size 3 (.int .i64 f):=HK1.out.below hb5
 have J2:Boxed w5 (w.heap.size+1) 3 (.int .i64 m):=HK2.out.below hb5
 have J3:Boxed w5 (w.heap.size+1+1) 61 (.slice none 0 0):=HK3.out.below hb5
 have J4:Boxed w5 q 3 (.int .i64 su):=HK4.out.below hb5
 have hB5:=HBY.out.trans (hb5.mono HBY.out.size)
 have hz5:=hB5.size
 have hz6:w.heap.size+3≤w5.heap.size:=by have:=J3.lt;omega
 have hbq:w.heap.size≤q:=by have:=HZ4.out.1;omega
 rw [← hbn]
 clear hbn hw5 hb5 HK1 HK2 HK3 HK4
 go_wp2_with fail
 refine (wpIn_wide (n:=10)).1 ?_
 obtain ⟨i0,hi0,hz0,hz1,hz2⟩:=info_parts Tryz.info_span
 refine wpIn_rangeFunc_ownH (F:=Fence.wide) (α:=Nat×Sp.Span) rfl (by omega) (gf:=151) (lb:=#[.pointer (some ⟨bn,0,none⟩)]) rfl trivial (enters_of Tryz.func151 (by kernel_rfl) rfl)
  (encs:=fun p => #[.int .i64 p.1,spV p.2]) (Kp:=KpS w.heap.size) (S:=fun ys => ys=numbered h.l) (Sp:=fun pre => pre <+: numbered h.l) (N:=(numbered h.l).length) (w0:=w5)
  (fun y K Kx W hW hK hKx hY h0 => records1_in 0 y bn K Kx W HROW.out HBLK.out HBD.out (hB5.trans (hW.mono hz5)) hK hY ((hW.cell (p:=⟨bn,0,none⟩) hk5.lt).trans (hk5.cell 0)) h0)
  (fun a b => KpS.trans a b) (fun W l o o' a b c e => KpS.put hz5 W l o o' a b c e) (Below.refl _ _) (fun _ => rfl)
  (fun pre W => ((∃ u,Boxed W (w.heap.size+1+1) 61 u∧W.ownsRow w.heap.size 47 8 u (rdL f su m pre).length ((rdL f su m pre).flatMap spRow)∧True)∧Boxed W w.heap.size 3 (.int .i64 f)∧Boxed W (w.heap.size+1) 3 (.int .i64 m)∧Boxed W q 3 (.int .i64 su))∧Below w.heap.size w W)
  (fun _ _ _ => False)
  (OwnFrom.and (OwnFrom.and (Own.from (holdsRow_own w.heap.size (w.heap.size+1+1) 61 47 8 (fun pre => (rdL f su m pre).length) (fun pre => (rdL f su m pre).flatMap spRow) (fun _ _ => True)) _) (OwnFrom.and (Own.from (boxed_own _ _ (fun _ => _)) _) (OwnFrom.and (Own.from (boxed_own _ _ (fun _ => _)) _) (Own.from (boxed_own _ _ (fun _ => _)) _)))) (ownFrom_below (Nat.le_refl _) hz5))
  (fun _ _ _ _ _ hs _ _ => hs)
  ⟨⟨⟨_,J3,World.ownsRow_nil _ _ _ _,trivial⟩,J1,J2,J4⟩,hB5⟩
  (fun p a' W => ∃ Bx,Blk W Bx 47 (spRow p.2).toArray∧a'={ tmps:=#[.pointer (some ⟨j,0,none⟩),.int .i64 f,.int .i64 m,undef,.pointer (some ⟨w.heap.size,0,none⟩),.pointer (some ⟨w.heap.size+1,0,none⟩),.pointer (some ⟨w.heap.size+1+1,0,none⟩),.int .i64 0,.int .i64 0,.int .i64 0,.pointer (some ⟨q,0,none⟩),.int .i64 p.1,.pointer (some ⟨Bx,0,none⟩),.pointer (some ⟨j,0,none⟩),.int .i64 0,.int .i64 0,.bool false,undef,.pointer (some ⟨j,0,none⟩),.int .i64 su,.bool (decide (m<0)),.int .i64 m,.bool (decide (m<0)),.bool false,.int .i64 f,.pointer (some ⟨j,0,none⟩),.int .i64 fi,.bool false,.bool false,.int .i64 f,.int .i64 su,.bool false,.bool false,.pointer (some ⟨j,0,none⟩),.func (.func 151) #[] #[.pointer (some ⟨bn,0,none⟩)],.int .i64 p.1,spV p.2,undef,undef,undef,undef,undef,undef,undef,undef,undef,undef,undef,undef,undef,undef,undef,undef,undef,undef,undef,undef,undef,undef,undef],defers:=[] })
  (fun p a' _ A C row hs hg hr => by
   obtain ⟨Bx,h2,h3⟩:=hs
   refine ⟨Bx,(hg.block Bx h2.lt fun e => ?_).trans h2,h3⟩
   obtain ⟨_,o,ho,hc⟩:=hr Bx e.symm
   unfold Blk at h2
   rw [h2] at ho
   cases ho
   cases hc)
  ?assign ?body ?done ?stop
 case assign =>
  rintro y pre ⟨pn,zt,zi,zp,zs,zh,za,zd,zn⟩ W K ⟨⟨⟨u,bS,hrow,_⟩,b4,b5,bq⟩,hB⟩ hK
  unfold spV
  gi_wp2_with fail
  have hal:Below W.heap.size W (W.alloc (.cells #[.int .i64 zt,.int .i64 zi,.int .i64 zp,.string zs,.string zh,.int .i64 za,.int .i64 zd,.string zn] 47 (0,0))):=(Below.refl _ _).alloc (Nat.le_refl _) _
  exact hK _ _ ((KeepsOthers.alloc _ _).from _) ⟨(Below.refl _ W).alloc hB.size _,fun k cs e => e.below hal⟩ ⟨⟨⟨u,bS.alloc _,hrow.alloc _,trivial⟩,b4.alloc _,b5.alloc _,bq.alloc _⟩,hB.alloc hB.size _⟩ ⟨W.heap.size,Blk.alloc_new W _ _,rfl⟩
 case body =>
  rintro y pre ⟨pn,zt,zi,zp,zs,zh,za,zd,zn⟩ a' W hl2 ⟨r,hr⟩ ⟨⟨⟨u,bS,hrow,_⟩,b4,b5,bq⟩,hB⟩ ⟨Bx,hbx,rfl⟩ hlt
  have c4:=b4.cell
  have c5:=b5.cell
  have cq:=bq.cell
  have c6:=bS.cell
  have hown:OwnSp W w.heap.size u (rdL f su m pre):=hrow
  obtain ⟨ux,uc,hu⟩:=hown.shape
  have hul:(rdL f su m pre).length≤1000000:=by have e1:=rdL_len f su m pre;have e2:=hlt;rw [← HL.out] at e2;omega
  obtain ⟨acc,hacc⟩:∃ acc,acc=rdL f su m pre:=⟨_,rfl⟩
  rw [← hacc] at hu hown hrow hul
  obtain ⟨an,han⟩:∃ an,an=acc.length:=⟨_,rfl⟩
  rw [← han] at hu hul
  subst hu
  have HIN:=Lib.hid (show rdL f su m (pre++[(pn,⟨zt,zi,zp,zs,zh,za,zd,zn⟩)])=if f≤pn∧(pn:Int)<su∧(an:Int)<m then acc++[⟨zt,zi,zp,zs,zh,za,zd,zn⟩] else acc from by
   rw [rdL_snoc,← hacc,han];rfl)
  have Hrow:=Lib.hid hrow
  have HAN:=Lib.hid han
  have x0:=hbx.cell 0
  have x1:=hbx.cell 1
  have x2:=hbx.cell 2
  have x3:=hbx.cell 3
  have x4:=hbx.cell 4
  have x5:=hbx.cell 5
  have x6:=hbx.cell 6
  have x7:=hbx.cell 7
  simp [spRow] at x0 x1 x2 x3 x4 x5 x6 x7
  clear hacc hrow han hown
  unfold spV
  by_cases g1:f≤pn
  · by_cases g2:(pn:Int)<su
    · by_cases g3:(an:Int)<m
      · have HE:=Lib.hid HIN.out
        rw [if_pos ⟨g1,g2,g3⟩] at HE
        have hrow2:W.ownsRow w.heap.size 47 8 (.slice ux an uc) an (acc.flatMap spRow):=by have:=Hrow.out;rw [← HAN.out] at this;exact this
        have hcells:∀ (jj:Nat) (vv:Value),([.int .i64 zt,.int .i64 zi,.int .i64 zp,.string zs,.string zh,.int .i64 za,.int .i64 zd,.string zn]:List Value)[jj]?=some vv→(W.alloc (.cells #[.int .i64 zt,.int .i64 zi,.int .i64 zp,.string zs,.string zh,.int .i64 za,.int .i64 zd,.string zn] 47 (0,0))).cell? ((⟨W.heap.size,0,none⟩:Addr).add jj)=some vv:=fun jj vv hj => by
         rw [add_none,Nat.zero_add,(Blk.alloc_new W _ _).cell]
         simpa using hj
        clear HIN
        gi_wp2_with (gi_at_builtin;refine wpListIn_append_own _ rfl _ _ 61 rfl w.heap.size 47 i0 _ 8 88 under_spans hi0 hz0 hz1 hz2 rfl (by decide) _ _ _ rfl (hrow2.alloc _) ⟨W.heap.size,0,none⟩ 1 1 [.int .i64 zt,.int .i64 zi,.int .i64 zp,.string zs,.string zh,.int .i64 za,.int .i64 zd,.string zn] rfl rfl hcells (by simp [Value.oneCell']) (by unfold maxLen;omega) (by omega) (by have:=hB.size;simp;omega) ?_;intro v' w1 hown' hgrow _;obtain ⟨g',cap',rfl⟩:=ownsRow_succ hown';obtain ⟨hv1,hv2,hr2,hk2,hb2⟩:=bS.appended (by decide) hrow2 hB.size (by omega) hown' hgrow;have hc1:=hv1.cell;have hf1:=hv1.frozen)
        have hg2:(W.alloc (.cells #[.int .i64 zt,.int .i64 zi,.int .i64 zp,.string zs,.string zh,.int .i64 za,.int .i64 zd,.string zn] 47 (0,0))).grownBy w1 (Value.slice ux an uc).ownBlock:=hgrow
        have hq9:=HZ4.out.1
        have hKS:∀ k cs,Blk W k 132 cs→Blk (w1.setCell ⟨w.heap.size+1+1,0,none⟩ (.slice (some ⟨g',0,none⟩) (an+1) cap')) k 132 cs:=fun k cs e => by
         have hal:Below W.heap.size W (W.alloc (.cells #[.int .i64 zt,.int .i64 zi,.int .i64 zp,.string zs,.string zh,.int .i64 za,.int .i64 zd,.string zn] 47 (0,0))):=(Below.refl _ _).alloc (Nat.le_refl _) _
         have e1:=e.below hal
         have hne:some k≠(Value.slice ux an uc).ownBlock:=by
          rcases hrow2.2 with ⟨hh,_⟩ | ⟨g,cap,cur,hh,_,hgb,_⟩
          · rw [hh];intro e';cases e'
          · rw [hh]
            intro e'
            injection e' with e'
            have e':k=g:=e'
            subst e'
            unfold Blk at e
            rw [e] at hgb
            injection hgb with hgb
            injection hgb with _ hgb _
            exact absurd hgb (by decide)
         have e2:Blk w1 k 132 cs:=(hg2.block k e1.lt hne).trans e1
         have hne2:k≠w.heap.size+1+1:=fun e' => by
          subst e'
          have:=hv1
          unfold Boxed at this
          unfold Blk at e2
          rw [e2] at this
          injection this with this
          injection this with _ this _
          exact absurd this (by decide)
         exact (Below.heap_setCell _ _ _ _ (fun e' => hne2 (by simpa using e'))).trans e2
        refine ⟨hk2.from _,⟨hb2,hKS⟩,⟨⟨_,hv2,?_⟩,((b4.alloc _).kept hg2 (b4.not_row (by decide) hrow2)).other (by omega) _,((b5.alloc _).kept hg2 (b5.not_row (by decide) hrow2)).other (by omega) _,((bq.alloc _).kept hg2 (bq.not_row (by decide) hrow2)).other (by omega) _⟩,hB.trans hb2⟩
        rw [HE.out,List.length_append,List.flatMap_append,← HAN.out]
        exact hr2
      · have HE:=Lib.hid HIN.out
        rw [if_neg (fun e => g3 e.2.2)] at HE
        clear HIN
        gi_wp2_with fail
        exact ⟨KeepsFrom.refl _ _,KpS.refl _ _,⟨⟨_,bS,by rw [HE.out];exact Hrow.out⟩,b4,b5,bq⟩,hB⟩
    · have HE:=Lib.hid HIN.out
      rw [if_neg (fun e => g2 e.2.1)] at HE
      clear HIN
      gi_wp2_with fail
      exact ⟨KeepsFrom.refl _ _,KpS.refl _ _,⟨⟨_,bS,by rw [HE.out];exact Hrow.out⟩,b4,b5,bq⟩,hB⟩
  · have HE:=Lib.hid HIN.out
    rw [if_neg (fun e => g1 e.1)] at HE
    clear HIN
    gi_wp2_with fail
    exact ⟨KeepsFrom.refl _ _,KpS.refl _ _,⟨⟨_,bS,by rw [HE.out];exact Hrow.out⟩,b4,b5,bq⟩,hB⟩
 case done =>
  rintro D ys W hD rfl ⟨⟨⟨u,bS,hrow,_⟩,b4,b5,bq⟩,hB⟩ hK
  have hown:OwnSp W w.heap.size u (rdL f su m (numbered h.l)):=hrow
  obtain ⟨ux,uc,hu⟩:=hown.shape
  have hul:(rdL f su m (numbered h.l)).length≤1000000:=by have e1:=rdL_len f su m (numbered h.l);rw [← HL.out] at e1;rw [← HL.out];omega
  have HQQ:=Lib.hid HQ.out
  obtain ⟨acc,hacc⟩:∃ acc,acc=rdL f su m (numbered h.l):=⟨_,rfl⟩
  rw [← hacc] at hu hown hrow hul HQQ
  obtain ⟨an,han⟩:∃ an,an=acc.length:=⟨_,rfl⟩
  rw [← han] at hu hul HQQ
  subst hu
  obtain ⟨nx,hnx⟩:∃ nx:Int,nx=f+an:=⟨_,rfl⟩
  have hsum:f+(an:Int)=nx:=hnx.symm
  have hwr:IntKind.i64.wrap nx=nx:=by rw [IntKind.wrap_i64];omega
  rw [← hnx] at HQQ
  have HOW:=Lib.hid hown
  clear hnx hacc han hrow hown
  go_wp2_with fail
  refine wp_onlyN ?_
  refine wp_region_two (T:=fun W => W.cell? ⟨w.heap.size,0,none⟩=some (.int .i64 f)) (S:=fun W => W.cell? ⟨w.heap.size+1+1,0,none⟩=some (.slice ux an uc)) (n:=5) (by kernel_rfl) ?_
  obtain ⟨y3,hy3⟩:∃ y3,y3=W.drew:=⟨_,rfl⟩
  rw [← hy3]
  have hby3:Below W.heap.size W y3:=by rw [hy3];exact (Below.refl _ _).drew
  have hT:y3.cell? ⟨w.heap.size,0,none⟩=some (.int .i64 f):=by rw [hy3];exact b4.cell
  have hS:y3.cell? ⟨w.heap.size+1+1,0,none⟩=some (.slice ux an uc):=by rw [hy3];exact bS.cell
  have b43:Boxed y3 w.heap.size 3 (.int .i64 f):=by rw [hy3];exact b4
  have bS3:Boxed y3 (w.heap.size+1+1) 61 (.slice ux an uc):=by rw [hy3];exact bS
  have hK3:y3.heap[D]?=some (.deferred (some [])):=by rw [hy3];exact hK
  have hB3:Below w.heap.size w y3:=by rw [hy3];exact hB.drew
  have hO3:OwnSp y3 w.heap.size (.slice ux an uc) acc:=by rw [hy3];exact OwnRow.below HOW.out (Below.refl _ _).drew
  have hf3:=bS3.frozen
  clear hy3 b4 bS hK hB
  refine two_take 0 (some 55) (v:=?_) rfl rfl (by kernel_rfl) (by kernel_rfl) (by kernel_rfl) (by kernel_rfl) (by decide) (by kernel_rfl) (fun _ _ _ h => h) (Or.inl ⟨by rfl,?hy0⟩) hT hS ?_
  case hy0 => (intro w' hS';(try unfold S8 at hS');(try unfold T8 at hS');go_simp;(try with_reducible rfl))
  try simp only [xq]
  refine tk 1 56 hT hS ?_
  try simp only [xq]
  refine two_take 2 (some 57) (v:=?_) rfl rfl (by kernel_rfl) (by kernel_rfl) (by kernel_rfl) (by kernel_rfl) (by decide) (by kernel_rfl) (fun _ _ _ h => h) (Or.inl ⟨by rfl,?hy2⟩) hT hS ?_
  case hy2 => (intro w' hS';(try unfold S8 at hS');(try unfold T8 at hS');go_simp;(try with_reducible rfl))
  try simp only [xq]
  refine tk 3 58 hT hS ?_
  refine tk 4 59 hT hS ?_
  try simp only [xq]
  refine two_one 5 rfl (by kernel_rfl) ?_
  intro K hK
  go_simp
  have hc6:=bS3.set (.slice ux an uc)
  have hT1:=(b43.other (B':=w.heap.size+1+1) (by omega) (.slice ux an uc)).cell
  refine hK _ _ hT1 (fun _ e => absurd rfl e) ?_
  clear hK K hT hS
  have hT:=hT1
  have hK4:=(KeepsOthers.setCell y3 ⟨w.heap.size+1+1,0,none⟩ (.slice ux an uc)).same D _ hK3 rfl
  have hB4:=hB3.setCell (p:=⟨w.heap.size+1+1,0,none⟩) (by simp;omega) (.slice ux an uc)
  have hO4:OwnSp (y3.setCell ⟨w.heap.size+1+1,0,none⟩ (.slice ux an uc)) w.heap.size (.slice ux an uc) acc:=World.ownsRow.kept hO3 (grownBy_setCell' _ _ _) (.inr (bS3.not_row (by decide) hO3).symm)
  have hS:=hc6.cell
  have HC6:=Lib.hid hc6
  clear hT1 hc6
  try simp only [xq]
  refine two_one 6 rfl (by kernel_rfl) ?_
  intro K hK
  go_simp
  refine hK.out _ _ hT (fun _ _ => hS) ?_
  clear hK K
  try simp only [xq]
  refine two_one 7 rfl (by kernel_rfl) ?_
  intro K hK
  go_simp
  refine hK.out _ _ hT (fun _ _ => hS) ?_
  clear hK K
  try simp only [xq]
  refine two_done (by kernel_rfl) ?_ _
  simp only [OnlyN]
  clear hT hS
  go_wp2_with fail
  refine ⟨by simp,.inl ⟨_,_,rfl,run_takeDeferred hK4,?_⟩⟩
  have hcz:((y3.setCell ⟨w.heap.size+1+1,0,none⟩ (.slice ux an uc)).putObj D (.deferred none)).cell? ⟨w.heap.size+1+1,0,none⟩=some (.slice ux an uc):=by
   have hne:w.heap.size+1+1≠D:=by omega
   exact (blk_putObj' HC6.out _ hne)
  refine ⟨.tuple #[.slice ux an uc,.int .i64 nx,.int .i64 0],?_,?_⟩
  · simp [results,Tryz.f29,go_sem,hcz]
  · unfold ReadPost
    rw [HQQ.out]
    exact ⟨_,rfl,ownsRow_putObj hO4 _ hK4 rfl,hB4.trans (belowK_b (w:=w) (Nat.le_refl _) _ D _ _ (by omega) hK4 rfl rfl)⟩
 case stop =>
  rintro D c pre W _ _ h _
  exact h.elim
theorem hread_any (h0:HS w0 X H w v d j h) (he:LEnv w) (hbd:SgsBnd h.l) (f m:Int) (hN:(numbered h.l).length≤1000000) (hsu:sureL d h.l 0≤1000000000) :
  Calls Tryz.prog 29 #[.pointer (some ⟨j,0,none⟩),.int .i64 f,.int .i64 m] w (ReadPost d h f m w):=by
 by_cases hrun:h.runs d
 · by_cases hm:m<0
   · exact hread_few h0 he hbd hrun f m hm hsu
   · by_cases hf:f<firstOf h.l∨(sureL d h.l 0:Int)<f
     · exact hread_far h0 he hbd hrun f m (by omega) hf hsu
     · exact hread_main h0 he hbd hrun f m (by omega) (by omega) (by omega) hN hsu
 · exact hread_off h0 hrun f m
end
end Go.Proofs.YtdacanghbepjpaaGreatDoor
namespace Go.Proofs.YtdacanghbepjpaaGreatDoor
set_option linter.unusedSimpArgs false
set_option linter.unusedVariables false
set_option maxRecDepth 100000
open Go.RowKit Go.Maps
open Dsk
section
variable {w0 w w':World} {X H S:Nat→Prop} {v lv:Value} {d d':Dk} {j B:Nat} {h:Hl} {vs:List SegV} {l:List Sg}
def cleanP (d:Dk):Int×Dk:=let y:=d.remove lnew;if y.1=4 then (0,y.2) else y
def lnewB:ByteArray:=⟨#[108,110,101,119]⟩
theorem lnewB_data:lnewB.data.toList=lnew:=by rfl
set_option maxHeartbeats 2000000 in
theorem hclean_any (h:Live w0 X w v d) (hj:w.cell? ⟨j,0,none⟩=some v) :
  Calls Tryz.prog 167 #[.pointer (some ⟨j,0,none⟩)] w fun e w' => e=.returned (.int .i64 (cleanP d).1)∧Live w0 X w' v (cleanP d).2∧Keeps X w w':=by
 have hr:=h.remove lnewB (by decide)
 rw [lnewB_data] at hr
 obtain ⟨a,rfl⟩:=h.ptr
 obtain ⟨y,hy⟩:∃ y,y=d.remove lnew:=⟨_,rfl⟩
 rw [← hy] at hr
 obtain ⟨r,d2⟩:=y
 simp only at hr
 unfold lnewB at hr
 have HR:=Lib.hid hr
 have HQ:=Lib.hid (show cleanP d=if r=4 then (0,d2) else (r,d2) from by unfold cleanP;rw [← hy])
 clear h hr hy
 go_enter Tryz.func167,Tryz.ntmps167
 go_wp2_with fail
 refine HR.out.mono ?_
 rintro e w1 ⟨rfl,hl,hk⟩
 have HL:=Lib.hid hl
 have HK:=Lib.hid hk
 clear hl hk
 by_cases h4:r=4
 · have HV:=Lib.hid (show cleanP d=(0,d2) from by rw [HQ.out,if_pos h4])
   subst h4
   go_wp2_with fail
   go_ret
   rw [HV.out]
   exact ⟨rfl,HL.out,HK.out⟩
 · have t1:(r == 4)=false:=beq_eq_false_iff_ne.2 h4
   have HV:=Lib.hid (show cleanP d=(r,d2) from by rw [HQ.out,if_neg h4])
   go_wp2_with fail
   go_ret
   rw [HV.out]
   exact ⟨rfl,HL.out,HK.out⟩
set_option maxHeartbeats 4000000 in
theorem hopen_new (h:Live w0 X w v d) (hoff:d.off=false) (hfl:d.files=[]) :
  Calls Tryz.prog 101 #[v] w fun e w' => ∃ j,e=.returned (.tuple #[.pointer (some ⟨j,0,none⟩),.int .i64 0])∧∃ N,NewIn w w' N∧HS w0 (Plus X N) N w' v d j ⟨d.starts,false,[]⟩∧Keeps X w w':=by
 have HU:=Lib.hid h.up
 rw [hoff] at HU
 have HST:=Lib.hid h.starts
 have hcl:cleanP d=(0,d):=by
  unfold cleanP Dk.remove
  rw [hoff,hfl]
  rfl
 obtain ⟨a,rfl⟩:=h.ptr
 obtain ⟨st,hst⟩:∃ st,st=d.starts:=⟨_,rfl⟩
 rw [← hst] at HST ⊢
 obtain ⟨q,hq⟩:∃ q,q=w.heap.size:=⟨_,rfl⟩
 obtain ⟨w1,hw1⟩:∃ w1,w1=w.alloc (.cells #[.pointer (some ⟨a,0,none⟩),.int .i64 st,.bool false,.slice none 0 0] 136 (0,0)):=⟨_,rfl⟩
 have hb1:Below w.heap.size w w1:=by rw [hw1];exact (Below.refl _ _).alloc (Nat.le_refl _) _
 have hk1:Blk w1 q 136 #[.pointer (some ⟨a,0,none⟩),.int .i64 st,.bool false,.slice none 0 0]:=by rw [hw1,hq];exact Blk.alloc_new w _ _
 have hl1:=h.add hb1
 have HNM:=Lib.hid hl1.names
 rw [hfl] at HNM
 have HL1:=Lib.hid hl1
 have HB1:=Lib.hid hb1
 have HK1:=Lib.hid hk1
 have HW1:=Lib.hid hw1
 have HQ:=Lib.hid hq
 have HC:=Lib.hid hcl
 have HH:=Lib.hid h
 clear h hoff hfl hst hb1 hk1 hl1 hw1 hcl
 go_enter Tryz.func101,Tryz.ntmps101
 go_wp2_with fail
 refine HU.out.mono ?_
 rintro e w2 ⟨rfl,rfl⟩
 go_wp2_with fail
 refine HST.out.mono ?_
 rintro e w2 ⟨rfl,rfl⟩
 go_wp2_with fail
 rw [← HW1.out,← hq]
 clear hq
 refine HNM.out.mono ?_
 rintro e w2 ⟨u,rfl,hou,hb2⟩
 obtain ⟨ux,uc,rfl⟩:∃ x c,u=.slice x 0 c:=by
  obtain ⟨x,c,e,_⟩:=OwnS.each hou
  exact ⟨x,c,e⟩
 have hk2:=HK1.out.below hb2
 have k0:=hk2.cell 0
 have k3:=hk2.cell 3
 simp at k0 k3
 have HK2:=Lib.hid hk2
 have HL2:=Lib.hid (HL1.out.keep hb2)
 have HB2:=Lib.hid (HB1.out.trans (hb2.mono HB1.out.size))
 have HTC:=Lib.hid (fun (W:World) (hW:Below w2.heap.size w2 W) => show W.cell? ⟨q,3,none⟩=some (.slice none 0 0) from (hk2.below hW).cell 3)
 clear hou hb2 hk2
 go_wp2_with fail
 go_loop [32] (fun v32 => v32=.int .i64 0) (fun _ => 0)
 case atStart => rfl
 case round =>
  subst hrel
  go_wp2_with fail
  refine wp_region_two (T:=fun W => W.cell? ⟨q,3,none⟩=some (.slice none 0 0)) (S:=fun _ => True) (n:=99) (by kernel_rfl) ?_
  obtain ⟨y1,hy1⟩:∃ y1,y1=w2.drew:=⟨_,rfl⟩
  rw [← hy1]
  have hby:Below w2.heap.size w2 y1:=by rw [hy1];exact (Below.refl _ _).drew
  have HY1:=Lib.hid hby
  have hS:True:=trivial
  have hT:=HTC.out y1 HY1.out
  clear hy1 hby k0 k3
  have hwm:IntKind.i64.wrap (-1)=-1:=by rw [IntKind.wrap_i64];omega
  have hmx:max (-1:Int) 0=0:=by decide
  refine tk 0 78 hT hS ?_
  refine tk 1 79 hT hS ?_
  try simp only [xq]
  refine tk 2 80 hT hS ?_
  refine tk 3 81 hT hS ?_
  try simp only [xq]
  refine tk 4 82 hT hS ?_
  refine tk 5 83 hT hS ?_
  try simp only [xq]
  refine tk 6 84 hT hS ?_
  refine tk 7 85 hT hS ?_
  try simp only [xq]
  refine tk 8 86 hT hS ?_
  refine tk 9 87 hT hS ?_
  try simp only [xq]
  refine tk 10 88 hT hS ?_
  refine tk 11 89 hT hS ?_
  try simp only [xq]
  refine tk 12 90 hT hS ?_
  refine tk 13 91 hT hS ?_
  try simp only [xq]
  refine two_done (by kernel_rfl) ?_ _
  clear hT hS
  have HY:=Lib.hid (HB2.out.trans (HY1.out.mono HB2.out.size))
  have HLY:=Lib.hid (HL2.out.keep HY1.out)
  have HKY:=Lib.hid (HK2.out.below HY1.out)
  have HCL:=Lib.hid (hclean_any (j:=q) HLY.out (HKY.out.cell 0))
  rw [HC.out] at HCL
  have z0:=HKY.out.cell 3
  simp at z0
  go_wp2_with fail
  go_loop [91] (fun v91 => v91=.int .i64 0) (fun _ => 0)
  case atStart => rfl
  case round =>
   subst hrel
   go_wp2_with fail
   refine HCL.out.mono ?_
   rintro e w3 ⟨rfl,hl3,hk3⟩
   have hqX:Also X w w1 q:=.inr ⟨by rw [HQ.out];exact Nat.le_refl _,HK1.out.lt⟩
   have hb3:=HKY.out.chg hk3 (fun e => e hqX)
   have g3:=hb3.cell 3
   simp at g3
   have HL3:=Lib.hid hl3
   have HK3:=Lib.hid hk3
   have HB3:=Lib.hid hb3
   have HQX:=Lib.hid hqX
   have hgw:¬ (-1:Int)≥0:=by omega
   clear hl3 hk3 hb3 hqX z0
   go_wp2_with fail
   refine wp_region_two (T:=fun _ => True) (S:=fun _ => True) (n:=99) (by kernel_rfl) ?_
   obtain ⟨y2,hy2⟩:∃ y2,y2=w3.drew:=⟨_,rfl⟩
   rw [← hy2]
   have hby2:Below w3.heap.size w3 y2:=by rw [hy2];exact (Below.refl _ _).drew
   have HY2:=Lib.hid hby2
   have hS:True:=trivial
   have hT:True:=trivial
   clear hy2 hby2
   refine tk 0 136 hT hS ?_
   refine tk 1 137 hT hS ?_
   try simp only [xq]
   refine tk 2 138 hT hS ?_
   try simp only [xq]
   refine tkT 3 139 (v:=undef) rfl rfl (Or.inr ⟨by rfl,rfl⟩) hT hS ?_
   try simp only [xq]
   refine tkT 4 140 (v:=undef) rfl rfl (Or.inr ⟨by rfl,rfl⟩) hT hS ?_
   try simp only [xq]
   refine tkT 5 141 (v:=undef) rfl rfl (Or.inr ⟨by rfl,rfl⟩) hT hS ?_
   try simp only [xq]
   refine tkT 6 142 (v:=undef) rfl rfl (Or.inr ⟨by rfl,rfl⟩) hT hS ?_
   try simp only [xq]
   refine tkT 7 143 (v:=undef) rfl rfl (Or.inr ⟨by rfl,rfl⟩) hT hS ?_
   try simp only [xq]
   refine tkT 8 144 (v:=undef) rfl rfl (Or.inr ⟨by rfl,rfl⟩) hT hS ?_
   try simp only [xq]
   refine tkT 9 145 (v:=undef) rfl rfl (Or.inr ⟨by rfl,rfl⟩) hT hS ?_
   try simp only [xq]
   refine tkT 10 146 (v:=undef) rfl rfl (Or.inr ⟨by rfl,rfl⟩) hT hS ?_
   try simp only [xq]
   refine tkT 11 147 (v:=undef) rfl rfl (Or.inr ⟨by rfl,rfl⟩) hT hS ?_
   try simp only [xq]
   refine tkT 12 148 (v:=undef) rfl rfl (Or.inr ⟨by rfl,rfl⟩) hT hS ?_
   try simp only [xq]
   refine tkT 13 149 (v:=undef) rfl rfl (Or.inr ⟨by rfl,rfl⟩) hT hS ?_
   try simp only [xq]
   refine tkT 14 150 (v:=undef) rfl rfl (Or.inr ⟨by rfl,rfl⟩) hT hS ?_
   try simp only [xq]
   refine tkT 15 151 (v:=undef) rfl rfl (Or.inr ⟨by rfl,rfl⟩) hT hS ?_
   try simp only [xq]
   refine tkT 16 152 (v:=undef) rfl rfl (Or.inr ⟨by rfl,rfl⟩) hT hS ?_
   try simp only [xq]
   refine tk 17 153 hT hS ?_
   try simp only [xq]
   refine two_done (by kernel_rfl) ?_ _
   clear hT hS
   go_wp2_with fail
   refine bodyPost_ret (v:=.tuple #[.pointer (some ⟨q,0,none⟩),.int .i64 0]) (by simp [results,Tryz.results101,go_sem]) rfl ?_
   refine ⟨q,rfl,fun k => k=q,fun k e => ?_,⟨?_,⟨.slice none 0 0,[],HB3.out.below HY2.out,⟨OwnRow.nil _ _,rfl,fun i hi => absurd hi (by simp),fun i k hi => absurd hi (by simp)⟩,fun k hk => ?_⟩,fun k e => .inr e,fun k e => ?_⟩,?_⟩
   · subst e
     rw [HQ.out]
     exact ⟨Nat.le_refl _,Nat.lt_of_lt_of_le (by rw [← HQ.out];exact HB3.out.lt) HY2.out.size⟩
   · exact (HL3.out.keep HY2.out).drop fun k hk => hk.elim .inl fun e => by subst e;exact HQX.out
   · rcases hk with hk | hk | hk
     · exact hk
     · cases hk
     · simp [blks] at hk
   · subst e
     exact ⟨by rw [HQ.out];exact HH.out.size,Nat.lt_of_lt_of_le HB3.out.lt HY2.out.size⟩
   · exact ((Keeps.below HY.out).trans (HK3.out.mono fun k e => .inl e)).trans (Keeps.below HY2.out)
end
end Go.Proofs.YtdacanghbepjpaaGreatDoor
namespace Go.Proofs.YtdacanghbepjpaaGreatDoor
set_option linter.unusedSimpArgs false
set_option linter.unusedVariables false
set_option maxRecDepth 100000
open Go.RowKit Go.Maps
open Dsk
section
variable {w0 w w':World} {X H:Nat→Prop} {v:Value} {d:Dk} {j:Nat} {h:Hl}
end
end Go.Proofs.YtdacanghbepjpaaGreatDoor
