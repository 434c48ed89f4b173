/- A span as bytes: walked. -/
import Derived.Test.YtdacanghbepjpaaGreatDoorSpB
import Derived.Test.YtdacanghbepjpaaGreatDoorEdEnc
import Derived.Test.YtdacanghbepjpaaGreatDoorM7
namespace Go.Proofs.YtdacanghbepjpaaGreatDoor
set_option linter.unusedSimpArgs false
set_option linter.unusedVariables false
set_option maxRecDepth 100000
open Go.RowKit
def spNm (x:Sp.Span) (k:Nat):List UInt8:=([Ed.pn x.trace,Ed.pn x.id,Ed.pn x.parent,Ed.pn x.start,Ed.pn x.dur].take k).flatten
def spTx (x:Sp.Span) (k:Nat):List UInt8:=spNm x 5++([Ed.encT x.service.data.toList,Ed.encT x.host.data.toList,Ed.encT x.note.data.toList].take k).flatten
theorem spTx_enc (x:Sp.Span):spTx x 3=Sp.enc x:=by simp [spTx,spNm,Sp.enc]
theorem spNm_len {x:Sp.Span} (h:Sp.May x) (k:Nat) (hk:k≤5):(spNm x k).length≤112:=by
 have:=(Sp.enc_len h).2
 rw [← spTx_enc] at this
 rcases (show k=0∨k=1∨k=2∨k=3∨k=4∨k=5 by omega) with rfl | rfl | rfl | rfl | rfl | rfl <;> (simp [spTx,spNm] at this ⊢;try omega)
theorem spTx_len {x:Sp.Span} (h:Sp.May x) (k:Nat) (hk:k≤3):(spTx x k).length≤112:=by
 have:=(Sp.enc_len h).2
 rw [← spTx_enc] at this
 rcases (show k=0∨k=1∨k=2∨k=3 by omega) with rfl | rfl | rfl | rfl <;> (simp [spTx,spNm] at this ⊢;try omega)
theorem txt_at0 (b:Nat) (W:World):(Instr.index 176 (.agg #[.pointer (some ⟨b,3,none⟩),.pointer (some ⟨b,4,none⟩),.pointer (some ⟨b,7,none⟩)]) (.int .i64 0)).run Tryz.prog W=.ok (.pointer (some ⟨b,3,none⟩)) W:=by rfl
theorem txt_at1 (b:Nat) (W:World):(Instr.index 176 (.agg #[.pointer (some ⟨b,3,none⟩),.pointer (some ⟨b,4,none⟩),.pointer (some ⟨b,7,none⟩)]) (.int .i64 1)).run Tryz.prog W=.ok (.pointer (some ⟨b,4,none⟩)) W:=by rfl
theorem txt_at2 (b:Nat) (W:World):(Instr.index 176 (.agg #[.pointer (some ⟨b,3,none⟩),.pointer (some ⟨b,4,none⟩),.pointer (some ⟨b,7,none⟩)]) (.int .i64 2)).run Tryz.prog W=.ok (.pointer (some ⟨b,7,none⟩)) W:=by rfl
theorem _root_.Go.RowKit.Below.size' {B:Nat} {w w':World} (h:Below B w w') (hB:B≤w.heap.size):B≤w'.heap.size:=Nat.le_trans hB h.size
section
variable {w0 w w':World}
def spQ (x:Sp.Span):List UInt8×Int:=if Sp.May x then (Sp.enc x,0) else ([],2)
set_option maxHeartbeats 8000000 in
theorem hencode_any (x:Sp.Span) (h1:x.service.size≤maxLen) (h2:x.host.size≤maxLen) (h3:x.note.size≤maxLen) :
  Calls Tryz.prog 75 #[spV x] w fun e w' => e=.returned (.tuple #[.string ⟨(spQ x).1.toArray⟩,.int .i64 (spQ x).2])∧Below w.heap.size w w':=by
 obtain ⟨q,hq⟩:∃ q,q=w.heap.size:=⟨_,rfl⟩
 obtain ⟨w1,hw1⟩:∃ w1,w1=w.alloc (.cells #[.int .i64 x.trace,.int .i64 x.id,.int .i64 x.parent,.string x.service,.string x.host,.int .i64 x.start,.int .i64 x.dur,.string x.note] 47 (0,0)):=⟨_,rfl⟩
 have hb1:Below w.heap.size w w1:=by rw [hw1];exact (Below.refl _ _).alloc (Nat.le_refl _) _
 have hk1:Blk w1 q 47 #[.int .i64 x.trace,.int .i64 x.id,.int .i64 x.parent,.string x.service,.string x.host,.int .i64 x.start,.int .i64 x.dur,.string x.note]:=by rw [hw1,hq];exact Blk.alloc_new w _ _
 have HCK:=Lib.hid (hcheck_any (w:=w1) x h1 h2 h3)
 have HK1:=Lib.hid hk1
 have HW1:=Lib.hid hw1
 have HF:=Lib.hid hb1
 have hqz:=hk1.lt
 by_cases hm:Sp.May x
 case neg =>
  have e1:spQ x=([],2):=by unfold spQ;exact if_neg hm
  rw [if_neg hm] at HCK
  rw [e1]
  unfold spV at HCK ⊢
  have c0:=hk1.cell 0
  have c1:=hk1.cell 1
  have c2:=hk1.cell 2
  have c3:=hk1.cell 3
  have c4:=hk1.cell 4
  have c5:=hk1.cell 5
  have c6:=hk1.cell 6
  have c7:=hk1.cell 7
  simp at c0 c1 c2 c3 c4 c5 c6 c7
  obtain ⟨tr,id,pa,se,ho,sa,du,no⟩:=x
  simp only at HCK HK1 HW1 c0 c1 c2 c3 c4 c5 c6 c7 ⊢
  clear hb1 hk1 hw1 h1 h2 h3 hm e1
  go_enter Tryz.func75,Tryz.ntmps75
  go_wp2_with fail
  rw [← HW1.out]
  refine HCK.out.mono ?_
  rintro e w2 ⟨rfl,hb2⟩
  have HB2:=Lib.hid (HF.out.trans (hb2.mono HF.out.size))
  clear hb2 c0 c1 c2 c3 c4 c5 c6 c7
  go_wp2_with fail
  go_ret2
  exact ⟨rfl,HB2.out⟩
 case pos =>
  have e1:spQ x=(Sp.enc x,0):=by unfold spQ;exact if_pos hm
  rw [if_pos hm] at HCK
  rw [e1]
  have HENC:=Lib.hid (spTx_enc x)
  have hmx:=hm
  unfold spV at HCK ⊢
  obtain ⟨tr,id,pa,se,ho,sa,du,no⟩:=x
  simp only at HCK HK1 HW1 ⊢
  have HMX:=Lib.hid hmx
  have b1:=hm.trace
  have b2:=hm.id
  have b3:=hm.parent
  have b4:=hm.start
  have b5:=hm.dur
  have b6:=hm.service.2.1
  have b7:=hm.host.2.1
  have b8:=hm.note
  simp only at b1 b2 b3 b4 b5 b6 b7 b8
  have HBD:=Lib.hid (And.intro b1 (And.intro b2 (And.intro b3 (And.intro b4 (And.intro b5 (And.intro b6 (And.intro b7 b8)))))))
  clear hb1 hk1 hw1 h1 h2 h3 hm e1 hmx b1 b2 b3 b4 b5 b6 b7 b8
  go_enter Tryz.func75,Tryz.ntmps75
  go_wp2_with fail
  rw [← HW1.out]
  refine HCK.out.mono ?_
  rintro e w2 ⟨rfl,hb2⟩
  have HF2:=Lib.hid (HF.out.trans (hb2.mono HF.out.size))
  have HK2:=Lib.hid (HK1.out.below hb2)
  clear hb2
  go_wp2_with fail
  obtain ⟨bb,hbb⟩:∃ bb,bb=w2.heap.size:=⟨_,rfl⟩
  obtain ⟨w3,hw3⟩:∃ w3,w3=w2.alloc (.cells #[.pointer none,.slice none 0 0] 164 (0,0)):=⟨_,rfl⟩
  rw [← hw3,← hq,← hbb]
  have hb3:Below w2.heap.size w2 w3:=by rw [hw3];exact (Below.refl _ _).alloc (Nat.le_refl _) _
  have HI3:=Lib.hid (show IsB bb bb [] w3 by rw [hw3,hbb];exact IsB.new w2)
  have HKq:=Lib.hid (HK2.out.below hb3)
  have hqb:q<bb:=by rw [hbb];exact HK2.out.lt
  have HZ:=Lib.hid (show bb≤w3.heap.size by rw [hbb];exact hb3.size)
  have HFIN:=Lib.hid (fun (W:World) (hW:Below bb w3 W) => show Below w.heap.size w W from (HF2.out.trans (hb3.mono HF2.out.size)).trans (hW.mono (by omega)))
  have HNS:=Lib.hid (hnums_any (w:=w3) q)
  unfold numsV at HNS
  clear hw3 hbb hb3 hqz hq
  refine HNS.out.mono ?_
  rintro e w4 ⟨rfl,hb4⟩
  have HB4:=Lib.hid (show Below bb w3 w4 from hb4.mono HZ.out)
  have HI4:=Lib.hid (HI3.out.below hb4)
  clear hb4
  go_wp2_with fail
  have hmx:=HMX.out
  go_loopw [7,16] (fun _ v16 wr => ∃ k:Nat,v16=.int .i64 k∧k≤5∧Below bb w3 wr∧IsB bb bb (Lib.byteCells (spNm ⟨tr,id,pa,se,ho,sa,du,no⟩ k)) wr) (fun _ v16 _ => 5-(intOf v16).toNat)
  case atStart => exact ⟨0,rfl,by omega,HB4.out,HI4.out⟩
  case round =>
   obtain ⟨k,rfl,hk,hb,hi⟩:=hrel
   have HB:=Lib.hid hb
   have HI:=Lib.hid hi
   clear hb hi
   rcases (show k=0∨k=1∨k=2∨k=3∨k=4∨k=5 by omega) with rfl | rfl | rfl | rfl | rfl | rfl
   · have hix:=fun W => num_at0 q W
     have g0:=((HB.out.trans (((Below.refl _ _).alloc (Nat.le_refl _) (.cells #[.pointer (some ⟨q,0,none⟩),.int .i64 1,.int .i64 2147483647] 166 (0,0))).mono (HB.out.size' HZ.out))).cell (p:=⟨q,0,none⟩) hqb).trans (HKq.out.cell 0)
     simp only [List.getElem?_toArray,List.getElem?_cons_zero,List.getElem?_cons_succ] at g0
     have HPP:=Lib.hid (fun W => putP_any tr W (by have:=HBD.out;omega) (by have:=HBD.out;omega))
     obtain ⟨E,hE⟩:∃ E,E=pnB tr:=⟨_,rfl⟩
     rw [← hE] at HPP
     have HEE:=Lib.hid hE
     have hEz:E.size≤9:=by rw [hE];exact pnB_size (by have:=HBD.out;omega)
     clear hE
     go_wp2_with fail
     obtain ⟨wn,hwn⟩:∃ wn,wn=wr.alloc (.cells #[.pointer (some ⟨q,0,none⟩),.int .i64 1,.int .i64 2147483647] 166 (0,0)):=⟨_,rfl⟩
     rw [← hwn]
     have hbn:Below wr.heap.size wr wn:=by rw [hwn];exact (Below.refl _ _).alloc (Nat.le_refl _) _
     have HBN:=Lib.hid (HB.out.trans (hbn.mono (HB.out.size' HZ.out)))
     have HIN:=Lib.hid (HI.out.below hbn)
     clear hwn hbn g0
     refine (HPP.out wn).mono ?_
     rintro e w5 ⟨rfl,hb5⟩
     have HB5:=Lib.hid (HBN.out.trans (hb5.mono (HBN.out.size' HZ.out)))
     have HI5:=Lib.hid (HIN.out.below hb5)
     clear hb5
     go_wp2_with fail
     refine (writeString_any bb bb _ E w5 HI5.out (by rw [Lib.byteCells_length];have:=spNm_len hmx 0 (by omega);omega) (HB5.out.size' HZ.out)).mono ?_
     rintro e w6 ⟨rfl,⟨hbu,hb6⟩,_⟩
     have hi6:IsB bb bb (Lib.byteCells (spNm ⟨tr,id,pa,se,ho,sa,du,no⟩ (0+1))) w6:=by
      right
      have e1:Lib.byteCells (spNm ⟨tr,id,pa,se,ho,sa,du,no⟩ (0+1))=Lib.byteCells (spNm ⟨tr,id,pa,se,ho,sa,du,no⟩ 0)++Lib.strCells E:=by
       rw [HEE.out]
       unfold Lib.byteCells Lib.strCells
       simp [spNm,pnB]
      rw [e1]
      exact hbu
     have HI6:=Lib.hid hi6
     have HB6:=Lib.hid (HB5.out.trans hb6)
     clear hbu hi6 hb6
     go_wp2_with fail
     go_roundw
     case rel => exact ⟨0+1,by go_num,by omega,HB6.out,HI6.out⟩
     case measure => simp [intOf]
   · have hix:=fun W => num_at1 q W
     have g0:=((HB.out.trans (((Below.refl _ _).alloc (Nat.le_refl _) (.cells #[.pointer (some ⟨q,1,none⟩),.int .i64 1,.int .i64 2147483647] 166 (0,0))).mono (HB.out.size' HZ.out))).cell (p:=⟨q,1,none⟩) hqb).trans (HKq.out.cell 1)
     simp only [List.getElem?_toArray,List.getElem?_cons_zero,List.getElem?_cons_succ] at g0
     have HPP:=Lib.hid (fun W => putP_any id W (by have:=HBD.out;omega) (by have:=HBD.out;omega))
     obtain ⟨E,hE⟩:∃ E,E=pnB id:=⟨_,rfl⟩
     rw [← hE] at HPP
     have HEE:=Lib.hid hE
     have hEz:E.size≤9:=by rw [hE];exact pnB_size (by have:=HBD.out;omega)
     clear hE
     go_wp2_with fail
     obtain ⟨wn,hwn⟩:∃ wn,wn=wr.alloc (.cells #[.pointer (some ⟨q,1,none⟩),.int .i64 1,.int .i64 2147483647] 166 (0,0)):=⟨_,rfl⟩
     rw [← hwn]
     have hbn:Below wr.heap.size wr wn:=by rw [hwn];exact (Below.refl _ _).alloc (Nat.le_refl _) _
     have HBN:=Lib.hid (HB.out.trans (hbn.mono (HB.out.size' HZ.out)))
     have HIN:=Lib.hid (HI.out.below hbn)
     clear hwn hbn g0
     refine (HPP.out wn).mono ?_
     rintro e w5 ⟨rfl,hb5⟩
     have HB5:=Lib.hid (HBN.out.trans (hb5.mono (HBN.out.size' HZ.out)))
     have HI5:=Lib.hid (HIN.out.below hb5)
     clear hb5
     go_wp2_with fail
     refine (writeString_any bb bb _ E w5 HI5.out (by rw [Lib.byteCells_length];have:=spNm_len hmx 1 (by omega);omega) (HB5.out.size' HZ.out)).mono ?_
     rintro e w6 ⟨rfl,⟨hbu,hb6⟩,_⟩
     have hi6:IsB bb bb (Lib.byteCells (spNm ⟨tr,id,pa,se,ho,sa,du,no⟩ (1+1))) w6:=by
      right
      have e1:Lib.byteCells (spNm ⟨tr,id,pa,se,ho,sa,du,no⟩ (1+1))=Lib.byteCells (spNm ⟨tr,id,pa,se,ho,sa,du,no⟩ 1)++Lib.strCells E:=by
       rw [HEE.out]
       unfold Lib.byteCells Lib.strCells
       simp [spNm,pnB]
      rw [e1]
      exact hbu
     have HI6:=Lib.hid hi6
     have HB6:=Lib.hid (HB5.out.trans hb6)
     clear hbu hi6 hb6
     go_wp2_with fail
     go_roundw
     case rel => exact ⟨1+1,by go_num,by omega,HB6.out,HI6.out⟩
     case measure => simp [intOf]
   · have hix:=fun W => num_at2 q W
     have g0:=((HB.out.trans (((Below.refl _ _).alloc (Nat.le_refl _) (.cells #[.pointer (some ⟨q,2,none⟩),.int .i64 0,.int .i64 2147483647] 166 (0,0))).mono (HB.out.size' HZ.out))).cell (p:=⟨q,2,none⟩) hqb).trans (HKq.out.cell 2)
     simp only [List.getElem?_toArray,List.getElem?_cons_zero,List.getElem?_cons_succ] at g0
     have HPP:=Lib.hid (fun W => putP_any pa W (by have:=HBD.out;omega) (by have:=HBD.out;omega))
     obtain ⟨E,hE⟩:∃ E,E=pnB pa:=⟨_,rfl⟩
     rw [← hE] at HPP
     have HEE:=Lib.hid hE
     have hEz:E.size≤9:=by rw [hE];exact pnB_size (by have:=HBD.out;omega)
     clear hE
     go_wp2_with fail
     obtain ⟨wn,hwn⟩:∃ wn,wn=wr.alloc (.cells #[.pointer (some ⟨q,2,none⟩),.int .i64 0,.int .i64 2147483647] 166 (0,0)):=⟨_,rfl⟩
     rw [← hwn]
     have hbn:Below wr.heap.size wr wn:=by rw [hwn];exact (Below.refl _ _).alloc (Nat.le_refl _) _
     have HBN:=Lib.hid (HB.out.trans (hbn.mono (HB.out.size' HZ.out)))
     have HIN:=Lib.hid (HI.out.below hbn)
     clear hwn hbn g0
     refine (HPP.out wn).mono ?_
     rintro e w5 ⟨rfl,hb5⟩
     have HB5:=Lib.hid (HBN.out.trans (hb5.mono (HBN.out.size' HZ.out)))
     have HI5:=Lib.hid (HIN.out.below hb5)
     clear hb5
     go_wp2_with fail
     refine (writeString_any bb bb _ E w5 HI5.out (by rw [Lib.byteCells_length];have:=spNm_len hmx 2 (by omega);omega) (HB5.out.size' HZ.out)).mono ?_
     rintro e w6 ⟨rfl,⟨hbu,hb6⟩,_⟩
     have hi6:IsB bb bb (Lib.byteCells (spNm ⟨tr,id,pa,se,ho,sa,du,no⟩ (2+1))) w6:=by
      right
      have e1:Lib.byteCells (spNm ⟨tr,id,pa,se,ho,sa,du,no⟩ (2+1))=Lib.byteCells (spNm ⟨tr,id,pa,se,ho,sa,du,no⟩ 2)++Lib.strCells E:=by
       rw [HEE.out]
       unfold Lib.byteCells Lib.strCells
       simp [spNm,pnB]
      rw [e1]
      exact hbu
     have HI6:=Lib.hid hi6
     have HB6:=Lib.hid (HB5.out.trans hb6)
     clear hbu hi6 hb6
     go_wp2_with fail
     go_roundw
     case rel => exact ⟨2+1,by go_num,by omega,HB6.out,HI6.out⟩
     case measure => simp [intOf]
   · have hix:=fun W => num_at3 q W
     have g0:=((HB.out.trans (((Below.refl _ _).alloc (Nat.le_refl _) (.cells #[.pointer (some ⟨q,5,none⟩),.int .i64 0,.int .i64 1073741824] 166 (0,0))).mono (HB.out.size' HZ.out))).cell (p:=⟨q,5,none⟩) hqb).trans (HKq.out.cell 5)
     simp only [List.getElem?_toArray,List.getElem?_cons_zero,List.getElem?_cons_succ] at g0
     have HPP:=Lib.hid (fun W => putP_any sa W (by have:=HBD.out;omega) (by have:=HBD.out;omega))
     obtain ⟨E,hE⟩:∃ E,E=pnB sa:=⟨_,rfl⟩
     rw [← hE] at HPP
     have HEE:=Lib.hid hE
     have hEz:E.size≤9:=by rw [hE];exact pnB_size (by have:=HBD.out;omega)
     clear hE
     go_wp2_with fail
     obtain ⟨wn,hwn⟩:∃ wn,wn=wr.alloc (.cells #[.pointer (some ⟨q,5,none⟩),.int .i64 0,.int .i64 1073741824] 166 (0,0)):=⟨_,rfl⟩
     rw [← hwn]
     have hbn:Below wr.heap.size wr wn:=by rw [hwn];exact (Below.refl _ _).alloc (Nat.le_refl _) _
     have HBN:=Lib.hid (HB.out.trans (hbn.mono (HB.out.size' HZ.out)))
     have HIN:=Lib.hid (HI.out.below hbn)
     clear hwn hbn g0
     refine (HPP.out wn).mono ?_
     rintro e w5 ⟨rfl,hb5⟩
     have HB5:=Lib.hid (HBN.out.trans (hb5.mono (HBN.out.size' HZ.out)))
     have HI5:=Lib.hid (HIN.out.below hb5)
     clear hb5
     go_wp2_with fail
     refine (writeString_any bb bb _ E w5 HI5.out (by rw [Lib.byteCells_length];have:=spNm_len hmx 3 (by omega);omega) (HB5.out.size' HZ.out)).mono ?_
     rintro e w6 ⟨rfl,⟨hbu,hb6⟩,_⟩
     have hi6:IsB bb bb (Lib.byteCells (spNm ⟨tr,id,pa,se,ho,sa,du,no⟩ (3+1))) w6:=by
      right
      have e1:Lib.byteCells (spNm ⟨tr,id,pa,se,ho,sa,du,no⟩ (3+1))=Lib.byteCells (spNm ⟨tr,id,pa,se,ho,sa,du,no⟩ 3)++Lib.strCells E:=by
       rw [HEE.out]
       unfold Lib.byteCells Lib.strCells
       simp [spNm,pnB]
      rw [e1]
      exact hbu
     have HI6:=Lib.hid hi6
     have HB6:=Lib.hid (HB5.out.trans hb6)
     clear hbu hi6 hb6
     go_wp2_with fail
     go_roundw
     case rel => exact ⟨3+1,by go_num,by omega,HB6.out,HI6.out⟩
     case measure => simp [intOf]
   · have hix:=fun W => num_at4 q W
     have g0:=((HB.out.trans (((Below.refl _ _).alloc (Nat.le_refl _) (.cells #[.pointer (some ⟨q,6,none⟩),.int .i64 0,.int .i64 1073741824] 166 (0,0))).mono (HB.out.size' HZ.out))).cell (p:=⟨q,6,none⟩) hqb).trans (HKq.out.cell 6)
     simp only [List.getElem?_toArray,List.getElem?_cons_zero,List.getElem?_cons_succ] at g0
     have HPP:=Lib.hid (fun W => putP_any du W (by have:=HBD.out;omega) (by have:=HBD.out;omega))
     obtain ⟨E,hE⟩:∃ E,E=pnB du:=⟨_,rfl⟩
     rw [← hE] at HPP
     have HEE:=Lib.hid hE
     have hEz:E.size≤9:=by rw [hE];exact pnB_size (by have:=HBD.out;omega)
     clear hE
     go_wp2_with fail
     obtain ⟨wn,hwn⟩:∃ wn,wn=wr.alloc (.cells #[.pointer (some ⟨q,6,none⟩),.int .i64 0,.int .i64 1073741824] 166 (0,0)):=⟨_,rfl⟩
     rw [← hwn]
     have hbn:Below wr.heap.size wr wn:=by rw [hwn];exact (Below.refl _ _).alloc (Nat.le_refl _) _
     have HBN:=Lib.hid (HB.out.trans (hbn.mono (HB.out.size' HZ.out)))
     have HIN:=Lib.hid (HI.out.below hbn)
     clear hwn hbn g0
     refine (HPP.out wn).mono ?_
     rintro e w5 ⟨rfl,hb5⟩
     have HB5:=Lib.hid (HBN.out.trans (hb5.mono (HBN.out.size' HZ.out)))
     have HI5:=Lib.hid (HIN.out.below hb5)
     clear hb5
     go_wp2_with fail
     refine (writeString_any bb bb _ E w5 HI5.out (by rw [Lib.byteCells_length];have:=spNm_len hmx 4 (by omega);omega) (HB5.out.size' HZ.out)).mono ?_
     rintro e w6 ⟨rfl,⟨hbu,hb6⟩,_⟩
     have hi6:IsB bb bb (Lib.byteCells (spNm ⟨tr,id,pa,se,ho,sa,du,no⟩ (4+1))) w6:=by
      right
      have e1:Lib.byteCells (spNm ⟨tr,id,pa,se,ho,sa,du,no⟩ (4+1))=Lib.byteCells (spNm ⟨tr,id,pa,se,ho,sa,du,no⟩ 4)++Lib.strCells E:=by
       rw [HEE.out]
       unfold Lib.byteCells Lib.strCells
       simp [spNm,pnB]
      rw [e1]
      exact hbu
     have HI6:=Lib.hid hi6
     have HB6:=Lib.hid (HB5.out.trans hb6)
     clear hbu hi6 hb6
     go_wp2_with fail
     go_roundw
     case rel => exact ⟨4+1,by go_num,by omega,HB6.out,HI6.out⟩
     case measure => simp [intOf]
   · have HTX:=Lib.hid (fun W:World => htxts_any (w:=W) q)
     unfold txtsV at HTX
     go_wp2_with fail
     refine (HTX.out wr).mono ?_
     rintro e w5 ⟨rfl,hb5⟩
     have HB5:=Lib.hid (HB.out.trans (hb5.mono (HB.out.size' HZ.out)))
     have HI5:=Lib.hid (show IsB bb bb (Lib.byteCells (spTx ⟨tr,id,pa,se,ho,sa,du,no⟩ 0)) w5 from by
      have:=HI.out.below hb5
      have e1:spTx ⟨tr,id,pa,se,ho,sa,du,no⟩ 0=spNm ⟨tr,id,pa,se,ho,sa,du,no⟩ 5:=by simp [spTx]
      rw [e1]
      exact this)
     clear hb5
     go_wp2_with fail
     go_loopw [9,27] (fun _ v27 wr => ∃ k:Nat,v27=.int .i64 k∧k≤3∧Below bb w3 wr∧IsB bb bb (Lib.byteCells (spTx ⟨tr,id,pa,se,ho,sa,du,no⟩ k)) wr) (fun _ v27 _ => 3-(intOf v27).toNat)
     case atStart => exact ⟨0,rfl,by omega,HB5.out,HI5.out⟩
     case round =>
      obtain ⟨k,rfl,hk,hb,hi⟩:=hrel
      have HB:=Lib.hid hb
      have HI:=Lib.hid hi
      clear hb hi
      have hb6:=HBD.out.2.2.2.2.2
      rcases (show k=0∨k=1∨k=2∨k=3 by omega) with rfl | rfl | rfl | rfl
      · have hix:=fun W => txt_at0 q W
        have g0:=(HB.out.cell (p:=⟨q,3,none⟩) hqb).trans (HKq.out.cell 3)
        simp at g0
        have HPP:=Lib.hid (fun W => putText_any se W (by omega))
        obtain ⟨E,hE⟩:∃ E,E=encTB se:=⟨_,rfl⟩
        rw [← hE] at HPP
        have HEE:=Lib.hid hE
        have hEz:E.size≤1009:=by have:=encT_len se (by omega);rw [← hE] at this;omega
        clear hE
        go_wp2_with fail
        refine (HPP.out wr).mono ?_
        rintro e w5 ⟨rfl,hb5⟩
        have HB5:=Lib.hid (HB.out.trans (hb5.mono (HB.out.size' HZ.out)))
        have HI5:=Lib.hid (HI.out.below hb5)
        clear hb5 g0
        go_wp2_with fail
        refine (writeString_any bb bb _ E w5 HI5.out (by rw [Lib.byteCells_length];have:=spTx_len hmx 0 (by omega);omega) (HB5.out.size' HZ.out)).mono ?_
        rintro e w6 ⟨rfl,⟨hbu,hb6⟩,_⟩
        have hi6:IsB bb bb (Lib.byteCells (spTx ⟨tr,id,pa,se,ho,sa,du,no⟩ (0+1))) w6:=by
         right
         have e1:Lib.byteCells (spTx ⟨tr,id,pa,se,ho,sa,du,no⟩ (0+1))=Lib.byteCells (spTx ⟨tr,id,pa,se,ho,sa,du,no⟩ 0)++Lib.strCells E:=by
          rw [HEE.out]
          unfold Lib.byteCells Lib.strCells
          simp [spTx,encTB]
         rw [e1]
         exact hbu
        have HI6:=Lib.hid hi6
        have HB6:=Lib.hid (HB5.out.trans hb6)
        clear hbu hi6 hb6
        go_wp2_with fail
        go_roundw
        case rel => exact ⟨0+1,by go_num,by omega,HB6.out,HI6.out⟩
        case measure => simp [intOf]
      · have hix:=fun W => txt_at1 q W
        have g0:=(HB.out.cell (p:=⟨q,4,none⟩) hqb).trans (HKq.out.cell 4)
        simp at g0
        have HPP:=Lib.hid (fun W => putText_any ho W (by omega))
        obtain ⟨E,hE⟩:∃ E,E=encTB ho:=⟨_,rfl⟩
        rw [← hE] at HPP
        have HEE:=Lib.hid hE
        have hEz:E.size≤1009:=by have:=encT_len ho (by omega);rw [← hE] at this;omega
        clear hE
        go_wp2_with fail
        refine (HPP.out wr).mono ?_
        rintro e w5 ⟨rfl,hb5⟩
        have HB5:=Lib.hid (HB.out.trans (hb5.mono (HB.out.size' HZ.out)))
        have HI5:=Lib.hid (HI.out.below hb5)
        clear hb5 g0
        go_wp2_with fail
        refine (writeString_any bb bb _ E w5 HI5.out (by rw [Lib.byteCells_length];have:=spTx_len hmx 1 (by omega);omega) (HB5.out.size' HZ.out)).mono ?_
        rintro e w6 ⟨rfl,⟨hbu,hb6⟩,_⟩
        have hi6:IsB bb bb (Lib.byteCells (spTx ⟨tr,id,pa,se,ho,sa,du,no⟩ (1+1))) w6:=by
         right
         have e1:Lib.byteCells (spTx ⟨tr,id,pa,se,ho,sa,du,no⟩ (1+1))=Lib.byteCells (spTx ⟨tr,id,pa,se,ho,sa,du,no⟩ 1)++Lib.strCells E:=by
          rw [HEE.out]
          unfold Lib.byteCells Lib.strCells
          simp [spTx,encTB]
         rw [e1]
         exact hbu
        have HI6:=Lib.hid hi6
        have HB6:=Lib.hid (HB5.out.trans hb6)
        clear hbu hi6 hb6
        go_wp2_with fail
        go_roundw
        case rel => exact ⟨1+1,by go_num,by omega,HB6.out,HI6.out⟩
        case measure => simp [intOf]
      · have hix:=fun W => txt_at2 q W
        have g0:=(HB.out.cell (p:=⟨q,7,none⟩) hqb).trans (HKq.out.cell 7)
        simp at g0
        have HPP:=Lib.hid (fun W => putText_any no W (by omega))
        obtain ⟨E,hE⟩:∃ E,E=encTB no:=⟨_,rfl⟩
        rw [← hE] at HPP
        have HEE:=Lib.hid hE
        have hEz:E.size≤1009:=by have:=encT_len no (by omega);rw [← hE] at this;omega
        clear hE
        go_wp2_with fail
        refine (HPP.out wr).mono ?_
        rintro e w5 ⟨rfl,hb5⟩
        have HB5:=Lib.hid (HB.out.trans (hb5.mono (HB.out.size' HZ.out)))
        have HI5:=Lib.hid (HI.out.below hb5)
        clear hb5 g0
        go_wp2_with fail
        refine (writeString_any bb bb _ E w5 HI5.out (by rw [Lib.byteCells_length];have:=spTx_len hmx 2 (by omega);omega) (HB5.out.size' HZ.out)).mono ?_
        rintro e w6 ⟨rfl,⟨hbu,hb6⟩,_⟩
        have hi6:IsB bb bb (Lib.byteCells (spTx ⟨tr,id,pa,se,ho,sa,du,no⟩ (2+1))) w6:=by
         right
         have e1:Lib.byteCells (spTx ⟨tr,id,pa,se,ho,sa,du,no⟩ (2+1))=Lib.byteCells (spTx ⟨tr,id,pa,se,ho,sa,du,no⟩ 2)++Lib.strCells E:=by
          rw [HEE.out]
          unfold Lib.byteCells Lib.strCells
          simp [spTx,encTB]
         rw [e1]
         exact hbu
        have HI6:=Lib.hid hi6
        have HB6:=Lib.hid (HB5.out.trans hb6)
        clear hbu hi6 hb6
        go_wp2_with fail
        go_roundw
        case rel => exact ⟨2+1,by go_num,by omega,HB6.out,HI6.out⟩
        case measure => simp [intOf]
      · have HST:=Lib.hid (Tryz.Builder_String_any bb bb (spTx ⟨tr,id,pa,se,ho,sa,du,no⟩ 3) wr HI.out (HB.out.size' HZ.out))
        clear hb6
        go_wp2_with fail
        refine HST.out.mono ?_
        rintro e w6 ⟨rfl,hb6⟩
        have HB6:=Lib.hid (HB.out.trans hb6)
        clear hb6
        go_wp2_with fail
        go_ret2
        rw [HENC.out]
        exact ⟨rfl,HFIN.out _ HB6.out⟩
end
end Go.Proofs.YtdacanghbepjpaaGreatDoor
