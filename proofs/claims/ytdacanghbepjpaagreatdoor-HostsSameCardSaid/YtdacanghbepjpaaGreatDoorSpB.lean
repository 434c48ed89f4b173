/- A span: may it be; as bytes: walked. -/
import Derived.Test.YtdacanghbepjpaaGreatDoorSpA
import Derived.Test.YtdacanghbepjpaaGreatDoorM7
namespace Go.Proofs.YtdacanghbepjpaaGreatDoor
set_option linter.unusedSimpArgs false
set_option linter.unusedVariables false
set_option maxRecDepth 100000
open Go.RowKit
section
variable {w0 w w':World}
theorem num_at0 (b:Nat) (W:World):(Instr.index 167 (.agg #[.pointer (some ⟨b,0,none⟩),.int .i64 1,.int .i64 2147483647,.pointer (some ⟨b,1,none⟩),.int .i64 1,.int .i64 2147483647,.pointer (some ⟨b,2,none⟩),.int .i64 0,.int .i64 2147483647,.pointer (some ⟨b,5,none⟩),.int .i64 0,.int .i64 1073741824,.pointer (some ⟨b,6,none⟩),.int .i64 0,.int .i64 1073741824]) (.int .i64 0)).run Tryz.prog W=.ok (.agg #[.pointer (some ⟨b,0,none⟩),.int .i64 1,.int .i64 2147483647]) W:=by rfl
theorem num_at1 (b:Nat) (W:World):(Instr.index 167 (.agg #[.pointer (some ⟨b,0,none⟩),.int .i64 1,.int .i64 2147483647,.pointer (some ⟨b,1,none⟩),.int .i64 1,.int .i64 2147483647,.pointer (some ⟨b,2,none⟩),.int .i64 0,.int .i64 2147483647,.pointer (some ⟨b,5,none⟩),.int .i64 0,.int .i64 1073741824,.pointer (some ⟨b,6,none⟩),.int .i64 0,.int .i64 1073741824]) (.int .i64 1)).run Tryz.prog W=.ok (.agg #[.pointer (some ⟨b,1,none⟩),.int .i64 1,.int .i64 2147483647]) W:=by rfl
theorem num_at2 (b:Nat) (W:World):(Instr.index 167 (.agg #[.pointer (some ⟨b,0,none⟩),.int .i64 1,.int .i64 2147483647,.pointer (some ⟨b,1,none⟩),.int .i64 1,.int .i64 2147483647,.pointer (some ⟨b,2,none⟩),.int .i64 0,.int .i64 2147483647,.pointer (some ⟨b,5,none⟩),.int .i64 0,.int .i64 1073741824,.pointer (some ⟨b,6,none⟩),.int .i64 0,.int .i64 1073741824]) (.int .i64 2)).run Tryz.prog W=.ok (.agg #[.pointer (some ⟨b,2,none⟩),.int .i64 0,.int .i64 2147483647]) W:=by rfl
theorem num_at3 (b:Nat) (W:World):(Instr.index 167 (.agg #[.pointer (some ⟨b,0,none⟩),.int .i64 1,.int .i64 2147483647,.pointer (some ⟨b,1,none⟩),.int .i64 1,.int .i64 2147483647,.pointer (some ⟨b,2,none⟩),.int .i64 0,.int .i64 2147483647,.pointer (some ⟨b,5,none⟩),.int .i64 0,.int .i64 1073741824,.pointer (some ⟨b,6,none⟩),.int .i64 0,.int .i64 1073741824]) (.int .i64 3)).run Tryz.prog W=.ok (.agg #[.pointer (some ⟨b,5,none⟩),.int .i64 0,.int .i64 1073741824]) W:=by rfl
theorem num_at4 (b:Nat) (W:World):(Instr.index 167 (.agg #[.pointer (some ⟨b,0,none⟩),.int .i64 1,.int .i64 2147483647,.pointer (some ⟨b,1,none⟩),.int .i64 1,.int .i64 2147483647,.pointer (some ⟨b,2,none⟩),.int .i64 0,.int .i64 2147483647,.pointer (some ⟨b,5,none⟩),.int .i64 0,.int .i64 1073741824,.pointer (some ⟨b,6,none⟩),.int .i64 0,.int .i64 1073741824]) (.int .i64 4)).run Tryz.prog W=.ok (.agg #[.pointer (some ⟨b,6,none⟩),.int .i64 0,.int .i64 1073741824]) W:=by rfl
def NumsOk (x:Sp.Span) (k:Nat):Prop:=(0<k→1≤x.trace∧x.trace≤2147483647)∧(1<k→1≤x.id∧x.id≤2147483647)∧(2<k→0≤x.parent∧x.parent≤2147483647)∧(3<k→0≤x.start∧x.start≤1073741824)∧(4<k→0≤x.dur∧x.dur≤1073741824)
set_option maxHeartbeats 4000000 in
theorem hcheck_any (x:Sp.Span) (h1:x.service.size≤maxLen) (h2:x.host.size≤maxLen) (h3:x.note.size≤maxLen) :
  Calls Tryz.prog 128 #[spV x] w fun e w' => e=.returned (.int .i64 (if Sp.May x then 0 else 2))∧Below w.heap.size w w':=by
 have HN1:=Lib.hid (fun W:World => hname_any (w:=W) x.service h1)
 have HN2:=Lib.hid (fun W:World => hname_any (w:=W) x.host h2)
 obtain ⟨r,hr⟩:∃ r:Int,r=if Sp.May x then 0 else 2:=⟨_,rfl⟩
 rw [← hr]
 have HR:=Lib.hid hr
 obtain ⟨q,hq⟩:∃ q,q=w.heap.size:=⟨_,rfl⟩
 obtain ⟨w1,hw1⟩:∃ w1,w1=w.alloc (.cells #[.int .i64 x.trace,.int .i64 x.id,.int .i64 x.parent,.string x.service,.string x.host,.int .i64 x.start,.int .i64 x.dur,.string x.note] 47 (0,0)):=⟨_,rfl⟩
 have hb1:Below w.heap.size w w1:=by rw [hw1];exact (Below.refl _ _).alloc (Nat.le_refl _) _
 have hk1:Blk w1 q 47 #[.int .i64 x.trace,.int .i64 x.id,.int .i64 x.parent,.string x.service,.string x.host,.int .i64 x.start,.int .i64 x.dur,.string x.note]:=by rw [hw1,hq];exact Blk.alloc_new w _ _
 have hqz:=hk1.lt
 have HNS:=Lib.hid (hnums_any (w:=w1) q)
 have HFIN:=Lib.hid (fun (W:World) (hW:Below w1.heap.size w1 W) => show Below w.heap.size w W from hb1.trans (hW.mono hb1.size))
 have HK1:=Lib.hid hk1
 have HW1:=Lib.hid hw1
 unfold spV
 obtain ⟨tr,id,pa,se,ho,sa,du,no⟩:=x
 simp only at HN1 HN2 HK1 HW1 HR ⊢
 unfold numsV at HNS
 clear hr hb1 hk1 hw1 h1 h2 h3
 go_enter Tryz.func128,Tryz.ntmps128
 go_wp2_with fail
 rw [← HW1.out,← hq]
 clear hq
 refine HNS.out.mono ?_
 rintro e w2 ⟨rfl,hb2⟩
 have HB2:=Lib.hid hb2
 clear hb2
 go_wp2_with fail
 go_loopw [4,6] (fun _ v6 wr => ∃ k:Nat,v6=.int .i64 k∧k≤5∧NumsOk ⟨tr,id,pa,se,ho,sa,du,no⟩ k∧Below w1.heap.size w1 wr) (fun _ v6 _ => 5-(intOf v6).toNat)
 case atStart => exact ⟨0,rfl,by omega,⟨fun h => absurd h (by omega),fun h => absurd h (by omega),fun h => absurd h (by omega),fun h => absurd h (by omega),fun h => absurd h (by omega)⟩,HB2.out⟩
 case round =>
  obtain ⟨k,rfl,hk,hno,hb⟩:=hrel
  have HB:=Lib.hid hb
  have HNO:=Lib.hid hno
  clear hb hno
  rcases (show k=0∨k=1∨k=2∨k=3∨k=4∨k=5 by omega) with rfl | rfl | rfl | rfl | rfl | rfl
  · have hix:=fun W => num_at0 q W
    by_cases hlo:tr<1
    · have HV:=Lib.hid (show r=2 by rw [HR.out,if_neg];intro hm;have h5:=hm.trace;simp only at h5;omega)
      go_wp2_with fail
      obtain ⟨p,hp⟩:∃ p,p=wr.heap.size:=⟨_,rfl⟩
      obtain ⟨wn,hwn⟩:∃ wn,wn=wr.alloc (.cells #[.pointer (some ⟨q,0,none⟩),.int .i64 1,.int .i64 2147483647] 166 (0,0)):=⟨_,rfl⟩
      rw [← hwn,← hp]
      have hbn:Below wr.heap.size wr wn:=by rw [hwn];exact (Below.refl _ _).alloc (Nat.le_refl _) _
      have hkn:Blk wn p 166 #[.pointer (some ⟨q,0,none⟩),.int .i64 1,.int .i64 2147483647]:=by rw [hwn,hp];exact Blk.alloc_new wr _ _
      have HBN:=Lib.hid (HB.out.trans (hbn.mono HB.out.size))
      have g0:=(HBN.out.cell (p:=⟨q,0,none⟩) hqz).trans (HK1.out.cell 0)
      have n0:=hkn.cell 0
      have n1:=hkn.cell 1
      have n2:=hkn.cell 2
      simp at g0 n0 n1 n2
      clear hp hwn hbn hkn
      go_quiet (fail)
      go_wp2_with fail
      go_ret
      rw [HV.out]
      exact ⟨rfl,HFIN.out _ (HBN.out.trans ((belowD _ _).mono HBN.out.size))⟩
    · by_cases hhi:2147483647<tr
      · have HV:=Lib.hid (show r=2 by rw [HR.out,if_neg];intro hm;have h5:=hm.trace;simp only at h5;omega)
        go_wp2_with fail
        obtain ⟨p,hp⟩:∃ p,p=wr.heap.size:=⟨_,rfl⟩
        obtain ⟨wn,hwn⟩:∃ wn,wn=wr.alloc (.cells #[.pointer (some ⟨q,0,none⟩),.int .i64 1,.int .i64 2147483647] 166 (0,0)):=⟨_,rfl⟩
        rw [← hwn,← hp]
        have hbn:Below wr.heap.size wr wn:=by rw [hwn];exact (Below.refl _ _).alloc (Nat.le_refl _) _
        have hkn:Blk wn p 166 #[.pointer (some ⟨q,0,none⟩),.int .i64 1,.int .i64 2147483647]:=by rw [hwn,hp];exact Blk.alloc_new wr _ _
        have HBN:=Lib.hid (HB.out.trans (hbn.mono HB.out.size))
        have g0:=(HBN.out.cell (p:=⟨q,0,none⟩) hqz).trans (HK1.out.cell 0)
        have n0:=hkn.cell 0
        have n1:=hkn.cell 1
        have n2:=hkn.cell 2
        simp at g0 n0 n1 n2
        clear hp hwn hbn hkn
        go_quiet (fail)
        go_wp2_with fail
        go_ret
        rw [HV.out]
        exact ⟨rfl,HFIN.out _ (HBN.out.trans ((belowD _ _).mono HBN.out.size))⟩
      · have HNK:=Lib.hid (show NumsOk ⟨tr,id,pa,se,ho,sa,du,no⟩ (0+1) from by
         obtain ⟨a0,a1,a2,a3,a4⟩:=HNO.out
         refine ⟨fun _ => ?_,fun _ => ?_,fun _ => ?_,fun _ => ?_,fun _ => ?_⟩
         all_goals first | exact a0 (by omega) | exact a1 (by omega) | exact a2 (by omega) | exact a3 (by omega) | exact a4 (by omega) | omega | (simp only;omega))
        go_wp2_with fail
        obtain ⟨p,hp⟩:∃ p,p=wr.heap.size:=⟨_,rfl⟩
        obtain ⟨wn,hwn⟩:∃ wn,wn=wr.alloc (.cells #[.pointer (some ⟨q,0,none⟩),.int .i64 1,.int .i64 2147483647] 166 (0,0)):=⟨_,rfl⟩
        rw [← hwn,← hp]
        have hbn:Below wr.heap.size wr wn:=by rw [hwn];exact (Below.refl _ _).alloc (Nat.le_refl _) _
        have hkn:Blk wn p 166 #[.pointer (some ⟨q,0,none⟩),.int .i64 1,.int .i64 2147483647]:=by rw [hwn,hp];exact Blk.alloc_new wr _ _
        have HBN:=Lib.hid (HB.out.trans (hbn.mono HB.out.size))
        have g0:=(HBN.out.cell (p:=⟨q,0,none⟩) hqz).trans (HK1.out.cell 0)
        have n0:=hkn.cell 0
        have n1:=hkn.cell 1
        have n2:=hkn.cell 2
        simp at g0 n0 n1 n2
        clear hp hwn hbn hkn
        go_quiet (fail)
        go_wp2_with fail
        go_roundw
        case rel => exact ⟨0+1,by go_num,by omega,HNK.out,HBN.out.trans ((belowD _ _).mono HBN.out.size)⟩
        case measure => simp [intOf]
  · have hix:=fun W => num_at1 q W
    by_cases hlo:id<1
    · have HV:=Lib.hid (show r=2 by rw [HR.out,if_neg];intro hm;have h5:=hm.id;simp only at h5;omega)
      go_wp2_with fail
      obtain ⟨p,hp⟩:∃ p,p=wr.heap.size:=⟨_,rfl⟩
      obtain ⟨wn,hwn⟩:∃ wn,wn=wr.alloc (.cells #[.pointer (some ⟨q,1,none⟩),.int .i64 1,.int .i64 2147483647] 166 (0,0)):=⟨_,rfl⟩
      rw [← hwn,← hp]
      have hbn:Below wr.heap.size wr wn:=by rw [hwn];exact (Below.refl _ _).alloc (Nat.le_refl _) _
      have hkn:Blk wn p 166 #[.pointer (some ⟨q,1,none⟩),.int .i64 1,.int .i64 2147483647]:=by rw [hwn,hp];exact Blk.alloc_new wr _ _
      have HBN:=Lib.hid (HB.out.trans (hbn.mono HB.out.size))
      have g0:=(HBN.out.cell (p:=⟨q,1,none⟩) hqz).trans (HK1.out.cell 1)
      have n0:=hkn.cell 0
      have n1:=hkn.cell 1
      have n2:=hkn.cell 2
      simp at g0 n0 n1 n2
      clear hp hwn hbn hkn
      go_quiet (fail)
      go_wp2_with fail
      go_ret
      rw [HV.out]
      exact ⟨rfl,HFIN.out _ (HBN.out.trans ((belowD _ _).mono HBN.out.size))⟩
    · by_cases hhi:2147483647<id
      · have HV:=Lib.hid (show r=2 by rw [HR.out,if_neg];intro hm;have h5:=hm.id;simp only at h5;omega)
        go_wp2_with fail
        obtain ⟨p,hp⟩:∃ p,p=wr.heap.size:=⟨_,rfl⟩
        obtain ⟨wn,hwn⟩:∃ wn,wn=wr.alloc (.cells #[.pointer (some ⟨q,1,none⟩),.int .i64 1,.int .i64 2147483647] 166 (0,0)):=⟨_,rfl⟩
        rw [← hwn,← hp]
        have hbn:Below wr.heap.size wr wn:=by rw [hwn];exact (Below.refl _ _).alloc (Nat.le_refl _) _
        have hkn:Blk wn p 166 #[.pointer (some ⟨q,1,none⟩),.int .i64 1,.int .i64 2147483647]:=by rw [hwn,hp];exact Blk.alloc_new wr _ _
        have HBN:=Lib.hid (HB.out.trans (hbn.mono HB.out.size))
        have g0:=(HBN.out.cell (p:=⟨q,1,none⟩) hqz).trans (HK1.out.cell 1)
        have n0:=hkn.cell 0
        have n1:=hkn.cell 1
        have n2:=hkn.cell 2
        simp at g0 n0 n1 n2
        clear hp hwn hbn hkn
        go_quiet (fail)
        go_wp2_with fail
        go_ret
        rw [HV.out]
        exact ⟨rfl,HFIN.out _ (HBN.out.trans ((belowD _ _).mono HBN.out.size))⟩
      · have HNK:=Lib.hid (show NumsOk ⟨tr,id,pa,se,ho,sa,du,no⟩ (1+1) from by
         obtain ⟨a0,a1,a2,a3,a4⟩:=HNO.out
         refine ⟨fun _ => ?_,fun _ => ?_,fun _ => ?_,fun _ => ?_,fun _ => ?_⟩
         all_goals first | exact a0 (by omega) | exact a1 (by omega) | exact a2 (by omega) | exact a3 (by omega) | exact a4 (by omega) | omega | (simp only;omega))
        go_wp2_with fail
        obtain ⟨p,hp⟩:∃ p,p=wr.heap.size:=⟨_,rfl⟩
        obtain ⟨wn,hwn⟩:∃ wn,wn=wr.alloc (.cells #[.pointer (some ⟨q,1,none⟩),.int .i64 1,.int .i64 2147483647] 166 (0,0)):=⟨_,rfl⟩
        rw [← hwn,← hp]
        have hbn:Below wr.heap.size wr wn:=by rw [hwn];exact (Below.refl _ _).alloc (Nat.le_refl _) _
        have hkn:Blk wn p 166 #[.pointer (some ⟨q,1,none⟩),.int .i64 1,.int .i64 2147483647]:=by rw [hwn,hp];exact Blk.alloc_new wr _ _
        have HBN:=Lib.hid (HB.out.trans (hbn.mono HB.out.size))
        have g0:=(HBN.out.cell (p:=⟨q,1,none⟩) hqz).trans (HK1.out.cell 1)
        have n0:=hkn.cell 0
        have n1:=hkn.cell 1
        have n2:=hkn.cell 2
        simp at g0 n0 n1 n2
        clear hp hwn hbn hkn
        go_quiet (fail)
        go_wp2_with fail
        go_roundw
        case rel => exact ⟨1+1,by go_num,by omega,HNK.out,HBN.out.trans ((belowD _ _).mono HBN.out.size)⟩
        case measure => simp [intOf]
  · have hix:=fun W => num_at2 q W
    by_cases hlo:pa<0
    · have HV:=Lib.hid (show r=2 by rw [HR.out,if_neg];intro hm;have h5:=hm.parent;simp only at h5;omega)
      go_wp2_with fail
      obtain ⟨p,hp⟩:∃ p,p=wr.heap.size:=⟨_,rfl⟩
      obtain ⟨wn,hwn⟩:∃ wn,wn=wr.alloc (.cells #[.pointer (some ⟨q,2,none⟩),.int .i64 0,.int .i64 2147483647] 166 (0,0)):=⟨_,rfl⟩
      rw [← hwn,← hp]
      have hbn:Below wr.heap.size wr wn:=by rw [hwn];exact (Below.refl _ _).alloc (Nat.le_refl _) _
      have hkn:Blk wn p 166 #[.pointer (some ⟨q,2,none⟩),.int .i64 0,.int .i64 2147483647]:=by rw [hwn,hp];exact Blk.alloc_new wr _ _
      have HBN:=Lib.hid (HB.out.trans (hbn.mono HB.out.size))
      have g0:=(HBN.out.cell (p:=⟨q,2,none⟩) hqz).trans (HK1.out.cell 2)
      have n0:=hkn.cell 0
      have n1:=hkn.cell 1
      have n2:=hkn.cell 2
      simp at g0 n0 n1 n2
      clear hp hwn hbn hkn
      go_quiet (fail)
      go_wp2_with fail
      go_ret
      rw [HV.out]
      exact ⟨rfl,HFIN.out _ (HBN.out.trans ((belowD _ _).mono HBN.out.size))⟩
    · by_cases hhi:2147483647<pa
      · have HV:=Lib.hid (show r=2 by rw [HR.out,if_neg];intro hm;have h5:=hm.parent;simp only at h5;omega)
        go_wp2_with fail
        obtain ⟨p,hp⟩:∃ p,p=wr.heap.size:=⟨_,rfl⟩
        obtain ⟨wn,hwn⟩:∃ wn,wn=wr.alloc (.cells #[.pointer (some ⟨q,2,none⟩),.int .i64 0,.int .i64 2147483647] 166 (0,0)):=⟨_,rfl⟩
        rw [← hwn,← hp]
        have hbn:Below wr.heap.size wr wn:=by rw [hwn];exact (Below.refl _ _).alloc (Nat.le_refl _) _
        have hkn:Blk wn p 166 #[.pointer (some ⟨q,2,none⟩),.int .i64 0,.int .i64 2147483647]:=by rw [hwn,hp];exact Blk.alloc_new wr _ _
        have HBN:=Lib.hid (HB.out.trans (hbn.mono HB.out.size))
        have g0:=(HBN.out.cell (p:=⟨q,2,none⟩) hqz).trans (HK1.out.cell 2)
        have n0:=hkn.cell 0
        have n1:=hkn.cell 1
        have n2:=hkn.cell 2
        simp at g0 n0 n1 n2
        clear hp hwn hbn hkn
        go_quiet (fail)
        go_wp2_with fail
        go_ret
        rw [HV.out]
        exact ⟨rfl,HFIN.out _ (HBN.out.trans ((belowD _ _).mono HBN.out.size))⟩
      · have HNK:=Lib.hid (show NumsOk ⟨tr,id,pa,se,ho,sa,du,no⟩ (2+1) from by
         obtain ⟨a0,a1,a2,a3,a4⟩:=HNO.out
         refine ⟨fun _ => ?_,fun _ => ?_,fun _ => ?_,fun _ => ?_,fun _ => ?_⟩
         all_goals first | exact a0 (by omega) | exact a1 (by omega) | exact a2 (by omega) | exact a3 (by omega) | exact a4 (by omega) | omega | (simp only;omega))
        go_wp2_with fail
        obtain ⟨p,hp⟩:∃ p,p=wr.heap.size:=⟨_,rfl⟩
        obtain ⟨wn,hwn⟩:∃ wn,wn=wr.alloc (.cells #[.pointer (some ⟨q,2,none⟩),.int .i64 0,.int .i64 2147483647] 166 (0,0)):=⟨_,rfl⟩
        rw [← hwn,← hp]
        have hbn:Below wr.heap.size wr wn:=by rw [hwn];exact (Below.refl _ _).alloc (Nat.le_refl _) _
        have hkn:Blk wn p 166 #[.pointer (some ⟨q,2,none⟩),.int .i64 0,.int .i64 2147483647]:=by rw [hwn,hp];exact Blk.alloc_new wr _ _
        have HBN:=Lib.hid (HB.out.trans (hbn.mono HB.out.size))
        have g0:=(HBN.out.cell (p:=⟨q,2,none⟩) hqz).trans (HK1.out.cell 2)
        have n0:=hkn.cell 0
        have n1:=hkn.cell 1
        have n2:=hkn.cell 2
        simp at g0 n0 n1 n2
        clear hp hwn hbn hkn
        go_quiet (fail)
        go_wp2_with fail
        go_roundw
        case rel => exact ⟨2+1,by go_num,by omega,HNK.out,HBN.out.trans ((belowD _ _).mono HBN.out.size)⟩
        case measure => simp [intOf]
  · have hix:=fun W => num_at3 q W
    by_cases hlo:sa<0
    · have HV:=Lib.hid (show r=2 by rw [HR.out,if_neg];intro hm;have h5:=hm.start;simp only at h5;omega)
      go_wp2_with fail
      obtain ⟨p,hp⟩:∃ p,p=wr.heap.size:=⟨_,rfl⟩
      obtain ⟨wn,hwn⟩:∃ wn,wn=wr.alloc (.cells #[.pointer (some ⟨q,5,none⟩),.int .i64 0,.int .i64 1073741824] 166 (0,0)):=⟨_,rfl⟩
      rw [← hwn,← hp]
      have hbn:Below wr.heap.size wr wn:=by rw [hwn];exact (Below.refl _ _).alloc (Nat.le_refl _) _
      have hkn:Blk wn p 166 #[.pointer (some ⟨q,5,none⟩),.int .i64 0,.int .i64 1073741824]:=by rw [hwn,hp];exact Blk.alloc_new wr _ _
      have HBN:=Lib.hid (HB.out.trans (hbn.mono HB.out.size))
      have g0:=(HBN.out.cell (p:=⟨q,5,none⟩) hqz).trans (HK1.out.cell 5)
      have n0:=hkn.cell 0
      have n1:=hkn.cell 1
      have n2:=hkn.cell 2
      simp at g0 n0 n1 n2
      clear hp hwn hbn hkn
      go_quiet (fail)
      go_wp2_with fail
      go_ret
      rw [HV.out]
      exact ⟨rfl,HFIN.out _ (HBN.out.trans ((belowD _ _).mono HBN.out.size))⟩
    · by_cases hhi:1073741824<sa
      · have HV:=Lib.hid (show r=2 by rw [HR.out,if_neg];intro hm;have h5:=hm.start;simp only at h5;omega)
        go_wp2_with fail
        obtain ⟨p,hp⟩:∃ p,p=wr.heap.size:=⟨_,rfl⟩
        obtain ⟨wn,hwn⟩:∃ wn,wn=wr.alloc (.cells #[.pointer (some ⟨q,5,none⟩),.int .i64 0,.int .i64 1073741824] 166 (0,0)):=⟨_,rfl⟩
        rw [← hwn,← hp]
        have hbn:Below wr.heap.size wr wn:=by rw [hwn];exact (Below.refl _ _).alloc (Nat.le_refl _) _
        have hkn:Blk wn p 166 #[.pointer (some ⟨q,5,none⟩),.int .i64 0,.int .i64 1073741824]:=by rw [hwn,hp];exact Blk.alloc_new wr _ _
        have HBN:=Lib.hid (HB.out.trans (hbn.mono HB.out.size))
        have g0:=(HBN.out.cell (p:=⟨q,5,none⟩) hqz).trans (HK1.out.cell 5)
        have n0:=hkn.cell 0
        have n1:=hkn.cell 1
        have n2:=hkn.cell 2
        simp at g0 n0 n1 n2
        clear hp hwn hbn hkn
        go_quiet (fail)
        go_wp2_with fail
        go_ret
        rw [HV.out]
        exact ⟨rfl,HFIN.out _ (HBN.out.trans ((belowD _ _).mono HBN.out.size))⟩
      · have HNK:=Lib.hid (show NumsOk ⟨tr,id,pa,se,ho,sa,du,no⟩ (3+1) from by
         obtain ⟨a0,a1,a2,a3,a4⟩:=HNO.out
         refine ⟨fun _ => ?_,fun _ => ?_,fun _ => ?_,fun _ => ?_,fun _ => ?_⟩
         all_goals first | exact a0 (by omega) | exact a1 (by omega) | exact a2 (by omega) | exact a3 (by omega) | exact a4 (by omega) | omega | (simp only;omega))
        go_wp2_with fail
        obtain ⟨p,hp⟩:∃ p,p=wr.heap.size:=⟨_,rfl⟩
        obtain ⟨wn,hwn⟩:∃ wn,wn=wr.alloc (.cells #[.pointer (some ⟨q,5,none⟩),.int .i64 0,.int .i64 1073741824] 166 (0,0)):=⟨_,rfl⟩
        rw [← hwn,← hp]
        have hbn:Below wr.heap.size wr wn:=by rw [hwn];exact (Below.refl _ _).alloc (Nat.le_refl _) _
        have hkn:Blk wn p 166 #[.pointer (some ⟨q,5,none⟩),.int .i64 0,.int .i64 1073741824]:=by rw [hwn,hp];exact Blk.alloc_new wr _ _
        have HBN:=Lib.hid (HB.out.trans (hbn.mono HB.out.size))
        have g0:=(HBN.out.cell (p:=⟨q,5,none⟩) hqz).trans (HK1.out.cell 5)
        have n0:=hkn.cell 0
        have n1:=hkn.cell 1
        have n2:=hkn.cell 2
        simp at g0 n0 n1 n2
        clear hp hwn hbn hkn
        go_quiet (fail)
        go_wp2_with fail
        go_roundw
        case rel => exact ⟨3+1,by go_num,by omega,HNK.out,HBN.out.trans ((belowD _ _).mono HBN.out.size)⟩
        case measure => simp [intOf]
  · have hix:=fun W => num_at4 q W
    by_cases hlo:du<0
    · have HV:=Lib.hid (show r=2 by rw [HR.out,if_neg];intro hm;have h5:=hm.dur;simp only at h5;omega)
      go_wp2_with fail
      obtain ⟨p,hp⟩:∃ p,p=wr.heap.size:=⟨_,rfl⟩
      obtain ⟨wn,hwn⟩:∃ wn,wn=wr.alloc (.cells #[.pointer (some ⟨q,6,none⟩),.int .i64 0,.int .i64 1073741824] 166 (0,0)):=⟨_,rfl⟩
      rw [← hwn,← hp]
      have hbn:Below wr.heap.size wr wn:=by rw [hwn];exact (Below.refl _ _).alloc (Nat.le_refl _) _
      have hkn:Blk wn p 166 #[.pointer (some ⟨q,6,none⟩),.int .i64 0,.int .i64 1073741824]:=by rw [hwn,hp];exact Blk.alloc_new wr _ _
      have HBN:=Lib.hid (HB.out.trans (hbn.mono HB.out.size))
      have g0:=(HBN.out.cell (p:=⟨q,6,none⟩) hqz).trans (HK1.out.cell 6)
      have n0:=hkn.cell 0
      have n1:=hkn.cell 1
      have n2:=hkn.cell 2
      simp at g0 n0 n1 n2
      clear hp hwn hbn hkn
      go_quiet (fail)
      go_wp2_with fail
      go_ret
      rw [HV.out]
      exact ⟨rfl,HFIN.out _ (HBN.out.trans ((belowD _ _).mono HBN.out.size))⟩
    · by_cases hhi:1073741824<du
      · have HV:=Lib.hid (show r=2 by rw [HR.out,if_neg];intro hm;have h5:=hm.dur;simp only at h5;omega)
        go_wp2_with fail
        obtain ⟨p,hp⟩:∃ p,p=wr.heap.size:=⟨_,rfl⟩
        obtain ⟨wn,hwn⟩:∃ wn,wn=wr.alloc (.cells #[.pointer (some ⟨q,6,none⟩),.int .i64 0,.int .i64 1073741824] 166 (0,0)):=⟨_,rfl⟩
        rw [← hwn,← hp]
        have hbn:Below wr.heap.size wr wn:=by rw [hwn];exact (Below.refl _ _).alloc (Nat.le_refl _) _
        have hkn:Blk wn p 166 #[.pointer (some ⟨q,6,none⟩),.int .i64 0,.int .i64 1073741824]:=by rw [hwn,hp];exact Blk.alloc_new wr _ _
        have HBN:=Lib.hid (HB.out.trans (hbn.mono HB.out.size))
        have g0:=(HBN.out.cell (p:=⟨q,6,none⟩) hqz).trans (HK1.out.cell 6)
        have n0:=hkn.cell 0
        have n1:=hkn.cell 1
        have n2:=hkn.cell 2
        simp at g0 n0 n1 n2
        clear hp hwn hbn hkn
        go_quiet (fail)
        go_wp2_with fail
        go_ret
        rw [HV.out]
        exact ⟨rfl,HFIN.out _ (HBN.out.trans ((belowD _ _).mono HBN.out.size))⟩
      · have HNK:=Lib.hid (show NumsOk ⟨tr,id,pa,se,ho,sa,du,no⟩ (4+1) from by
         obtain ⟨a0,a1,a2,a3,a4⟩:=HNO.out
         refine ⟨fun _ => ?_,fun _ => ?_,fun _ => ?_,fun _ => ?_,fun _ => ?_⟩
         all_goals first | exact a0 (by omega) | exact a1 (by omega) | exact a2 (by omega) | exact a3 (by omega) | exact a4 (by omega) | omega | (simp only;omega))
        go_wp2_with fail
        obtain ⟨p,hp⟩:∃ p,p=wr.heap.size:=⟨_,rfl⟩
        obtain ⟨wn,hwn⟩:∃ wn,wn=wr.alloc (.cells #[.pointer (some ⟨q,6,none⟩),.int .i64 0,.int .i64 1073741824] 166 (0,0)):=⟨_,rfl⟩
        rw [← hwn,← hp]
        have hbn:Below wr.heap.size wr wn:=by rw [hwn];exact (Below.refl _ _).alloc (Nat.le_refl _) _
        have hkn:Blk wn p 166 #[.pointer (some ⟨q,6,none⟩),.int .i64 0,.int .i64 1073741824]:=by rw [hwn,hp];exact Blk.alloc_new wr _ _
        have HBN:=Lib.hid (HB.out.trans (hbn.mono HB.out.size))
        have g0:=(HBN.out.cell (p:=⟨q,6,none⟩) hqz).trans (HK1.out.cell 6)
        have n0:=hkn.cell 0
        have n1:=hkn.cell 1
        have n2:=hkn.cell 2
        simp at g0 n0 n1 n2
        clear hp hwn hbn hkn
        go_quiet (fail)
        go_wp2_with fail
        go_roundw
        case rel => exact ⟨4+1,by go_num,by omega,HNK.out,HBN.out.trans ((belowD _ _).mono HBN.out.size)⟩
        case measure => simp [intOf]
  · have HMAY:=Lib.hid (show Sp.May ⟨tr,id,pa,se,ho,sa,du,no⟩↔Sp.NameOk se∧Sp.NameOk ho∧no.size≤24 from by
     obtain ⟨a0,a1,a2,a3,a4⟩:=HNO.out
     rw [Sp.may_iff]
     exact ⟨fun h => h.2.2.2.2.2,fun h => ⟨a0 (by omega),a1 (by omega),a2 (by omega),a3 (by omega),a4 (by omega),h⟩⟩)
    obtain ⟨ns,hns⟩:∃ ns,ns=decide (Sp.NameOk se):=⟨_,rfl⟩
    obtain ⟨nh,hnh⟩:∃ nh,nh=decide (Sp.NameOk ho):=⟨_,rfl⟩
    rw [← hns] at HN1
    rw [← hnh] at HN2
    have HNS2:=Lib.hid hns
    have HNH2:=Lib.hid hnh
    clear hns hnh
    have HCS:=Lib.hid (fun (W:World) (hW:Below w1.heap.size w1 W) => show W.cell? ⟨q,3,none⟩=some (.string se)∧W.cell? ⟨q,4,none⟩=some (.string ho)∧W.cell? ⟨q,7,none⟩=some (.string no) from by
     have k:=HK1.out.below hW
     exact ⟨k.cell 3,k.cell 4,k.cell 7⟩)
    obtain ⟨g3,_,_⟩:=HCS.out wr HB.out
    cases ns with
    | false =>
     have HV:=Lib.hid (show r=2 by rw [HR.out,if_neg];intro hm;have h5:=(HMAY.out.1 hm).1;exact absurd HNS2.out (by rw [decide_eq_true h5];decide))
     go_wp2_with fail
     refine (HN1.out wr).mono ?_
     rintro e w3 ⟨rfl,hb3⟩
     have HB3:=Lib.hid (HB.out.trans (hb3.mono HB.out.size))
     clear hb3 g3
     go_wp2_with fail
     go_ret
     rw [HV.out]
     exact ⟨rfl,HFIN.out _ HB3.out⟩
    | true =>
     go_wp2_with fail
     refine (HN1.out wr).mono ?_
     rintro e w3 ⟨rfl,hb3⟩
     have HB3:=Lib.hid (HB.out.trans (hb3.mono HB.out.size))
     clear hb3 g3
     obtain ⟨_,g4,_⟩:=HCS.out w3 HB3.out
     cases nh with
     | false =>
      have HV:=Lib.hid (show r=2 by rw [HR.out,if_neg];intro hm;have h5:=(HMAY.out.1 hm).2.1;exact absurd HNH2.out (by rw [decide_eq_true h5];decide))
      go_wp2_with fail
      refine (HN2.out w3).mono ?_
      rintro e w4 ⟨rfl,hb4⟩
      have HB4:=Lib.hid (HB3.out.trans (hb4.mono HB3.out.size))
      clear hb4 g4
      go_wp2_with fail
      go_ret
      rw [HV.out]
      exact ⟨rfl,HFIN.out _ HB4.out⟩
     | true =>
      go_wp2_with fail
      refine (HN2.out w3).mono ?_
      rintro e w4 ⟨rfl,hb4⟩
      have HB4:=Lib.hid (HB3.out.trans (hb4.mono HB3.out.size))
      clear hb4 g4
      obtain ⟨_,_,g7⟩:=HCS.out w4 HB4.out
      by_cases h24:no.size≤24
      · have t24:¬ (24:Int)<no.size:=by omega
        have HV:=Lib.hid (show r=0 by rw [HR.out,if_pos];exact HMAY.out.2 ⟨of_decide_eq_true HNS2.out.symm,of_decide_eq_true HNH2.out.symm,h24⟩)
        go_wp2_with fail
        go_ret
        rw [HV.out]
        exact ⟨rfl,HFIN.out _ HB4.out⟩
      · have t24:(24:Int)<no.size:=by omega
        have HV:=Lib.hid (show r=2 by rw [HR.out,if_neg];intro hm;exact h24 (HMAY.out.1 hm).2.2)
        go_wp2_with fail
        go_ret
        rw [HV.out]
        exact ⟨rfl,HFIN.out _ HB4.out⟩
end
end Go.Proofs.YtdacanghbepjpaaGreatDoor
