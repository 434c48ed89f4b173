/- 'HostlogNone', walked. -/
import Derived.Test.YtiepipcankhdnaaGreatDoorHlDx
import Derived.Test.YtiepipcankhdnaaGreatDoorHlZ
import Derived.Test.YtiepipcankhdnaaGreatDoorHlTab
namespace Go.Proofs.YtiepipcankhdnaaGreatDoor
set_option linter.unusedSimpArgs false
set_option linter.unusedVariables false
set_option maxRecDepth 100000
open Go.RowKit Go.Maps
open Dsk

theorem rdHA_one {w : World} {B g : Nat} {a : HAct} (h : Blk w g 41 (hactC a).toArray) (ho : HActOk w B a) : RdHA w B (.slice (some ⟨g, 0, none⟩) 1 1) [a] :=
  ⟨_, 1, rfl, fun j hj => by
    obtain rfl : j = 0 := by simp at hj; omega
    refine ⟨ho, g, 0, rfl, h.lt, fun i hi => ?_⟩
    rw [h.cell]
    simp⟩
set_option maxHeartbeats 8000000 in
theorem hostlogNone_any (a : HAct) (w : World) (ho : HActOk w w.heap.size a) (he : LEnv w) :
    Calls Tryz.prog 4 #[.agg #[.int .u8 a.kind, .int .i64 a.s.trace, .int .i64 a.s.id, .int .i64 a.s.parent, .string a.s.service, .string a.s.host, .int .i64 a.s.start, .int .i64 a.s.dur, .string a.s.note, .int .i64 a.n, .int .i64 a.m, a.kv]] w fun e w' => e = .returned (.bool true) ∧ Below w.heap.size w w' := by
  obtain ⟨kx, kc, hkv⟩ := ho.kv.formH
  obtain ⟨q, hq⟩ : ∃ q, q = w.heap.size := ⟨_, rfl⟩
  obtain ⟨w1, hw1⟩ : ∃ w1, w1 = (w.alloc (.cells (hactC a).toArray 41 (0, 0))) := ⟨_, rfl⟩
  obtain ⟨w2, hw2⟩ : ∃ w2, w2 = (w1.alloc (.cells (hactC a).toArray 41 (0, 0))) := ⟨_, rfl⟩
  have hb1 : Below w.heap.size w w1 := by rw [hw1]; exact (Below.refl _ _).alloc (Nat.le_refl _) _
  have hb2 : Below w1.heap.size w1 w2 := by rw [hw2]; exact (Below.refl _ _).alloc (Nat.le_refl _) _
  have hk1 : Blk w1 q 41 (hactC a).toArray := by rw [hw1, hq]; exact Blk.alloc_new w _ _
  have hk2 : Blk w2 w1.heap.size 41 (hactC a).toArray := by rw [hw2]; exact Blk.alloc_new w1 _ _
  have hz1 : w1.heap.size = w.heap.size + 1 := by rw [hw1]; exact Array.size_push _
  have hb12 := hb1.trans (hb2.mono hb1.size)
  have HG := Lib.hid (hgreat_any (.slice (some ⟨w1.heap.size, 0, none⟩) 1 1) [a] w.heap.size w2 (rdHA_one hk2 (ho.below hb12)) (show 1 ≤ maxLen by decide))
  have HX := Lib.hid (hk1.below hb2)
  have HB := Lib.hid hb12
  have HE := Lib.hid he
  rw [hz1] at HG
  rw [hw1] at hw2
  unfold hactC at HX
  rw [hkv] at HX
  simp only [hactC] at hw2
  rw [hkv] at hw2 ⊢
  obtain ⟨kn, hkn⟩ : ∃ kn, kn = a.keep.length := ⟨_, rfl⟩
  rw [← hkn] at HX hw2 ⊢
  have HW := Lib.hid hw2
  have HQ := Lib.hid hq
  clear hkv hq hw1 hw2 hb1 hb2 hk1 hk2 hz1 hb12 ho he hkn
  go_enter Tryz.func4, Tryz.ntmps4
  go_wp2_with fail
  rw [← HW.out]
  refine HG.out.mono ?_
  rintro e w3 ⟨⟨b, rfl, hsm⟩, rfl⟩
  rw [← HQ.out]
  by_cases b1 : b = 1
  · subst b1
    clear hsm
    go_wp2_with fail
    go_ret
    exact ⟨rfl, HB.out⟩
  have t1 : (b == 1) = false := beq_eq_false_iff_ne.2 b1
  rw [t1]
  clear hsm b1 t1
  go_wp2_with fail
  go_loopw [3, 4, 5, 6, 7, 8, 9, 10] (fun v3 _ _ _ _ _ _ _ wr => ∃ k : Nat, v3 = .int .i64 k ∧ k ≤ 2 ∧ Below w.heap.size w wr ∧ Blk wr q 41 #[.int .u8 a.kind, .int .i64 a.s.trace, .int .i64 a.s.id, .int .i64 a.s.parent, .string a.s.service, .string a.s.host, .int .i64 a.s.start, .int .i64 a.s.dur, .string a.s.note, .int .i64 a.n, .int .i64 a.m, .slice kx kn kc]) (fun v3 _ _ _ _ _ _ _ _ => 2 - (intOf v3).toNat)
  case atStart => exact ⟨0, rfl, by omega, HB.out, HX.out⟩
  case round =>
    obtain ⟨k, rfl, hk, hbe, hx⟩ := hrel
    have HBE := Lib.hid hbe
    have HXE := Lib.hid hx
    clear hbe hx
    rcases (show k = 0 ∨ k = 1 ∨ k = 2 by omega) with rfl | rfl | rfl
    · obtain ⟨y0, hy0⟩ : ∃ y0, y0 = wr := ⟨_, rfl⟩
      rw [← hy0] at HBE HXE ⊢
      clear hy0
      have HBy0 := HBE
      have HXy0 := HXE
      have HNy0 := Lib.hid (show NilL y0 (.pointer none) from .inl rfl)
      have HDy0 := Lib.hid (show NilD y0 (.pointer none) from .inl rfl)
      clear HBE HXE
      have x1 := HXy0.out.cell 1
      have x2 := HXy0.out.cell 2
      have x3 := HXy0.out.cell 3
      have x4 := HXy0.out.cell 4
      have x5 := HXy0.out.cell 5
      have x6 := HXy0.out.cell 6
      have x7 := HXy0.out.cell 7
      have x8 := HXy0.out.cell 8
      have x9 := HXy0.out.cell 9
      have x10 := HXy0.out.cell 10
      simp only [List.getElem?_toArray, List.getElem?_cons_zero, List.getElem?_cons_succ] at x1 x2 x3 x4 x5 x6 x7 x8 x9 x10
      go_wp2_with fail
      refine (hread_nil HNy0.out a.n a.m).mono ?_
      rintro e y1 ⟨rfl, hbz⟩
      have HBy1 := Lib.hid ((HBy0.out).trans (hbz.mono (HBy0.out).size))
      have HXy1 := Lib.hid (HXy0.out.below hbz)
      have HNy1 := Lib.hid (HNy0.out.below hbz)
      have HDy1 := Lib.hid (HDy0.out.below hbz)
      clear hbz x1 x2 x3 x4 x5 x6 x7 x8 x9 x10
      go_wp2_with fail
      refine (hopen_nil HDy1.out).mono ?_
      rintro e y2 ⟨rfl, hbz⟩
      have HBy2 := Lib.hid ((HBy1.out).trans (hbz.mono (HBy1.out).size))
      have HXy2 := Lib.hid (HXy1.out.below hbz)
      have HNy2 := Lib.hid (HNy1.out.below hbz)
      clear hbz
      have x1 := HXy2.out.cell 1
      have x2 := HXy2.out.cell 2
      have x3 := HXy2.out.cell 3
      have x4 := HXy2.out.cell 4
      have x5 := HXy2.out.cell 5
      have x6 := HXy2.out.cell 6
      have x7 := HXy2.out.cell 7
      have x8 := HXy2.out.cell 8
      have x9 := HXy2.out.cell 9
      have x10 := HXy2.out.cell 10
      simp only [List.getElem?_toArray, List.getElem?_cons_zero, List.getElem?_cons_succ] at x1 x2 x3 x4 x5 x6 x7 x8 x9 x10
      have HAP := Lib.hid (happend_nil_log HNy2.out a.s)
      unfold spV at HAP
      go_wp2_with fail
      refine HAP.out.mono ?_
      rintro e y3 ⟨rfl, hbz⟩
      have HBy3 := Lib.hid ((HBy2.out).trans (hbz.mono (HBy2.out).size))
      have HXy3 := Lib.hid (HXy2.out.below hbz)
      have HNy3 := Lib.hid (HNy2.out.below hbz)
      clear hbz x1 x2 x3 x4 x5 x6 x7 x8 x9 x10
      go_wp2_with fail
      refine (hsync_nil HNy3.out).mono ?_
      rintro e y4 ⟨rfl, hbz⟩
      have HBy4 := Lib.hid ((HBy3.out).trans (hbz.mono (HBy3.out).size))
      have HXy4 := Lib.hid (HXy3.out.below hbz)
      have HNy4 := Lib.hid (HNy3.out.below hbz)
      clear hbz
      go_wp2_with fail
      refine (hrotate_nil HNy4.out).mono ?_
      rintro e y5 ⟨rfl, hbz⟩
      have HBy5 := Lib.hid ((HBy4.out).trans (hbz.mono (HBy4.out).size))
      have HXy5 := Lib.hid (HXy4.out.below hbz)
      have HNy5 := Lib.hid (HNy4.out.below hbz)
      clear hbz
      have x1 := HXy5.out.cell 1
      have x2 := HXy5.out.cell 2
      have x3 := HXy5.out.cell 3
      have x4 := HXy5.out.cell 4
      have x5 := HXy5.out.cell 5
      have x6 := HXy5.out.cell 6
      have x7 := HXy5.out.cell 7
      have x8 := HXy5.out.cell 8
      have x9 := HXy5.out.cell 9
      have x10 := HXy5.out.cell 10
      simp only [List.getElem?_toArray, List.getElem?_cons_zero, List.getElem?_cons_succ] at x1 x2 x3 x4 x5 x6 x7 x8 x9 x10
      go_wp2_with fail
      refine (hretain_nil HNy5.out a.n).mono ?_
      rintro e y6 ⟨rfl, hbz⟩
      have HBy6 := Lib.hid ((HBy5.out).trans (hbz.mono (HBy5.out).size))
      have HXy6 := Lib.hid (HXy5.out.below hbz)
      have HNy6 := Lib.hid (HNy5.out.below hbz)
      clear hbz
      clear x1 x2 x3 x4 x5 x6 x7 x8 x9 x10
      go_wp2_with fail
      refine (hfirst_nil HNy6.out).mono ?_
      rintro e y7 ⟨rfl, hbz⟩
      have HBy7 := Lib.hid ((HBy6.out).trans (hbz.mono (HBy6.out).size))
      have HXy7 := Lib.hid (HXy6.out.below hbz)
      have HNy7 := Lib.hid (HNy6.out.below hbz)
      clear hbz
      go_wp2_with fail
      refine (hsure_nil HNy7.out).mono ?_
      rintro e y8 ⟨rfl, hbz⟩
      have HBy8 := Lib.hid ((HBy7.out).trans (hbz.mono (HBy7.out).size))
      have HXy8 := Lib.hid (HXy7.out.below hbz)
      have HNy8 := Lib.hid (HNy7.out.below hbz)
      clear hbz
      go_wp2_with fail
      refine (hendn_nil HNy8.out).mono ?_
      rintro e y9 ⟨rfl, hbz⟩
      have HBy9 := Lib.hid ((HBy8.out).trans (hbz.mono (HBy8.out).size))
      have HXy9 := Lib.hid (HXy8.out.below hbz)
      have HNy9 := Lib.hid (HNy8.out.below hbz)
      clear hbz
      go_wp2_with fail
      refine (hsegments_nil HNy9.out).mono ?_
      rintro e y10 ⟨rfl, hbz⟩
      have HBy10 := Lib.hid ((HBy9.out).trans (hbz.mono (HBy9.out).size))
      have HXy10 := Lib.hid (HXy9.out.below hbz)
      have HNy10 := Lib.hid (HNy9.out.below hbz)
      clear hbz
      go_wp2_with fail
      go_roundw
      case rel => exact ⟨1, by go_num, by omega, HBy10.out, HXy10.out⟩
      case measure => simp [intOf]
    · obtain ⟨z1, hz1⟩ : ∃ z1, z1 = wr.alloc (.cells #[.pointer none, .int .i64 0, .bool false, .slice none 0 0] 46 (0, 0)) := ⟨_, rfl⟩
      have hbz1 : Below wr.heap.size wr z1 := by rw [hz1]; exact (Below.refl _ _).alloc (Nat.le_refl _) _
      have hkz1 : Blk z1 wr.heap.size 46 #[.pointer none, .int .i64 0, .bool false, .slice none 0 0] := by rw [hz1]; exact Blk.alloc_new wr _ _
      obtain ⟨y0, hy0⟩ : ∃ y0, y0 = z1.alloc (.cells #[.int .i64 0, .int .i64 0, .bool false, .map none, .nilFunc, .slice none 0 0] 49 (0, 0)) := ⟨_, rfl⟩
      have hby0 : Below z1.heap.size z1 y0 := by rw [hy0]; exact (Below.refl _ _).alloc (Nat.le_refl _) _
      have hky0 : Blk y0 z1.heap.size 49 #[.int .i64 0, .int .i64 0, .bool false, .map none, .nilFunc, .slice none 0 0] := by rw [hy0]; exact Blk.alloc_new z1 _ _
      have hzz : z1.heap.size = wr.heap.size + 1 := by rw [hz1]; exact Array.size_push _
      have hkl0 := hkz1.below hby0
      have hb00 := hbz1.trans (hby0.mono hbz1.size)
      have HBy0 := Lib.hid (HBE.out.trans (hb00.mono HBE.out.size))
      have HXy0 := Lib.hid (HXE.out.below hb00)
      have HNy0 := Lib.hid (show NilL y0 (.pointer (some ⟨wr.heap.size, 0, none⟩)) from .inr ⟨_, rfl, hkl0.lt, hkl0.cell 0, hkl0.cell 3⟩)
      have HDy0 := Lib.hid (show NilD y0 (.pointer (some ⟨wr.heap.size + 1, 0, none⟩)) from .inr ⟨_, rfl, by rw [← hzz]; exact hky0.lt, by rw [← hzz]; exact hky0.cell 3⟩)
      have x9 := HXy0.out.cell 9
      have x10 := HXy0.out.cell 10
      simp only [List.getElem?_toArray, List.getElem?_cons_zero, List.getElem?_cons_succ] at x9 x10
      rw [hz1] at hy0
      rw [hy0] at x9 x10
      have HY0 := Lib.hid hy0
      clear hz1 hbz1 hkz1 hby0 hky0 hzz hkl0 hb00 hy0
      go_wp2_with fail
      rw [← HY0.out]
      clear x9 x10
      refine (hread_nil HNy0.out a.n a.m).mono ?_
      rintro e y1 ⟨rfl, hbz⟩
      have HBy1 := Lib.hid ((HBy0.out).trans (hbz.mono (HBy0.out).size))
      have HXy1 := Lib.hid (HXy0.out.below hbz)
      have HNy1 := Lib.hid (HNy0.out.below hbz)
      have HDy1 := Lib.hid (HDy0.out.below hbz)
      clear hbz
      go_wp2_with fail
      refine (hopen_nil HDy1.out).mono ?_
      rintro e y2 ⟨rfl, hbz⟩
      have HBy2 := Lib.hid ((HBy1.out).trans (hbz.mono (HBy1.out).size))
      have HXy2 := Lib.hid (HXy1.out.below hbz)
      have HNy2 := Lib.hid (HNy1.out.below hbz)
      clear hbz
      have x1 := HXy2.out.cell 1
      have x2 := HXy2.out.cell 2
      have x3 := HXy2.out.cell 3
      have x4 := HXy2.out.cell 4
      have x5 := HXy2.out.cell 5
      have x6 := HXy2.out.cell 6
      have x7 := HXy2.out.cell 7
      have x8 := HXy2.out.cell 8
      have x9 := HXy2.out.cell 9
      have x10 := HXy2.out.cell 10
      simp only [List.getElem?_toArray, List.getElem?_cons_zero, List.getElem?_cons_succ] at x1 x2 x3 x4 x5 x6 x7 x8 x9 x10
      have HAP := Lib.hid (happend_nil_log HNy2.out a.s)
      unfold spV at HAP
      go_wp2_with fail
      refine HAP.out.mono ?_
      rintro e y3 ⟨rfl, hbz⟩
      have HBy3 := Lib.hid ((HBy2.out).trans (hbz.mono (HBy2.out).size))
      have HXy3 := Lib.hid (HXy2.out.below hbz)
      have HNy3 := Lib.hid (HNy2.out.below hbz)
      clear hbz x1 x2 x3 x4 x5 x6 x7 x8 x9 x10
      go_wp2_with fail
      refine (hsync_nil HNy3.out).mono ?_
      rintro e y4 ⟨rfl, hbz⟩
      have HBy4 := Lib.hid ((HBy3.out).trans (hbz.mono (HBy3.out).size))
      have HXy4 := Lib.hid (HXy3.out.below hbz)
      have HNy4 := Lib.hid (HNy3.out.below hbz)
      clear hbz
      go_wp2_with fail
      refine (hrotate_nil HNy4.out).mono ?_
      rintro e y5 ⟨rfl, hbz⟩
      have HBy5 := Lib.hid ((HBy4.out).trans (hbz.mono (HBy4.out).size))
      have HXy5 := Lib.hid (HXy4.out.below hbz)
      have HNy5 := Lib.hid (HNy4.out.below hbz)
      clear hbz
      have x1 := HXy5.out.cell 1
      have x2 := HXy5.out.cell 2
      have x3 := HXy5.out.cell 3
      have x4 := HXy5.out.cell 4
      have x5 := HXy5.out.cell 5
      have x6 := HXy5.out.cell 6
      have x7 := HXy5.out.cell 7
      have x8 := HXy5.out.cell 8
      have x9 := HXy5.out.cell 9
      have x10 := HXy5.out.cell 10
      simp only [List.getElem?_toArray, List.getElem?_cons_zero, List.getElem?_cons_succ] at x1 x2 x3 x4 x5 x6 x7 x8 x9 x10
      go_wp2_with fail
      refine (hretain_nil HNy5.out a.n).mono ?_
      rintro e y6 ⟨rfl, hbz⟩
      have HBy6 := Lib.hid ((HBy5.out).trans (hbz.mono (HBy5.out).size))
      have HXy6 := Lib.hid (HXy5.out.below hbz)
      have HNy6 := Lib.hid (HNy5.out.below hbz)
      clear hbz
      clear x1 x2 x3 x4 x5 x6 x7 x8 x9 x10
      go_wp2_with fail
      refine (hfirst_nil HNy6.out).mono ?_
      rintro e y7 ⟨rfl, hbz⟩
      have HBy7 := Lib.hid ((HBy6.out).trans (hbz.mono (HBy6.out).size))
      have HXy7 := Lib.hid (HXy6.out.below hbz)
      have HNy7 := Lib.hid (HNy6.out.below hbz)
      clear hbz
      go_wp2_with fail
      refine (hsure_nil HNy7.out).mono ?_
      rintro e y8 ⟨rfl, hbz⟩
      have HBy8 := Lib.hid ((HBy7.out).trans (hbz.mono (HBy7.out).size))
      have HXy8 := Lib.hid (HXy7.out.below hbz)
      have HNy8 := Lib.hid (HNy7.out.below hbz)
      clear hbz
      go_wp2_with fail
      refine (hendn_nil HNy8.out).mono ?_
      rintro e y9 ⟨rfl, hbz⟩
      have HBy9 := Lib.hid ((HBy8.out).trans (hbz.mono (HBy8.out).size))
      have HXy9 := Lib.hid (HXy8.out.below hbz)
      have HNy9 := Lib.hid (HNy8.out.below hbz)
      clear hbz
      go_wp2_with fail
      refine (hsegments_nil HNy9.out).mono ?_
      rintro e y10 ⟨rfl, hbz⟩
      have HBy10 := Lib.hid ((HBy9.out).trans (hbz.mono (HBy9.out).size))
      have HXy10 := Lib.hid (HXy9.out.below hbz)
      have HNy10 := Lib.hid (HNy9.out.below hbz)
      clear hbz
      go_wp2_with fail
      go_roundw
      case rel => exact ⟨2, by go_num, by omega, HBy10.out, HXy10.out⟩
      case measure => simp [intOf]
    · go_wp2_with fail
      refine (live_new 100 wr (by omega) (by omega)).mono ?_
      rintro e y1 ⟨v, rfl, hl1⟩
      obtain ⟨bd, rfl⟩ := hl1.ptr
      have HL1 := Lib.hid hl1
      have hcr := hl1.crash (.slice none 0 0) [] (keepR_nil _ _) (by simp)
      have HCR := Lib.hid hcr
      clear hl1 hcr
      go_wp2_with fail
      refine HCR.out.mono ?_
      rintro e y2 ⟨rfl, hl2, _⟩
      have HL2 := Lib.hid hl2
      clear hl2
      go_wp2_with fail
      refine (hopen_down HL2.out rfl).mono ?_
      rintro e y3 ⟨rfl, hl3, _⟩
      have HL3 := Lib.hid (HBE.out.trans (hl3.below.mono HBE.out.size))
      clear hl3
      go_wp2_with fail
      refine (hdoesEx_any y3 (HE.out.below HL3.out)).mono ?_
      rintro e y4 ⟨rfl, hb4⟩
      have HB4 := Lib.hid (HL3.out.trans (hb4.mono HL3.out.size))
      clear hb4
      go_wp2_with fail
      go_ret
      exact ⟨rfl, HB4.out⟩
theorem walkHostlogNone (a : HAct) (w : World) (h0 : HActOk w w.heap.size a) (he : LEnv w) :
    Calls Tryz.prog 4 #[.agg (hactC a).toArray] w fun e w' => e = .returned (.bool true) ∧ Below w.heap.size w w' := hostlogNone_any a w h0 he
end Go.Proofs.YtiepipcankhdnaaGreatDoor
