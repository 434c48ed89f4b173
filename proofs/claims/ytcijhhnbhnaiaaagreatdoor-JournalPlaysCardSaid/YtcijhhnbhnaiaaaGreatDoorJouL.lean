/- The chapter's journal, walked. -/
import Derived.Test.YtcijhhnbhnaiaaaGreatDoorJouLP
namespace Go.Proofs.YtcijhhnbhnaiaaaGreatDoor
set_option linter.unusedSimpArgs false
set_option linter.unusedVariables false
set_option maxRecDepth 100000
open Go.RowKit Go.Maps
open Dsk

theorem rdc_first {w : World} {b c : Nat} (h : RdC w (.slice (some ⟨b, 0, none⟩) 2 c) [jc1, jc2]) (hc : 1 ≤ c) : RdC w (.slice (some ⟨b, 0, none⟩) 1 c) [jc1] := by
  obtain ⟨x, c', e, _, h⟩ := h
  cases e
  refine ⟨_, c, rfl, hc, fun j hj => ?_⟩
  obtain rfl : j = 0 := by simp at hj; omega
  exact h 0 (by simp)
theorem open3 {w0 w : World} {X : Nat → Prop} {v : Value} (h : Live w0 X w v jd3) :
    Calls Tryz.prog 12 #[v, .int .i64 3] w (OpenPost w0 X w v jd3 1 3 [jc1, jc2]) := by
  have hz : (⟨jt1.toArray⟩ : ByteArray).size = jt1.length := List.size_toArray
  have hq := jopen_file (n := 3) (fr := 3) (d' := jd3) (ps := [jb1]) (en := jt1.length) (lots := [[jc1, jc2]]) h joff.2.2.1 jN3 (numOk_small w0 3 (by decide) (by decide)) (by decide) (by decide) ⟨jt1.toArray⟩ (by rw [hz, jlen.1]; decide) (by simpa using jr3)
    (by rw [hz]; exact jw1) (by rw [hz]; exact Nat.le_refl _) rfl (by decide) (fun k hk hk' => by
      obtain rfl : k = 0 := by simp at hk; omega
      exact ⟨jdec1, by show jb1.length ≤ 16384; rw [jlen.2.2.1]; decide⟩) (fun l hl => by
      obtain rfl : l = [jc1, jc2] := by simpa using hl
      simp) (fun hlt => by rw [hz] at hlt; omega) (fun _ => rfl)
  rw [jst.2.2.1] at hq
  exact hq
theorem open5 {w0 w : World} {X : Nat → Prop} {v : Value} (h : Live w0 X w v jd5) :
    Calls Tryz.prog 12 #[v, .int .i64 5] w (OpenPost w0 X w v jd5 1 5 [jc1]) := by
  have hz : (⟨jt5.toArray⟩ : ByteArray).size = jt5.length := List.size_toArray
  have hq := jopen_file (n := 5) (fr := 5) (d' := jd5) (ps := [jb5]) (en := jt5.length) (lots := [[jc1]]) h joff.2.2.2.2 jN5 (numOk_small w0 5 (by decide) (by decide)) (by decide) (by decide) ⟨jt5.toArray⟩ (by rw [hz, jlen.2.1]; decide) (by simpa using jr5)
    (by rw [hz]; exact jw5) (by rw [hz]; exact Nat.le_refl _) rfl (by decide) (fun k hk hk' => by
      obtain rfl : k = 0 := by simp at hk; omega
      exact ⟨jdec5, by show jb5.length ≤ 16384; rw [jlen.2.2.2]; decide⟩) (fun l hl => by
      obtain rfl : l = [jc1] := by simpa using hl
      simp) (fun hlt => by rw [hz] at hlt; omega) (fun _ => rfl)
  rw [jst.2.2.2.2] at hq
  exact hq
theorem tsum1 : tsum [⟨jt1.toArray⟩] = 17 := by
  unfold tsum
  have hz : (⟨jt1.toArray⟩ : ByteArray).size = jt1.length := List.size_toArray
  simp only [List.map_cons, List.map_nil, List.sum_cons, List.sum_nil]
  rw [hz, jlen.1]
  rfl
set_option maxHeartbeats 4000000 in
theorem jlives_any (w : World) : Calls Tryz.prog 10 #[] w fun e w' => e = .returned (.bool true) ∧ Below w.heap.size w w' := by
  have HN3 := Lib.hid (numOk_small w 3 (by decide) (by decide))
  have HN5 := Lib.hid (numOk_small w 5 (by decide) (by decide))
  go_enter Tryz.func10, Tryz.ntmps10
  go_wp2_with fail
  refine (live_new 10000 w (by omega) (by omega)).mono ?_
  rintro e w1 ⟨v, rfl, h1⟩
  obtain ⟨bd, rfl⟩ := h1.ptr
  have H1 := Lib.hid (show Live w (fun _ => False) w1 (.pointer (some ⟨bd, 0, none⟩)) jd0 from h1)
  clear h1
  go_wp2_with fail
  refine (jopen_new (fr := 3) H1.out joff.1 jN0 (by decide)).mono ?_
  rintro e w2 ⟨j, Y, rfl, _, hj, _⟩
  rw [jst.1] at hj
  have HJ2 := Lib.hid hj
  clear hj H1
  go_wp2_with fail
  refine (two_any w2).mono ?_
  rintro e w3 ⟨rfl, hr, hb⟩
  have HJ3 := Lib.hid (HJ2.out.below hb)
  have HR3 := Lib.hid hr
  clear hr hb HJ2
  go_wp2_with fail
  have ha := japp_any (n := 3) HJ3.out joff.1 jst.1 HN3.out HR3.out (by simp) (fun c hc => (jmay c hc).2)
  rw [ja1] at ha
  refine ha.mono ?_
  rintro e w4 ⟨rfl, hj, _⟩
  have HJ4 := Lib.hid (show JS w Y w4 (.pointer (some ⟨bd, 0, none⟩)) jd1 j 0 false 3 from hj)
  clear hj ha HJ3 HR3
  go_wp2_with fail
  refine (jnum_ok HJ4.out joff.2.1 jst.2.1).mono ?_
  rintro e w5 ⟨rfl, hb⟩
  have HJ5 := Lib.hid (HJ4.out.below hb)
  clear hb HJ4
  go_wp2_with fail
  have hs := jsize_any (ns := [3]) (ts := [⟨jt1.toArray⟩]) HJ5.out joff.2.1 jst.2.1 jN1 (by simp) (fun n hn => by obtain rfl : n = 3 := (by simpa using hn); exact HN3.out) rfl (fun t ht => by
    obtain rfl : t = ⟨jt1.toArray⟩ := by simpa using ht
    have hz : (⟨jt1.toArray⟩ : ByteArray).size = jt1.length := List.size_toArray
    rw [hz, jlen.1]; decide) (fun k hk hk' => by
    obtain rfl : k = 0 := by simp at hk; omega
    simpa using jr1)
  rw [tsum1] at hs
  refine hs.mono ?_
  rintro e w6 ⟨rfl, hb⟩
  have HJ6 := Lib.hid (HJ5.out.below hb)
  clear hb hs HJ5
  go_wp2_with fail
  refine (HJ6.out.live.crashP (.slice none 0 0) [] (keepR_nil _ _) (by decide) jcr).mono ?_
  rintro e w7 ⟨rfl, hl, _⟩
  have HL7 := Lib.hid hl
  clear hl HJ6
  go_wp2_with fail
  refine (HL7.out.startK jsr).mono ?_
  rintro e w8 ⟨rfl, hl, _⟩
  have HL8 := Lib.hid hl
  clear hl HL7
  go_wp2_with fail
  refine (open3 HL8.out).mono ?_
  rintro e w9 ⟨o, u, Y2, rfl, _, hj, hu, _, _, _⟩
  obtain ⟨ux, uc, hus, _⟩ := hu.rd
  have hus2 : u = .slice ux 2 uc := hus
  subst hus2
  have HJ9 := Lib.hid (show JS w Y2 w9 (.pointer (some ⟨bd, 0, none⟩)) jd3 o 1 false 3 from hj)
  have HU9 := Lib.hid hu.rd
  clear hj hu hus HL8
  go_wp2_with fail
  refine (two_any w9).mono ?_
  rintro e w10 ⟨rfl, hr, hb⟩
  have HJ10 := Lib.hid (HJ9.out.below hb)
  have HSC := Lib.hid (sameCells_any _ _ _ _ w10 (HU9.out.below hb) hr (by simp) (by simp))
  rw [sameC_true rfl] at HSC
  clear hr hb HJ9 HU9
  go_wp2_with fail
  refine HSC.out.mono ?_
  rintro e w11 ⟨rfl, hb⟩
  have HJ11 := Lib.hid (HJ10.out.below hb)
  clear hb HJ10 HSC
  go_wp2_with fail
  refine (jbegin_ok (n := 5) (d' := jd4) HJ11.out joff.2.2.1 jst.2.2.1 (by decide) (fun W _ hW => jclear_one (n := 3) hW jN3 HN3.out 5 (by decide) jrm)).mono ?_
  rintro e w12 ⟨rfl, hj, _⟩
  have HJ12 := Lib.hid hj
  clear hj HJ11
  go_wp2_with fail
  refine (two_any w12).mono ?_
  rintro e w13 ⟨rfl, hr, hb⟩
  have HJ13 := Lib.hid (HJ12.out.below hb)
  have HR13 := Lib.hid (rdc_first hr (by decide))
  clear hr hb HJ12
  go_wp2_with fail
  have ha := japp_any (n := 5) HJ13.out joff.2.2.2.1 jst.2.2.2.1 HN5.out HR13.out (by simp) (fun c hc => (jmay c (by simp at hc; subst hc; simp)).2)
  rw [ja5] at ha
  refine ha.mono ?_
  rintro e w14 ⟨rfl, hj, _⟩
  have HJ14 := Lib.hid hj
  clear hj ha HJ13 HR13
  go_wp2_with fail
  refine (jbegin_bad HJ14.out joff.2.2.2.2 jst.2.2.2.2 5 (.inl (by decide))).mono ?_
  rintro e w15 ⟨rfl, hb⟩
  have HJ15 := Lib.hid (HJ14.out.below hb)
  clear hb HJ14
  go_wp2_with fail
  have ha := japp_any (n := 5) HJ15.out joff.2.2.2.2 jst.2.2.2.2 HN5.out (RdC.nil w15) (by simp) (fun c hc => by cases hc)
  rw [ja0] at ha
  refine ha.mono ?_
  rintro e w16 ⟨rfl, hj, _⟩
  have HJ16 := Lib.hid hj
  clear hj ha HJ15
  go_wp2_with fail
  refine (open5 HJ16.out.live).mono ?_
  rintro e w17 ⟨o2, u2, Y3, rfl, _, hj, hu, _, _, _⟩
  obtain ⟨ux2, uc2, hus2, _⟩ := hu.rd
  have hus3 : u2 = .slice ux2 1 uc2 := hus2
  subst hus3
  have HJ17 := Lib.hid hj
  have HU17 := Lib.hid hu.rd
  clear hj hu hus2 HJ16
  go_wp2_with fail
  refine (two_any w17).mono ?_
  rintro e w18 ⟨rfl, hr, hb⟩
  have HJ18 := Lib.hid (HJ17.out.below hb)
  have HSC := Lib.hid (sameCells_any _ _ _ _ w18 (HU17.out.below hb) (rdc_first hr (by decide)) (by simp) (by simp))
  rw [sameC_true rfl] at HSC
  clear hr hb HJ17 HU17
  go_wp2_with fail
  refine HSC.out.mono ?_
  rintro e w19 ⟨rfl, hb⟩
  have HB := Lib.hid (HJ18.out.below hb).live.below
  clear hb HJ18 HSC
  go_wp2_with fail
  go_ret
  exact ⟨rfl, HB.out⟩
end Go.Proofs.YtcijhhnbhnaiaaaGreatDoor
