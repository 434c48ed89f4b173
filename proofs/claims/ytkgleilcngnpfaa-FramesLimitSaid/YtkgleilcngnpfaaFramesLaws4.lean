/- 'FramesLimit', walked: a payload of as many bytes as may be, or a few less, or of one more. -/
import Derived.Test.YtkgleilcngnpfaaFramesRef2
import Derived.Test.YtkgleilcngnpfaaKnown
import Derived.Test.YtkgleilcngnpfaaFramesLaws
namespace Go.Proofs.Ytkgleilcngnpfaa
open Go.RowKit

theorem OwnB.row {w : World} {B : Nat} {v : Value} {l : List UInt8} (h : OwnB w B v l) (hl : 0 < l.length) : ∃ b cap, v = .slice (some ⟨b, 0, none⟩) l.length cap ∧ B ≤ b ∧ BRow w b l := by
  obtain ⟨_, h | ⟨g, cap, cur, hv, hg, hh, hn, hm, hs, ht⟩⟩ := h
  · omega
  · refine ⟨g, cap, hv, hg, cur, _, 0, 0, hh, .inr rfl, fun j hj => ?_⟩
    have e : (cur.toList.take (l.length * 1))[j]? = (l.map byteV)[j]? := by rw [ht]
    rw [Nat.mul_one, List.getElem?_take, if_pos hj, List.getElem?_map, List.getElem?_eq_getElem hj] at e
    rw [← Array.getElem?_toList, e]
    rfl
/-- So many bytes of which the first ones are laid. -/
def filled (m : Nat) (c : UInt8) (i : Nat) : List UInt8 := List.replicate i c ++ List.replicate (m - i) 0
theorem filled_length (m : Nat) (c : UInt8) (i : Nat) (h : i ≤ m) : (filled m c i).length = m := by simp [filled]; omega
theorem filled_set (m : Nat) (c : UInt8) (i : Nat) (h : i < m) : (filled m c i).set i c = filled m c (i + 1) := by
  unfold filled
  rw [List.set_append_right _ _ (by simp), List.length_replicate, Nat.sub_self]
  rw [show m - i = (m - (i + 1)) + 1 from by omega, List.replicate_succ, List.set_cons_zero, List.replicate_succ' (n := i), List.append_assoc]
  rfl
theorem limit_calls (T : ByteArray) (hT : T.size ≤ 16384) : ∃ F : ByteArray, F.size = T.size + 8 ∧
    (∀ W : World, Calls Try.prog 13 #[.string T] W fun e w' => e = .returned (.tuple #[.string F, .int .i64 0]) ∧ Below W.heap.size W w') ∧
    (∀ W : World, Calls Try.prog 15 #[.string ((ByteArray.mk #[120]) ++ F), .int .i64 1] W fun e w' => e = .returned (.tuple #[.string T, .int .i64 ((T.size : Int) + 9), .bool true]) ∧ Below W.heap.size W w') := by
  have hl : T.data.toList.length = T.size := by simp
  refine ⟨_, by show (Frm.frame T.data.toList).toArray.size = _; rw [List.size_toArray, Frm.frame_length, hl], fun W => frame_short T W hT, fun W => ?_⟩
  have hs : ((ByteArray.mk #[120]) ++ (⟨(Frm.frame T.data.toList).toArray⟩ : ByteArray)).data.toList = 120 :: Frm.frame T.data.toList := by
    rw [data_append]; rfl
  have hz : ((ByteArray.mk #[120]) ++ (⟨(Frm.frame T.data.toList).toArray⟩ : ByteArray)).size = T.size + 9 := by
    rw [← len_list, hs, List.length_cons, Frm.frame_length, hl]
  have h := next_in ((ByteArray.mk #[120]) ++ (⟨(Frm.frame T.data.toList).toArray⟩ : ByteArray)) 1 W (by omega) (by omega)
  have e : Frm.nextAt ((120 :: Frm.frame T.data.toList).drop 1) = some T.data.toList := (Frm.nextAt_some _ _).2 ⟨by omega, List.prefix_refl _⟩
  rw [nextR, hs, e] at h
  simp only [hl] at h
  rw [show ((1 + T.size + 8 : Nat) : Int) = (T.size : Int) + 9 from by omega] at h
  exact h

set_option maxHeartbeats 1000000 in
theorem walkFramesLimit (over c : Int) (w : World) (ho : 0 ≤ over ∧ over ≤ 255) (hc : 0 ≤ c ∧ c ≤ 255) :
    Calls Try.prog 6 #[.int .u8 over, .int .u8 c] w fun e w' => e = .returned (.bool true) ∧ Below w.heap.size w w' := by
  obtain ⟨cc, rfl⟩ : ∃ cc : UInt8, c = (cc.toNat : Int) := ⟨UInt8.ofNat c.toNat, by rw [UInt8.toNat_ofNat_of_lt' (by show _ < 256; omega)]; omega⟩
  obtain ⟨m, hm, hm1, hm2⟩ : ∃ m : Nat, 16382 + over % 5 = (m : Int) ∧ 16382 ≤ m ∧ m ≤ 16386 := ⟨(16382 + over % 5).toNat, by omega, by omega, by omega⟩
  have Hm := Lib.hid hm
  clear hm
  go_enter Try.func6, Try.ntmps6
  go_wp2_with (first | (refine wpList_make_full_bytes rfl _ _ rfl w.heap.size .i64 .i64 _ _ m rfl rfl Hm.out Hm.out (by omega) (Nat.le_refl _) ?_; intro v1 w1 hown hbel; obtain ⟨b, cap, hv, hgb, hrow⟩ := hown.row (by rw [List.length_replicate]; omega); rw [List.length_replicate] at hv; subst hv; have Hrow := Lib.hid hrow; have Hbel := Lib.hid hbel; clear hrow hbel hown))
  simp only [Hm.out]
  have Hat : BRow w1 b (filled m cc 0) := by
    have e : filled m cc 0 = List.replicate m 0 := by simp [filled]
    rw [e]; exact Hrow.out
  clear Hrow Hm
  go_loopw [7] (fun v7 wr => ∃ i : Nat, v7 = .int .i64 i ∧ i ≤ m ∧ BRow wr b (filled m cc i) ∧ Below w.heap.size w wr) (fun v7 _ => m - (intOf v7).toNat)
  case atStart => exact ⟨0, rfl, Nat.zero_le _, Hat, Hbel.out⟩
  case round =>
    clear Hat Hbel
    obtain ⟨i, rfl, hi, hrow, hbel⟩ := hrel
    have Hrow := Lib.hid hrow
    have Hbel := Lib.hid hbel
    clear hbel
    by_cases hlt : i < m
    · have q0 := hrow.cell i (by rw [filled_length _ _ _ hi]; exact hlt)
      have q1 := hrow.free i (by rw [filled_length _ _ _ hi]; exact hlt)
      have hs := hrow.set i cc
      rw [filled_set _ _ _ hlt] at hs
      have Hs := Lib.hid hs
      generalize ((filled m cc i)[i]'(by rw [filled_length _ _ _ hi]; exact hlt)) = old at q0
      clear hrow hs
      go_wp2_with fail
      refine ⟨⟨i + 1, by go_num, by omega, Hs.out, Hbel.out.setCell (p := ⟨b, i, none⟩) hgb _⟩, ?_⟩
      simp [intOf]; omega
    · obtain rfl : i = m := by omega
      have hT : (ByteArray.mk (filled i cc i).toArray).size = i := by show (filled i cc i).toArray.size = _; simp [filled_length]
      have hfl := filled_length i cc i (Nat.le_refl _)
      generalize filled i cc i = L at *
      have Hfl := Lib.hid hfl
      clear hrow hfl
      by_cases hlong : 16384 < i
      · have hlong2 : (16384 : Int) < i := by omega
        have hF := fun W : World => frame_long (ByteArray.mk L.toArray) W (by omega)
        have HF := Lib.hid hF
        clear hF
        go_wp2_with (refine wpList_text_of rfl _ rfl b i cap rfl L Hfl.out Hrow.out ?_)
        refine (HF.out _).mono ?_
        rintro e w2 ⟨rfl, hb2⟩
        have Hb2 := Lib.hid (Hbel.out.trans (hb2.mono Hbel.out.size))
        clear hb2
        go_wp2_with fail
        refine (known_any _).mono ?_
        rintro e w3 ⟨rfl, hb3⟩
        have Hb3 := Lib.hid (Hb2.out.trans (hb3.mono Hb2.out.size))
        clear hb3
        go_wp2_with fail
        go_ret
        exact ⟨rfl, Hb3.out⟩
      · have hlong2 : ¬ (16384 : Int) < i := by omega
        obtain ⟨F, hFz, hF, hN⟩ := limit_calls (ByteArray.mk L.toArray) (by omega)
        rw [hT] at hN hFz
        have hz1 : (ByteArray.mk #[120]).size = 1 := rfl
        have HF := Lib.hid hF
        have HN := Lib.hid hN
        clear hF hN
        go_wp2_with (refine wpList_text_of rfl _ rfl b i cap rfl L Hfl.out Hrow.out ?_)
        refine (HF.out _).mono ?_
        rintro e w2 ⟨rfl, hb2⟩
        have Hrow2 := Lib.hid (Hrow.out.below hb2)
        have Hb2 := Lib.hid (Hbel.out.trans (hb2.mono Hbel.out.size))
        clear hb2
        go_wp2_with fail
        refine (HN.out _).mono ?_
        rintro e w3 ⟨rfl, hb3⟩
        have hrow3 := Hrow2.out.below hb3
        have Hb3 := Lib.hid (Hb2.out.trans (hb3.mono Hb2.out.size))
        have q2 := hrow3.textn cap i Hfl.out
        clear hb3 hrow3
        go_wp2_with fail
        refine (known_any _).mono ?_
        rintro e w4 ⟨rfl, hb4⟩
        have Hb4 := Lib.hid (Hb3.out.trans (hb4.mono Hb3.out.size))
        clear hb4
        go_wp2_with fail
        go_ret
        exact ⟨rfl, Hb4.out⟩
end Go.Proofs.Ytkgleilcngnpfaa
