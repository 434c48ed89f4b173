/- The payloads of a text, one behind the other; the document's own functions on frames: the walks. -/
import Derived.Test.YtcijhhnbhnaiaaaGreatDoorFrames
import Derived.Test.YtcijhhnbhnaiaaaGreatDoorTexts
namespace Go.Proofs.YtcijhhnbhnaiaaaGreatDoor
open Go.RowKit

def strOf (l : List UInt8) : ByteArray := ⟨l.toArray⟩

theorem whole_step (l : List UInt8) (k : Nat) (acc : List (List UInt8)) (p : List UInt8) (hn : Frm.nextAt (l.drop k) = some p)
    (h : Frm.whole l.length l = (acc ++ (Frm.whole l.length (l.drop k)).1, k + (Frm.whole l.length (l.drop k)).2)) :
    Frm.whole l.length l = (acc ++ [p] ++ (Frm.whole l.length (l.drop (k + p.length + 8))).1, k + p.length + 8 + (Frm.whole l.length (l.drop (k + p.length + 8))).2) ∧ k + p.length + 8 ≤ l.length := by
  obtain ⟨hp, hpre⟩ := (Frm.nextAt_some _ _).1 hn
  have hle := hpre.length_le
  rw [Frm.frame_length, List.length_drop] at hle
  have e1 : Frm.whole l.length (l.drop k) = Frm.whole (l.length + 1) (l.drop k) := Frm.whole_fuel _ _ _ (by rw [List.length_drop]; omega) (by rw [List.length_drop]; omega)
  have e2 : Frm.whole (l.length + 1) (l.drop k) = (p :: (Frm.whole l.length (l.drop (k + p.length + 8))).1, p.length + 8 + (Frm.whole l.length (l.drop (k + p.length + 8))).2) := by
    rw [Frm.whole, hn]
    simp only [List.drop_drop]
    rw [show k + (p.length + 8) = k + p.length + 8 by omega]
  rw [e1, e2] at h
  refine ⟨?_, by omega⟩
  rw [h]
  simp only [List.append_assoc, List.singleton_append, Prod.mk.injEq, true_and]
  omega
theorem whole_stop (l : List UInt8) (k : Nat) (acc : List (List UInt8)) (hn : Frm.nextAt (l.drop k) = none)
    (h : Frm.whole l.length l = (acc ++ (Frm.whole l.length (l.drop k)).1, k + (Frm.whole l.length (l.drop k)).2)) : Frm.whole l.length l = (acc, k) := by
  have e1 : Frm.whole l.length (l.drop k) = Frm.whole (l.length + 1) (l.drop k) := Frm.whole_fuel _ _ _ (by rw [List.length_drop]; omega) (by rw [List.length_drop]; omega)
  have e2 : Frm.whole (l.length + 1) (l.drop k) = ([], 0) := by rw [Frm.whole, hn]
  rw [e1, e2] at h
  simpa using h
theorem ret_vi {k : IntKind} {v : Value} {a b : Int} (h : a = b) : Ending.returned (.tuple #[v, .int k a]) = .returned (.tuple #[v, .int k b]) := by rw [h]

set_option maxHeartbeats 1000000 in
theorem fwhole_any (s : ByteArray) (w : World) (hm : s.size ≤ 8796093022207) :
    Calls Tryz.prog 63 #[.string s] w fun e w' => (∃ v, e = .returned (.tuple #[v, .int .i64 (Frm.whole s.size s.data.toList).2]) ∧ OwnS w' w.heap.size v ((Frm.whole s.size s.data.toList).1.map strOf)) ∧ Below w.heap.size w w' := by
  have hsl : s.data.toList.length = s.size := by simp
  rw [← hsl]
  have Hsl := Lib.hid hsl
  clear hsl
  go_enter Tryz.func63, Tryz.ntmps63
  go_wp2_with fail
  go_loopw [2, 3] (fun v i wr => ∃ (k : Nat) (acc : List (List UInt8)), k ≤ s.size ∧ i = .int .i64 k ∧ acc.length ≤ k ∧ OwnS wr w.heap.size v (acc.map strOf) ∧ Below w.heap.size w wr ∧
    Frm.whole s.data.toList.length s.data.toList = (acc ++ (Frm.whole s.data.toList.length (s.data.toList.drop k)).1, k + (Frm.whole s.data.toList.length (s.data.toList.drop k)).2)) (fun _ i _ => s.size - (intOf i).toNat)
  case atStart => exact ⟨0, [], Nat.zero_le _, rfl, Nat.le_refl _, OwnS.nil _ _, Below.refl _ _, by simp⟩
  case round =>
    obtain ⟨k, acc, hk, rfl, hacc, hown, hbel, hinv⟩ := hrel
    have Hown := Lib.hid hown
    have Hbel := Lib.hid hbel
    have hz := hbel.size
    clear hown hbel
    go_wp2_with fail
    refine (next_in s k _ (by omega) hk).mono ?_
    rintro e w1 ⟨rfl, hb1⟩
    have Hown1 := Lib.hid (Hown.out.kept hb1)
    have Hbel1 := Lib.hid (Hbel.out.trans (hb1.mono hz))
    have hz1 := Hbel1.out.size
    clear hb1 Hown Hbel hz
    cases hn : Frm.nextAt (s.data.toList.drop k) with
    | none =>
      have hv : nextR s.data.toList k = .tuple #[.string ⟨#[]⟩, .int .i64 0, .bool false] := by unfold nextR; rw [hn]
      rw [hv]
      have Hst := Lib.hid (whole_stop _ _ _ hn hinv)
      clear hv hn hinv
      go_wp2_with fail
      go_ret2
      exact ⟨⟨_, by rw [Hst.out]; rfl, by rw [Hst.out]; exact Hown1.out⟩, Hbel1.out⟩
    | some p =>
      have hv : nextR s.data.toList k = .tuple #[.string (strOf p), .int .i64 ((k + p.length + 8 : Nat) : Int), .bool true] := by unfold nextR; rw [hn]; rfl
      rw [hv]
      obtain ⟨hs1, hs2⟩ := whole_step _ _ _ _ hn hinv
      have hkb : k + p.length + 8 ≤ s.size := by rw [Hsl.out] at hs2; exact hs2
      have Hs1 := Lib.hid hs1
      clear hv hn hinv hs1 hs2
      go_wp2_with (refine wpList_append_str rfl (.tmp 18) (.tmp 20) rfl w.heap.size _ _ rfl (Hown1.out.alloc _) w1.heap.size rfl (strOf p) ((Blk.alloc_new w1 _ _).cell 0) (by rw [List.length_map]; omega) (by simp; omega) ?_; intro v2 w2 hown hbel; have Hown2 := Lib.hid hown; have Hbel2 := Lib.hid ((Hbel1.out.alloc hz1 _).trans hbel); clear hown hbel Hown1 Hbel1)
      go_roundw
      case rel => exact ⟨k + p.length + 8, acc ++ [p], hkb, by go_num, by rw [List.length_append]; simp; omega, by rw [List.map_append]; exact Hown2.out, Hbel2.out, Hs1.out⟩
      case measure => simp [intOf]; omega
end Go.Proofs.YtcijhhnbhnaiaaaGreatDoor
