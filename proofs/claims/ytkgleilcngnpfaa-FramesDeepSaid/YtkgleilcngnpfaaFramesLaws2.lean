/- The statements of layer 4 that do not ask the document's answer, walked: texts without a frame, frames in frames. -/
import Derived.Test.YtkgleilcngnpfaaFramesRef2
import Derived.Test.YtkgleilcngnpfaaKnown
import Derived.Test.YtkgleilcngnpfaaFramesLaws
namespace Go.Proofs.Ytkgleilcngnpfaa
open Go.RowKit

theorem bare_all (l : List UInt8) (h : twosOf l = 0 ∨ l.length < 8) (j : Nat) : Frm.nextAt (l.drop j) = none := by
  rcases h with h | h
  · refine Frm.nextAt_bare _ fun e => ?_
    rw [List.getElem?_drop] at e
    have h2 : (2 : UInt8) ∈ l := List.mem_of_getElem? e
    unfold twosOf at h
    exact absurd h2 (List.count_eq_zero.1 h)
  · exact Frm.nextAt_short _ (by rw [List.length_drop]; omega)
theorem bare_whole (l : List UInt8) (n : Nat) (h : Frm.nextAt l = none) : Frm.whole n l = ([], 0) := by
  cases n with
  | zero => rfl
  | succ n => rw [Frm.whole, h]
theorem bare_next (s : ByteArray) (k : Int) (hm : s.size ≤ 140737488355328) (h : ∀ j, Frm.nextAt (s.data.toList.drop j) = none) (w : World) :
    Calls Try.prog 15 #[.string s, .int .i64 k] w fun e w' => e = .returned (.tuple #[.string ⟨#[]⟩, .int .i64 0, .bool false]) ∧ Below w.heap.size w w' := by
  by_cases hk : 0 ≤ k ∧ k ≤ s.size
  · obtain ⟨n, rfl⟩ := Int.eq_ofNat_of_zero_le hk.1
    have := next_in s n w hm (by omega)
    rw [nextR, h n] at this
    exact this
  · exact next_out s k w (by omega)

theorem bare_whole_call (t : ByteArray) (hm : t.size ≤ 8796093022207) (h : Frm.nextAt t.data.toList = none) (w : World) :
    Calls Try.prog 19 #[.string t] w fun e w' => (∃ x c, e = .returned (.tuple #[.slice x 0 c, .int .i64 0])) ∧ Below w.heap.size w w' := by
  have hW := whole_any t w hm
  rw [bare_whole _ _ h] at hW
  refine hW.mono ?_
  rintro e w1 ⟨⟨v, rfl, hown⟩, hb⟩
  obtain ⟨vx, vc, rfl⟩ := hown.rd.form
  exact ⟨⟨vx, vc, rfl⟩, hb⟩
theorem bare_resync_call (t : ByteArray) (k : Int) (hm : t.size ≤ 140737488355328) (hk : -9223372036854775808 ≤ k ∧ k ≤ 9223372036854775807) (h : ∀ j, Frm.nextAt (t.data.toList.drop j) = none) (w : World) :
    Calls Try.prog 17 #[.string t, .int .i64 k] w fun e w' => e = .returned (.int .i64 t.size) ∧ Below w.heap.size w w' := by
  have hR := resync_any t k w hm hk
  rw [Frm.resync_of_none _ _ fun j _ _ => h j] at hR
  simpa using hR

set_option maxHeartbeats 1000000 in
theorem walkFramesBare (t : ByteArray) (k : Int) (w : World) (_ht : t.size ≤ maxLen) (hk : -9223372036854775808 ≤ k ∧ k ≤ 9223372036854775807) :
    Calls Try.prog 10 #[.string t, .int .i64 k] w fun e w' => e = .returned (.bool true) ∧ Below w.heap.size w w' := by
  by_cases c1 : (t.size : Int) ≤ 1500
  · have hT := fun W : World => twos_any t W (by omega)
    by_cases c2 : (0 : Int) < (twosOf t.data.toList : Nat)
    · by_cases c3 : (7 : Int) < t.size
      · have HT := Lib.hid hT
        clear hT
        generalize twosOf t.data.toList = tw at *
        go_enter Try.func10, Try.ntmps10
        go_wp2_with fail
        refine (HT.out _).mono ?_
        rintro e w1 ⟨rfl, hb1⟩
        have Hb1 := Lib.hid hb1
        clear hb1
        go_wp2_with fail
        refine (known_any _).mono ?_
        rintro e w2 ⟨rfl, hb2⟩
        have Hb2 := Lib.hid (Hb1.out.trans (hb2.mono Hb1.out.size))
        clear hb2 Hb1
        go_wp2_with fail
        go_ret
        exact ⟨rfl, Hb2.out⟩
      · have hb : ∀ j, Frm.nextAt (t.data.toList.drop j) = none := fun j => bare_all _ (.inr (by simp; omega)) j
        have hW := fun W : World => bare_whole_call t (by omega) (hb 0) W
        have hN := fun W : World => bare_next t k (by omega) hb W
        have hR := fun W : World => bare_resync_call t k (by omega) hk hb W
        have HR := Lib.hid hR
        have HN := Lib.hid hN
        have HW := Lib.hid hW
        have HT := Lib.hid hT
        clear hT hR hN hW hb
        generalize twosOf t.data.toList = tw at *
        go_enter Try.func10, Try.ntmps10
        go_wp2_with fail
        refine (HT.out _).mono ?_
        rintro e w1 ⟨rfl, hb1⟩
        have Hb1 := Lib.hid hb1
        clear hb1
        go_wp2_with fail
        refine (HW.out _).mono ?_
        rintro e w2 ⟨⟨vx, vc, rfl⟩, hb2⟩
        have Hb2 := Lib.hid (Hb1.out.trans (hb2.mono Hb1.out.size))
        clear hb2 Hb1
        go_wp2_with fail
        refine (HN.out _).mono ?_
        rintro e w3 ⟨rfl, hb3⟩
        have Hb3 := Lib.hid (Hb2.out.trans (hb3.mono Hb2.out.size))
        clear hb3 Hb2
        go_wp2_with fail
        refine (HR.out _).mono ?_
        rintro e w4 ⟨rfl, hb4⟩
        have Hb4 := Lib.hid (Hb3.out.trans (hb4.mono Hb3.out.size))
        clear hb4 Hb3
        go_wp2_with fail
        refine (known_any _).mono ?_
        rintro e w5 ⟨rfl, hb5⟩
        have Hb5 := Lib.hid (Hb4.out.trans (hb5.mono Hb4.out.size))
        clear hb5 Hb4
        go_wp2_with fail
        go_ret
        exact ⟨rfl, Hb5.out⟩
    · have hb : ∀ j, Frm.nextAt (t.data.toList.drop j) = none := fun j => bare_all _ (.inl (by omega)) j
      have hW := fun W : World => bare_whole_call t (by omega) (hb 0) W
      have hN := fun W : World => bare_next t k (by omega) hb W
      have hR := fun W : World => bare_resync_call t k (by omega) hk hb W
      have HR := Lib.hid hR
      have HN := Lib.hid hN
      have HW := Lib.hid hW
      have HT := Lib.hid hT
      clear hT hR hN hW hb
      generalize twosOf t.data.toList = tw at *
      go_enter Try.func10, Try.ntmps10
      go_wp2_with fail
      refine (HT.out _).mono ?_
      rintro e w1 ⟨rfl, hb1⟩
      have Hb1 := Lib.hid hb1
      clear hb1
      go_wp2_with fail
      refine (HW.out _).mono ?_
      rintro e w2 ⟨⟨vx, vc, rfl⟩, hb2⟩
      have Hb2 := Lib.hid (Hb1.out.trans (hb2.mono Hb1.out.size))
      clear hb2 Hb1
      go_wp2_with fail
      refine (HN.out _).mono ?_
      rintro e w3 ⟨rfl, hb3⟩
      have Hb3 := Lib.hid (Hb2.out.trans (hb3.mono Hb2.out.size))
      clear hb3 Hb2
      go_wp2_with fail
      refine (HR.out _).mono ?_
      rintro e w4 ⟨rfl, hb4⟩
      have Hb4 := Lib.hid (Hb3.out.trans (hb4.mono Hb3.out.size))
      clear hb4 Hb3
      go_wp2_with fail
      refine (known_any _).mono ?_
      rintro e w5 ⟨rfl, hb5⟩
      have Hb5 := Lib.hid (Hb4.out.trans (hb5.mono Hb4.out.size))
      clear hb5 Hb4
      go_wp2_with fail
      go_ret
      exact ⟨rfl, Hb5.out⟩
  · have c2 : (1500 : Int) < t.size := by omega
    go_enter Try.func10, Try.ntmps10
    go_wp2_with fail
    refine (known_any _).mono ?_
    rintro e w4 ⟨rfl, hb4⟩
    have Hb4 := Lib.hid hb4
    clear hb4
    go_wp2_with fail
    go_ret
    exact ⟨rfl, Hb4.out⟩

theorem deep_whole (f : List UInt8) (hf : f.length ≤ 16384) (c : Nat) (hc : c < f.length + 8) : Frm.nextAt ((Frm.frame f).take c) = none := by
  rw [Frm.nextAt_none]
  intro q hq hpre
  have h2 := hpre.trans (List.take_prefix _ _)
  have e := Frm.frame_prefix f q _ hf hq (List.prefix_refl _) h2
  subst e
  have := hpre.length_le
  simp only [List.length_take, Frm.frame_length] at this
  omega
theorem deep_inner (p r : List UInt8) (hp : p.length ≤ 16384) : Frm.nextAt ((Frm.frame (Frm.frame p) ++ r).drop 3) = some p := by
  rw [Frm.nextAt_some]
  refine ⟨hp, ?_⟩
  rw [Frm.frame_eq (Frm.frame p)]
  simp only [List.cons_append, List.append_assoc, List.drop_succ_cons, List.drop_zero]
  exact List.prefix_append _ _
theorem deep_resync (p : List UInt8) (hp : p.length ≤ 3000) : ∃ k : Nat, Frm.resync (Frm.frame (Frm.frame p)) 1 = k ∧ 1 ≤ k ∧ k ≤ 3 := by
  have hi := deep_inner p [] (by omega)
  rw [List.append_nil] at hi
  rcases Frm.resync_spec (Frm.frame (Frm.frame p)) 1 with ⟨i, e, a1, a2, a3, a4⟩ | ⟨e, a⟩
  · refine ⟨i, e, a1, ?_⟩
    by_cases h : i ≤ 3
    · exact h
    · have := a4 3 (by omega) (by omega)
      rw [this] at hi; cases hi
  · have := a 3 (by omega) (by simp only [Frm.frame_length]; omega)
    rw [this] at hi; cases hi
theorem strOf_size (l : List UInt8) : (strOf l).size = l.length := by
  show l.toArray.size = _; simp
theorem strOf_list (l : List UInt8) : (strOf l).data.toList = l := rfl
theorem deep_calls (p : ByteArray) (hp : p.size ≤ 3000) : ∃ (A B : ByteArray) (k : Nat), A.size = p.size + 8 ∧ B.size = p.size + 16 ∧ 1 ≤ k ∧ k ≤ 3 ∧
    (∀ W : World, Calls Try.prog 13 #[.string p] W fun e w' => e = .returned (.tuple #[.string A, .int .i64 0]) ∧ Below W.heap.size W w') ∧
    (∀ W : World, Calls Try.prog 13 #[.string A] W fun e w' => e = .returned (.tuple #[.string B, .int .i64 0]) ∧ Below W.heap.size W w') ∧
    (∀ W : World, Calls Try.prog 15 #[.string B, .int .i64 0] W fun e w' => e = .returned (.tuple #[.string A, .int .i64 (p.size + 16 : Nat), .bool true]) ∧ Below W.heap.size W w') ∧
    (∀ W : World, Calls Try.prog 15 #[.string B, .int .i64 3] W fun e w' => e = .returned (.tuple #[.string p, .int .i64 (p.size + 11 : Nat), .bool true]) ∧ Below W.heap.size W w') ∧
    (∀ W : World, ∀ c : Nat, c < p.size + 16 → Calls Try.prog 19 #[.string (B.extract 0 c)] W fun e w' => (∃ x c, e = .returned (.tuple #[.slice x 0 c, .int .i64 0])) ∧ Below W.heap.size W w') ∧
    (∀ W : World, Calls Try.prog 17 #[.string B, .int .i64 1] W fun e w' => e = .returned (.int .i64 k) ∧ Below W.heap.size W w') := by
  have hl : p.data.toList.length = p.size := by simp
  obtain ⟨k, hk, hk1, hk3⟩ := deep_resync p.data.toList (by omega)
  have hA : (strOf (Frm.frame p.data.toList)).size = p.size + 8 := by rw [strOf_size, Frm.frame_length, hl]
  have hB : (strOf (Frm.frame (Frm.frame p.data.toList))).size = p.size + 16 := by rw [strOf_size, Frm.frame_length, Frm.frame_length, hl]
  refine ⟨strOf (Frm.frame p.data.toList), strOf (Frm.frame (Frm.frame p.data.toList)), k, hA, hB, hk1, hk3, fun W => frame_short p W (by omega),
    fun W => frame_short _ W (by omega), fun W => ?_, fun W => ?_, fun W c hc => ?_, fun W => ?_⟩
  · have h := next_in (strOf (Frm.frame (Frm.frame p.data.toList))) 0 W (by omega) (by omega)
    have e : Frm.nextAt ((Frm.frame (Frm.frame p.data.toList)).drop 0) = some (Frm.frame p.data.toList) := (Frm.nextAt_some _ _).2 ⟨by rw [Frm.frame_length]; omega, List.prefix_refl _⟩
    rw [nextR, strOf_list, e] at h
    simp only [Frm.frame_length, hl] at h
    rw [show 0 + (p.size + 8) + 8 = p.size + 16 from by omega] at h
    exact h
  · have h := next_in (strOf (Frm.frame (Frm.frame p.data.toList))) 3 W (by omega) (by omega)
    have e := deep_inner p.data.toList [] (by omega)
    rw [List.append_nil] at e
    rw [nextR, strOf_list, e] at h
    simp only [hl] at h
    rw [show 3 + p.size + 8 = p.size + 11 from by omega] at h
    exact h
  · refine bare_whole_call _ ?_ ?_ W
    · rw [ByteArray.size_extract]; omega
    · rw [extract_list]
      exact deep_whole (Frm.frame p.data.toList) (by rw [Frm.frame_length]; omega) c (by rw [Frm.frame_length]; omega)
  · have h := resync_any (strOf (Frm.frame (Frm.frame p.data.toList))) 1 W (by omega) (by decide)
    rw [strOf_list, show (1 : Int).toNat = 1 from rfl, hk] at h
    exact h

set_option maxHeartbeats 1000000 in
theorem walkFramesDeep (p : ByteArray) (cut : Int) (w : World) (_hp : p.size ≤ maxLen) (hk : 0 ≤ cut ∧ cut ≤ 65535) :
    Calls Try.prog 11 #[.string p, .int .u16 cut] w fun e w' => e = .returned (.bool true) ∧ Below w.heap.size w w' := by
  by_cases c1 : (p.size : Int) ≤ 3000
  · obtain ⟨A, B, k, hA, hB, hk1, hk3, hF, hG, hN, hM, hW, hR⟩ := deep_calls p (by omega)
    have hc2 : cut % B.size < B.size := Int.emod_lt_of_pos _ (by omega)
    have hc3 : 0 ≤ cut % B.size := Int.emod_nonneg _ (by omega)
    have hcc : (cut % ((p.size : Int) + 16)).toNat < p.size + 16 := by
      have h1 : cut % ((p.size : Int) + 16) < (p.size : Int) + 16 := Int.emod_lt_of_pos _ (by omega)
      have h2 : 0 ≤ cut % ((p.size : Int) + 16) := Int.emod_nonneg _ (by omega)
      generalize cut % ((p.size : Int) + 16) = r at *
      omega
    have hcd : 0 ≤ cut % ((p.size : Int) + 16) ∧ cut % ((p.size : Int) + 16) ≤ (p.size : Int) + 16 := ⟨Int.emod_nonneg _ (by omega), Int.le_of_lt (Int.emod_lt_of_pos _ (by omega))⟩
    have HWc := Lib.hid (fun W => hW W _ hcc)
    clear hcc hW
    have hc4 : ((B.size : Int) < 1) = False := by simp; omega
    have hc5 : (1 : Int) ≤ B.size := by omega
    have HF := Lib.hid hF
    have HG := Lib.hid hG
    have HN := Lib.hid hN
    have HM := Lib.hid hM
    have HR := Lib.hid hR
    clear hF hG hN hM hR
    go_enter Try.func11, Try.ntmps11
    go_wp2_with fail
    refine (HF.out _).mono ?_
    rintro e w1 ⟨rfl, hb1⟩
    have Hb1 := Lib.hid hb1
    clear hb1
    go_wp2_with fail
    refine (HG.out _).mono ?_
    rintro e w2 ⟨rfl, hb2⟩
    have Hb2 := Lib.hid (Hb1.out.trans (hb2.mono Hb1.out.size))
    clear hb2 Hb1
    go_wp2_with fail
    refine (HN.out _).mono ?_
    rintro e w3 ⟨rfl, hb3⟩
    have Hb3 := Lib.hid (Hb2.out.trans (hb3.mono Hb2.out.size))
    clear hb3 Hb2
    go_wp2_with fail
    refine (HM.out _).mono ?_
    rintro e w4 ⟨rfl, hb4⟩
    have Hb4 := Lib.hid (Hb3.out.trans (hb4.mono Hb3.out.size))
    clear hb4 Hb3
    go_wp2_with fail
    refine (HWc.out _).mono ?_
    rintro e w5 ⟨⟨vx, vc, rfl⟩, hb5⟩
    have Hb5 := Lib.hid (Hb4.out.trans (hb5.mono Hb4.out.size))
    clear hb5 Hb4
    go_wp2_with fail
    refine (HR.out _).mono ?_
    rintro e w6 ⟨rfl, hb6⟩
    have Hb6 := Lib.hid (Hb5.out.trans (hb6.mono Hb5.out.size))
    clear hb6 Hb5
    have t1 : (1 : Int) ≤ k := by omega
    have t2 : (k : Int) ≤ 3 := by omega
    have t3 : (((p.size : Int) + 11) == (p.size : Int) + 16 - 5) = true := by rw [beq_iff_eq]; omega
    clear HF HG HN HM HWc HR hcd hc2 hc3 hc4 hc5
    go_wp2_with fail
    refine (known_any _).mono ?_
    rintro e w7 ⟨rfl, hb7⟩
    have Hb7 := Lib.hid (Hb6.out.trans (hb7.mono Hb6.out.size))
    clear hb7 Hb6
    go_wp2_with fail
    go_ret
    exact ⟨rfl, Hb7.out⟩
  · have c2 : (3000 : Int) < p.size := by omega
    go_enter Try.func11, Try.ntmps11
    go_wp2_with fail
    refine (known_any _).mono ?_
    rintro e w4 ⟨rfl, hb4⟩
    have Hb4 := Lib.hid hb4
    clear hb4
    go_wp2_with fail
    go_ret
    exact ⟨rfl, Hb4.out⟩
end Go.Proofs.Ytkgleilcngnpfaa
