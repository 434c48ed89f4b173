/- 'FramesRun', walked: who goes through a text from frame to frame. -/
import Derived.Test.YtkgleilcngnpfaaFramesRef2
import Derived.Test.YtkgleilcngnpfaaKnown
import Derived.Test.YtkgleilcngnpfaaFramesLaws
namespace Go.Proofs.Ytkgleilcngnpfaa
open Go.RowKit

theorem next_none_call (s : ByteArray) (k : Nat) (hm : s.size ≤ 140737488355328) (hk : k ≤ s.size) (h : Frm.nextAt (s.data.toList.drop k) = none) (w : World) :
    Calls Try.prog 15 #[.string s, .int .i64 k] w fun e w' => e = .returned (.tuple #[.string ⟨#[]⟩, .int .i64 0, .bool false]) ∧ Below w.heap.size w w' := by
  have := next_in s k w hm hk
  rw [nextR, h] at this
  exact this
theorem run_step (s : ByteArray) (hm : s.size ≤ 140737488355328) (a : Nat) (ha : a < s.size) : ∃ k : Nat, a ≤ k ∧ k ≤ s.size ∧
    (∀ W : World, Calls Try.prog 17 #[.string s, .int .i64 a] W fun e w' => e = .returned (.int .i64 k) ∧ Below W.heap.size W w') ∧
    (∀ i : Nat, a ≤ i → i < k → ∀ W : World, Calls Try.prog 15 #[.string s, .int .i64 i] W fun e w' => e = .returned (.tuple #[.string ⟨#[]⟩, .int .i64 0, .bool false]) ∧ Below W.heap.size W w') ∧
    (k = s.size ∨ k < s.size ∧ ∃ (P : ByteArray) (n : Nat), k < n ∧ n ≤ s.size ∧
      (∀ W : World, Calls Try.prog 15 #[.string s, .int .i64 k] W fun e w' => e = .returned (.tuple #[.string P, .int .i64 n, .bool true]) ∧ Below W.heap.size W w') ∧
      (∀ W : World, Calls Try.prog 13 #[.string P] W fun e w' => e = .returned (.tuple #[.string (s.extract k n), .int .i64 0]) ∧ Below W.heap.size W w')) := by
  have hl : s.data.toList.length = s.size := by simp
  have hR : ∀ W : World, Calls Try.prog 17 #[.string s, .int .i64 a] W fun e w' => e = .returned (.int .i64 (Frm.resync s.data.toList a)) ∧ Below W.heap.size W w' := fun W => resync_any s a W hm (by omega)
  rcases Frm.resync_spec s.data.toList a with ⟨i, e, a1, a2, a3, a4⟩ | ⟨e, h⟩
  · rw [e] at hR
    refine ⟨i, a1, by omega, hR, fun j h1 h2 W => next_none_call s j hm (by omega) (a4 j h1 h2) W, .inr ⟨by omega, ?_⟩⟩
    cases hn : Frm.nextAt (s.data.toList.drop i) with
    | none => rw [hn] at a3; cases a3
    | some p =>
      obtain ⟨h1, h2⟩ := (Frm.nextAt_some _ _).1 hn
      have h3 := h2.length_le
      rw [Frm.frame_length, List.length_drop, hl] at h3
      refine ⟨⟨p.toArray⟩, i + p.length + 8, by omega, by omega, fun W => ?_, fun W => ?_⟩
      · have := next_in s i W hm (by omega)
        rw [nextR, hn] at this
        exact this
      · have hps : (ByteArray.mk p.toArray).size = p.length := by show p.toArray.size = _; simp
        have := frame_short ⟨p.toArray⟩ W (by omega)
        have ef : (⟨(Frm.frame p).toArray⟩ : ByteArray) = s.extract i (i + p.length + 8) := by
          refine bytes_ext ?_
          rw [extract_list]
          show (Frm.frame p).toArray.toList = _
          obtain ⟨r, hr⟩ := h2
          rw [List.toList_toArray, ← hr, show i + p.length + 8 - i = (Frm.frame p).length from by rw [Frm.frame_length]; omega, List.take_left]
        rw [← ef]
        exact this
  · rw [e, hl] at hR
    exact ⟨s.size, by omega, Nat.le_refl _, hR, fun j h1 h2 W => next_none_call s j hm (by omega) (h j h1 (by omega)) W, .inl rfl⟩

set_option maxRecDepth 100000 in
set_option maxHeartbeats 1000000 in
theorem walkFramesRun (t : ByteArray) (w : World) (_ht : t.size ≤ maxLen) :
    Calls Try.prog 7 #[.string t] w fun e w' => e = .returned (.bool true) ∧ Below w.heap.size w w' := by
  by_cases c1 : (t.size : Int) ≤ 1500
  · have Hstep := Lib.hid (run_step t (by omega))
    have hR : ∀ W : World, Calls Try.prog 17 #[.string t, .int .i64 t.size] W fun e w' => e = .returned (.int .i64 t.size) ∧ Below W.heap.size W w' := fun W => by
      have h := resync_any t t.size W (by omega) (by omega)
      have hl : t.data.toList.length = t.size := by simp
      rw [Frm.resync_of_none _ _ fun j h1 h2 => absurd h2 (by rw [hl]; omega), hl] at h
      exact h
    have HR := Lib.hid hR
    clear hR
    go_enter Try.func7, Try.ntmps7
    go_wp2_with fail
    go_loopw [2, 3, 4, 5, 6, 7, 8, 9, 10, 11, 12, 13] (fun _ v3 _ _ _ _ _ _ _ _ _ _ wr => ∃ a : Nat, v3 = .int .i64 a ∧ a ≤ t.size ∧ Below w.heap.size w wr) (fun _ v3 _ _ _ _ _ _ _ _ _ _ _ => t.size - (intOf v3).toNat)
    case atStart => exact ⟨0, rfl, Nat.zero_le _, Below.refl _ _⟩
    case round =>
      obtain ⟨a, rfl, ha, hbel⟩ := hrel
      have Hbel := Lib.hid hbel
      clear hbel
      by_cases hlt : a < t.size
      · obtain ⟨k, hk1, hk2, hRk, hNj, hrest⟩ := Hstep.out a hlt
        have HRk := Lib.hid hRk
        have HNj := Lib.hid hNj
        have Hrest := Lib.hid hrest
        clear hRk hNj hrest
        have hd1 : decide ((k : Int) < (a : Int)) = false := by rw [decide_eq_false_iff_not]; omega
        have hd2 : decide ((t.size : Int) < (k : Int)) = false := by rw [decide_eq_false_iff_not]; omega
        have hd3 : decide (k < a) = false := by rw [decide_eq_false_iff_not]; omega
        have hd4 : decide (t.size < k) = false := by rw [decide_eq_false_iff_not]; omega
        go_wp2_with fail
        refine (HRk.out _).mono ?_
        rintro e w1 ⟨rfl, hb1⟩
        have Hb1 := Lib.hid (Hbel.out.trans (hb1.mono Hbel.out.size))
        clear hb1 Hbel HRk
        go_wp2_with fail
        go_loopw [2, 5, 6, 7, 8] (fun _ v5 _ _ _ wr => ∃ i : Nat, v5 = .int .i64 i ∧ a ≤ i ∧ i ≤ k ∧ Below w.heap.size w wr) (fun _ v5 _ _ _ _ => k - (intOf v5).toNat)
        case atStart => exact ⟨a, rfl, Nat.le_refl _, hk1, Hb1.out⟩
        case round =>
          obtain ⟨i, rfl, hi1, hi2, hbel⟩ := hrel
          have Hbel := Lib.hid hbel
          clear hbel Hb1
          by_cases hlt2 : i < k
          · go_wp2_with fail
            refine (HNj.out i hi1 hlt2 _).mono ?_
            rintro e w2 ⟨rfl, hb2⟩
            have Hb2 := Lib.hid (Hbel.out.trans (hb2.mono Hbel.out.size))
            clear hb2 Hbel
            go_wp2_with fail
            go_roundw
            case rel => exact ⟨i + 1, by go_num, by omega, by omega, Hb2.out⟩
            case measure => simp [intOf]; omega
          · obtain rfl : i = k := by omega
            rcases Hrest.out with he | ⟨hk3, P, n, hn1, hn2, hN, hF⟩
            · subst he
              clear Hrest HNj Hstep
              go_wp2_with fail
              refine (HR.out _).mono ?_
              rintro e w2 ⟨rfl, hb2⟩
              have Hb2 := Lib.hid (Hbel.out.trans (hb2.mono Hbel.out.size))
              clear hb2 Hbel
              go_wp2_with fail
              refine (known_any _).mono ?_
              rintro e w3 ⟨rfl, hb3⟩
              have Hb3 := Lib.hid (Hb2.out.trans (hb3.mono Hb2.out.size))
              clear hb3 Hb2
              go_wp2_with fail
              go_ret
              exact ⟨rfl, Hb3.out⟩
            · have HN := Lib.hid hN
              have HF := Lib.hid hF
              clear hN hF Hrest HNj
              go_wp2_with fail
              refine (HN.out _).mono ?_
              rintro e w2 ⟨rfl, hb2⟩
              have Hb2 := Lib.hid (Hbel.out.trans (hb2.mono Hbel.out.size))
              clear hb2 Hbel
              go_wp2_with fail
              refine (HF.out _).mono ?_
              rintro e w3 ⟨rfl, hb3⟩
              have Hb3 := Lib.hid (Hb2.out.trans (hb3.mono Hb2.out.size))
              clear hb3 Hb2
              go_wp2_with fail
              go_roundw
              case rel => exact ⟨n, rfl, hn2, Hb3.out⟩
              case measure => simp [intOf]; omega
      · go_wp2_with fail
        refine (HR.out _).mono ?_
        rintro e w1 ⟨rfl, hb1⟩
        have Hb1 := Lib.hid (Hbel.out.trans (hb1.mono Hbel.out.size))
        clear hb1 Hbel
        go_wp2_with fail
        refine (known_any _).mono ?_
        rintro e w2 ⟨rfl, hb2⟩
        have Hb2 := Lib.hid (Hb1.out.trans (hb2.mono Hb1.out.size))
        clear hb2 Hb1
        go_wp2_with fail
        go_ret
        exact ⟨rfl, Hb2.out⟩
  · have c2 : (1500 : Int) < t.size := by omega
    go_enter Try.func7, Try.ntmps7
    go_wp2_with fail
    refine (known_any _).mono ?_
    rintro e w4 ⟨rfl, hb4⟩
    have Hb4 := Lib.hid hb4
    clear hb4
    go_wp2_with fail
    go_ret
    exact ⟨rfl, Hb4.out⟩
end Go.Proofs.Ytkgleilcngnpfaa
