/- The laws of layer 2, walked (the second half): the rolled window; the bytes of a sum. -/
import Derived.Test.YtofkbnmfeeecdaaSumsLaws
namespace Go.Proofs.Ytofkbnmfeeecdaa
open Go.RowKit

theorem extract_list (s : ByteArray) (a b : Nat) : (s.extract a b).data.toList = (s.data.toList.drop a).take (b - a) := by
  rw [ByteArray.data_extract, Array.toList_extract, List.extract_eq_take_drop]
theorem window_parts (l : List UInt8) (i k : Nat) (hk : 1 ≤ k) (hki : k ≤ i) (hi : i < l.length) :
    ∃ m : List UInt8, m.length + 1 = k ∧ (l.drop (i - k)).take k = l[i - k] :: m ∧ (l.drop (i + 1 - k)).take k = m ++ [l[i]] := by
  obtain ⟨j, rfl⟩ : ∃ j, k = j + 1 := ⟨k - 1, by omega⟩
  refine ⟨(l.drop (i - (j + 1) + 1)).take j, by simp; omega, ?_, ?_⟩
  · rw [List.drop_eq_getElem_cons (show i - (j + 1) < l.length by omega), List.take_succ_cons]
  · have e : i + 1 - (j + 1) = i - (j + 1) + 1 := by omega
    rw [e]
    have hl : j < (l.drop (i - (j + 1) + 1)).length := by rw [List.length_drop]; omega
    rw [List.take_succ_eq_append_getElem hl, List.getElem_drop]
    congr 2
    simp only [show i - (j + 1) + 1 + j = i by omega]

theorem roll_window (s : ByteArray) (j k : Nat) (h1 : 1 ≤ k) (hkj : k ≤ j) (hj : j < s.size) :
    Adl.roll (Adl.sum ((s.data.toList.drop (j - k)).take k)) k (s[j - k]'(by omega)).toNat s[j].toNat = Adl.sum ((s.data.toList.drop (j + 1 - k)).take k) := by
  obtain ⟨m, hm1, hm2, hm3⟩ := window_parts s.data.toList j k h1 hkj (by simpa using hj)
  have := Adl.roll_sum (s.data.toList[j - k]'(by simp; omega)) (s.data.toList[j]'(by simpa using hj)) m
  rw [hm1, ← hm2, ← hm3] at this
  exact this

set_option maxHeartbeats 1000000 in
theorem walkSumsWindow (s : ByteArray) (n : Int) (w : World) (_hs : s.size ≤ maxLen) (hn : 0 ≤ n ∧ n ≤ 255) :
    Calls Try.prog 6 #[.string s, .int .u8 n] w fun e w' => e = .returned (.bool true) ∧ Below w.heap.size w w' := by
  obtain ⟨n0, n1⟩ := hn
  by_cases hc : (s.size : Int) ≤ 2000 ∧ 1 ≤ n ∧ n ≤ s.size
  · obtain ⟨c1, c2, c3⟩ := hc
    obtain ⟨k, rfl⟩ := Int.eq_ofNat_of_zero_le n0
    have hk : k ≤ s.size := by omega
    have hsz : s.data.toList.length = s.size := by simp
    have Hsz := Lib.hid hsz
    clear hsz
    go_enter Try.func6, Try.ntmps6
    go_wp2_with fail
    refine (sum_any _ _ (by rw [ByteArray.size_extract]; unfold maxLen; omega)).mono ?_
    rintro e w1 ⟨rfl, hb1⟩
    rw [extract_list, Nat.sub_zero, List.drop_zero]
    have Hb1 := Lib.hid hb1
    clear hb1
    go_wp2_with fail
    go_loopw [6, 7] (fun v i wr => ∃ j : Nat, k ≤ j ∧ j ≤ s.size ∧ i = .int .i64 j ∧ v = .int .u32 (Adl.sum ((s.data.toList.drop (j - k)).take k)) ∧ Below w.heap.size w wr) (fun _ i _ => s.size - (intOf i).toNat)
    case atStart => exact ⟨k, Nat.le_refl _, hk, rfl, by simp, Hb1.out⟩
    case round =>
      obtain ⟨j, hkj, hjs, rfl, rfl, hbel⟩ := hrel
      have Hbel := Lib.hid hbel
      clear hbel
      by_cases hlt : j < s.size
      · have hroll := roll_window s j k (by omega) hkj hlt
        have hin := Adl.sum_in ((s.data.toList.drop (j - k)).take k)
        have hcall : ∀ W : World, Calls Try.prog 15 #[.int .u32 (Adl.sum ((s.data.toList.drop (j - k)).take k)), .int .i64 k, .int .u8 (s[j - k]'(by omega)).toNat, .int .u8 s[j].toNat] W
            fun e w' => e = .returned (.int .u32 (Adl.sum ((s.data.toList.drop (j + 1 - k)).take k))) ∧ Below W.heap.size W w' := fun W => by
          rw [← hroll]; exact roll_any _ _ _ _ W hin.1 hin.2
        have Hcall := Lib.hid hcall
        have hsub : ((j : Int) - k).toNat = j - k := by omega
        have hs1 : (k : Int) ≤ j := by omega
        have hs2 : (j : Int) - k < s.size := by omega
        have hs3 : j - k < s.size := by omega
        have hs4 : IntKind.i64.wrap ((j : Int) - k) = (j : Int) - k := IntWalk.i64_in _ (by omega)
        have hk1 : 1 ≤ k := by omega
        clear hroll hcall hin
        go_wp2_with fail
        refine wp_region_ext (by kernel_rfl) (by kernel_rfl) fun K hK => ?_
        repeat (go_big_quiet_step ((go_at_call 15; exact Calls.ext_of (Hcall.out _))))
        refine wpQuiet_nil (hK _ fun x => ?_)
        clear hK K
        have Hbel2 := Lib.hid (Hbel.out.trans (x.le.mono Hbel.out.size))
        clear Hbel Hcall
        go_wp2_with fail
        refine (sum_any _ _ (by rw [ByteArray.size_extract]; unfold maxLen; omega)).mono ?_
        rintro e w2 ⟨rfl, hb2⟩
        rw [extract_list, show j - k + 1 = j + 1 - k by omega, show j + 1 - (j + 1 - k) = k by omega]
        have Hb2 := Lib.hid (Hbel2.out.trans (hb2.mono Hbel2.out.size))
        clear hb2 Hbel2 hs4
        go_wp2_with fail
        go_roundw
        case rel => exact ⟨j + 1, by omega, by omega, by go_num, rfl, Hb2.out⟩
        case measure => simp [intOf]; omega
      · go_wp2_with fail
        refine (does_any _).mono ?_
        rintro e w4 ⟨rfl, hb4⟩
        have Hb4 := Lib.hid (Hbel.out.trans (hb4.mono Hbel.out.size))
        clear hb4
        go_wp2_with fail
        go_ret
        exact ⟨rfl, Hb4.out⟩
  · have hd : (decide ((2000 : Int) < s.size) || decide (n < 1) || decide ((s.size : Int) < n)) = true := by simp; omega
    go_enter Try.func6, Try.ntmps6
    go_wp2_with fail
    all_goals
      refine (does_any _).mono ?_
      rintro e w4 ⟨rfl, hb4⟩
      have Hb4 := Lib.hid hb4
      clear hb4
      go_wp2_with fail
      go_ret
      exact ⟨rfl, Hb4.out⟩

/-! ### The bytes of a sum -/
theorem four_val (s : Int) (h0 : 0 ≤ s) (h1 : s < 4294967296) : (UInt8.ofNat (s / 16777216).toNat).toNat = (s / 16777216).toNat ∧ (UInt8.ofNat (s / 65536 % 256).toNat).toNat = (s / 65536 % 256).toNat ∧ (UInt8.ofNat (s / 256 % 256).toNat).toNat = (s / 256 % 256).toNat ∧ (UInt8.ofNat (s % 256).toNat).toNat = (s % 256).toNat := by
  simp; omega
theorem four_inj (a b : Int) (ha : 0 ≤ a ∧ a < 4294967296) (hb : 0 ≤ b ∧ b < 4294967296) : Adl.four a = Adl.four b ↔ a = b := by
  constructor
  · intro h
    unfold Adl.four at h
    simp only [List.cons.injEq, and_true] at h
    obtain ⟨h1, h2, h3, h4⟩ := h
    obtain ⟨a1, a2, a3, a4⟩ := four_val a ha.1 ha.2
    obtain ⟨b1, b2, b3, b4⟩ := four_val b hb.1 hb.2
    have e1 := congrArg UInt8.toNat h1
    have e2 := congrArg UInt8.toNat h2
    have e3 := congrArg UInt8.toNat h3
    have e4 := congrArg UInt8.toNat h4
    omega
  · rintro rfl; rfl
theorem less_cons (x y : UInt8) (l m : List UInt8) (B L M : Nat) (hL : L < B) (hM : M < B) (h : Op.bytesLess l m = decide (L < M)) :
    Op.bytesLess (x :: l) (y :: m) = decide (x.toNat * B + L < y.toNat * B + M) := by
  rw [Op.bytesLess, h]
  rcases Nat.lt_trichotomy x.toNat y.toNat with hc | hc | hc
  · have h1 : x < y := UInt8.lt_iff_toNat_lt.2 hc
    have h2 : (x.toNat + 1) * B ≤ y.toNat * B := Nat.mul_le_mul_right B hc
    rw [Nat.add_mul, Nat.one_mul] at h2
    rw [decide_eq_true (show x.toNat * B + L < y.toNat * B + M by omega), decide_eq_true h1, Bool.true_or]
  · have h1 : x = y := UInt8.toNat_inj.1 hc
    subst h1
    have h2 : ¬ x < x := fun h => by have := UInt8.lt_iff_toNat_lt.1 h; omega
    rw [decide_eq_false h2, Bool.false_or, beq_self_eq_true, Bool.true_and]
    simp
  · have h1 : ¬ x < y := fun h => by have := UInt8.lt_iff_toNat_lt.1 h; omega
    have h2 : (y.toNat + 1) * B ≤ x.toNat * B := Nat.mul_le_mul_right B hc
    have h3 : (x == y) = false := beq_eq_false_iff_ne.2 fun e => by rw [e] at hc; omega
    rw [Nat.add_mul, Nat.one_mul] at h2
    rw [decide_eq_false h1, h3, Bool.false_and, Bool.false_or, decide_eq_false (show ¬ x.toNat * B + L < y.toNat * B + M by omega)]
theorem four_sum (a : Int) (h0 : 0 ≤ a) (h1 : a < 4294967296) : ((a / 16777216).toNat * 16777216 + ((a / 65536 % 256).toNat * 65536 + ((a / 256 % 256).toNat * 256 + ((a % 256).toNat * 1 + 0)))) = a.toNat := by omega
theorem four_less (a b : Int) (ha : 0 ≤ a ∧ a < 4294967296) (hb : 0 ≤ b ∧ b < 4294967296) : Op.bytesLess (Adl.four a) (Adl.four b) = decide (a < b) := by
  obtain ⟨a1, a2, a3, a4⟩ := four_val a ha.1 ha.2
  obtain ⟨b1, b2, b3, b4⟩ := four_val b hb.1 hb.2
  have h0 : Op.bytesLess [] [] = decide (0 < 0) := rfl
  have h1 := less_cons (UInt8.ofNat (a % 256).toNat) (UInt8.ofNat (b % 256).toNat) [] [] 1 0 0 (by omega) (by omega) h0
  rw [a4, b4] at h1
  have h2 := less_cons (UInt8.ofNat (a / 256 % 256).toNat) (UInt8.ofNat (b / 256 % 256).toNat) _ _ 256 _ _ (by omega) (by omega) h1
  rw [a3, b3] at h2
  have h3 := less_cons (UInt8.ofNat (a / 65536 % 256).toNat) (UInt8.ofNat (b / 65536 % 256).toNat) _ _ 65536 _ _ (by omega) (by omega) h2
  rw [a2, b2] at h3
  have h4 := less_cons (UInt8.ofNat (a / 16777216).toNat) (UInt8.ofNat (b / 16777216).toNat) _ _ 16777216 _ _ (by omega) (by omega) h3
  rw [a1, b1] at h4
  rw [four_sum a ha.1 ha.2, four_sum b hb.1 hb.2] at h4
  have h5 : (a.toNat < b.toNat) ↔ a < b := by omega
  exact h4.trans (decide_eq_decide.2 h5)
/-- The string of a number's four bytes, known by its letters alone. -/
theorem bytes_text (a : Int) (h0 : 0 ≤ a) (h1 : a ≤ 4294967295) : ∃ A : ByteArray, A.data.toList = Adl.four a ∧ (∀ W : World, Calls Try.prog 17 #[.int .u32 a] W fun e w' => e = .returned (.string A) ∧ Below W.heap.size W w') ∧
    ∃ h : A.size = 4, (((A[0]'(by omega)).toNat : Nat) : Int) = a / 16777216 ∧ (((A[1]'(by omega)).toNat : Nat) : Int) = a / 65536 % 256 ∧ (((A[2]'(by omega)).toNat : Nat) : Int) = a / 256 % 256 ∧ (((A[3]'(by omega)).toNat : Nat) : Int) = a % 256 := by
  obtain ⟨v1, v2, v3, v4⟩ := four_val a h0 (by omega)
  have k0 : ((ByteArray.mk (Adl.four a).toArray)[0]'(by show 0 < 4; omega)).toNat = (a / 16777216).toNat := v1
  have k1 : ((ByteArray.mk (Adl.four a).toArray)[1]'(by show 1 < 4; omega)).toNat = (a / 65536 % 256).toNat := v2
  have k2 : ((ByteArray.mk (Adl.four a).toArray)[2]'(by show 2 < 4; omega)).toNat = (a / 256 % 256).toNat := v3
  have k3 : ((ByteArray.mk (Adl.four a).toArray)[3]'(by show 3 < 4; omega)).toNat = (a % 256).toNat := v4
  exact ⟨⟨(Adl.four a).toArray⟩, rfl, fun W => bytes_any a W h0 (by omega), rfl, by rw [k0]; omega, by rw [k1]; omega, by rw [k2]; omega, by rw [k3]; omega⟩

set_option maxHeartbeats 1000000 in
theorem walkSumsBytes (a b : Int) (w : World) (ha : 0 ≤ a ∧ a ≤ 4294967295) (hb : 0 ≤ b ∧ b ≤ 4294967295) :
    Calls Try.prog 9 #[.int .u32 a, .int .u32 b] w fun e w' => e = .returned (.bool true) ∧ Below w.heap.size w w' := by
  obtain ⟨a0, a1⟩ := ha
  obtain ⟨b0, b1⟩ := hb
  have hinj := Lib.hid (four_inj a b ⟨a0, by omega⟩ ⟨b0, by omega⟩)
  have hless := Lib.hid (four_less a b ⟨a0, by omega⟩ ⟨b0, by omega⟩)
  obtain ⟨A, lA, hA, sA, q0, q1, q2, q3⟩ := bytes_text a a0 a1
  obtain ⟨B, lB, hB, sB, _⟩ := bytes_text b b0 b1
  have hbA := Lib.hid hA
  have hbB := Lib.hid hB
  have LA := Lib.hid lA
  have LB := Lib.hid lB
  clear lA lB hA hB
  go_enter Try.func9, Try.ntmps9
  go_wp2_with fail
  refine (hbA.out _).mono ?_
  rintro e w1 ⟨rfl, hb1⟩
  have Hb1 := Lib.hid hb1
  clear hb1
  go_wp2_with fail
  refine (hbB.out _).mono ?_
  rintro e w2 ⟨rfl, hb2⟩
  have Hb2 := Lib.hid (Hb1.out.trans (hb2.mono Hb1.out.size))
  clear hb2 Hb1
  go_wp2_with fail
  go_loop [7, 8] (fun n i => ∃ (k : Nat) (m : Int), k ≤ 4 ∧ i = .int .i64 k ∧ n = .int .u32 m ∧ ((k = 0 ∧ m = 0) ∨ (k = 1 ∧ m = a / 16777216) ∨ (k = 2 ∧ m = a / 65536) ∨ (k = 3 ∧ m = a / 256) ∨ (k = 4 ∧ m = a))) (fun _ i => 4 - (intOf i).toNat)
  case atStart => exact ⟨0, 0, by omega, rfl, rfl, .inl ⟨rfl, rfl⟩⟩
  case round =>
    obtain ⟨k, m, hk, rfl, rfl, ⟨rfl, rfl⟩ | ⟨rfl, rfl⟩ | ⟨rfl, rfl⟩ | ⟨rfl, rfl⟩ | ⟨rfl, rfl⟩⟩ := hrel
    · go_wp2_with fail
      go_round
      case rel => exact ⟨1, _, by omega, rfl, rfl, .inr (.inl ⟨rfl, by omega⟩)⟩
      case measure => simp [intOf]
    · go_wp2_with fail
      go_round
      case rel => exact ⟨2, _, by omega, rfl, rfl, .inr (.inr (.inl ⟨rfl, by omega⟩))⟩
      case measure => simp [intOf]
    · go_wp2_with fail
      go_round
      case rel => exact ⟨3, _, by omega, rfl, rfl, .inr (.inr (.inr (.inl ⟨rfl, by omega⟩)))⟩
      case measure => simp [intOf]
    · go_wp2_with fail
      go_round
      case rel => exact ⟨4, _, by omega, rfl, rfl, .inr (.inr (.inr (.inr ⟨rfl, by omega⟩)))⟩
      case measure => simp [intOf]
    · have hE : (A.toList == B.toList) = (m == b) := by
        rw [ByteArray.toList_eq, ByteArray.toList_eq, LA.out, LB.out]
        by_cases h : m = b
        · rw [h]; simp
        · rw [beq_eq_false_iff_ne.2 h, beq_eq_false_iff_ne.2 (fun e => h (hinj.out.1 e))]
      have hL : Op.bytesLess A.toList B.toList = decide (m < b) := by rw [ByteArray.toList_eq, ByteArray.toList_eq, LA.out, LB.out, hless.out]
      go_wp2_with fail
      refine (does_any _).mono ?_
      rintro e w4 ⟨rfl, hb4⟩
      have Hb4 := Lib.hid (Hb2.out.trans (hb4.mono Hb2.out.size))
      clear hb4
      go_wp2_with fail
      go_ret
      exact ⟨rfl, Hb4.out⟩
end Go.Proofs.Ytofkbnmfeeecdaa
