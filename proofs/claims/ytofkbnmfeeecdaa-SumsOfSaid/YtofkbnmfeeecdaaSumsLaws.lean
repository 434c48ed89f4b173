/- The laws of layer 2, walked: each answers true, and leaves all that was there as it was. -/
import Derived.Test.YtofkbnmfeeecdaaSumsDoes
namespace Go.Proofs.Ytofkbnmfeeecdaa
open Go.RowKit

set_option maxHeartbeats 400000 in
theorem walkSumsOf (s : ByteArray) (sum : Int) (w : World) (hs : s.size ≤ maxLen) (hb : 0 ≤ sum ∧ sum ≤ 4294967295) :
    Calls Try.prog 3 #[.string s, .int .u32 sum] w fun e w' => e = .returned (.bool true) ∧ Below w.heap.size w w' := by
  by_cases h5 : (50000 : Int) < (s.size : Int)
  · go_enter Try.func3, Try.ntmps3
    go_wp2_with fail
    go_ret
    exact ⟨rfl, Below.refl _ _⟩
  · go_enter Try.func3, Try.ntmps3
    go_wp2_with fail
    refine (sum_any s _ hs).mono ?_
    rintro e w1 ⟨rfl, hb1⟩
    have Hb1 := Lib.hid hb1
    clear hb1
    go_wp2_with fail
    refine (ref_sum_any s _ hs).mono ?_
    rintro e w2 ⟨rfl, hb2⟩
    have Hb2 := Lib.hid (Hb1.out.trans (hb2.mono Hb1.out.size))
    clear hb2 Hb1
    go_wp2_with fail
    refine (more_any sum s _ hb.1 (by omega) hs).mono ?_
    rintro e w3 ⟨rfl, hb3⟩
    have Hb3 := Lib.hid (Hb2.out.trans (hb3.mono Hb2.out.size))
    clear hb3 Hb2
    go_wp2_with fail
    refine (ref_more_any sum s _ hb.1 (by omega) hs).mono ?_
    rintro e w4 ⟨rfl, hb4⟩
    have Hb4 := Lib.hid (Hb3.out.trans (hb4.mono Hb3.out.size))
    clear hb4 Hb3
    go_wp2_with fail
    refine (does_any _).mono ?_
    rintro e w5 ⟨rfl, hb5⟩
    have Hb5 := Lib.hid (Hb4.out.trans (hb5.mono Hb4.out.size))
    clear hb5 Hb4
    go_wp2_with fail
    go_ret
    exact ⟨rfl, Hb5.out⟩

set_option maxHeartbeats 1000000 in
theorem walkSumsRoll (sum n : Int) (c : UInt8 × UInt8) (w : World) (hb : 0 ≤ sum ∧ sum ≤ 4294967295) (_hn : -9223372036854775808 ≤ n ∧ n ≤ 9223372036854775807) (_hc : True) :
    Calls Try.prog 4 #[.int .u32 sum, .int .i64 n, .agg #[.int .u8 c.1.toNat, .int .u8 c.2.toNat]] w fun e w' => e = .returned (.bool true) ∧ Below w.heap.size w w' := by
  have h1 : sum < 4294967296 := by omega
  have h0 := hb.1
  clear hb
  go_enter Try.func4, Try.ntmps4
  go_wp2_with fail
  refine wp_region_ext (by kernel_rfl) (by kernel_rfl) fun K hK => ?_
  repeat (go_big_quiet_step ((first | (go_at_call 15; exact Calls.ext_of (roll_any _ _ _ _ _ h0 h1)) | (go_at_call 16; exact Calls.ext_of (ref_roll_any _ _ _ _ _ h0 h1)) | (go_at_call 17; exact Calls.ext_of (bytes_any _ _ h0 h1)) | (go_at_call 18; exact Calls.ext_of (ref_bytes_any _ _ h0 h1)) | (go_at_call 14; exact Calls.ext_of (does_any _)))))
  refine wpQuiet_nil (hK _ fun x => ?_)
  clear hK K
  go_wp2_with fail
  go_ret
  exact ⟨rfl, ((Below.refl w.heap.size w).alloc (Nat.le_refl _) _).trans (x.le.mono (by simp))⟩

set_option maxHeartbeats 400000 in
theorem walkSumsJoin (a b : ByteArray) (w : World) (ha : a.size ≤ maxLen) (hb : b.size ≤ maxLen) :
    Calls Try.prog 5 #[.string a, .string b] w fun e w' => e = .returned (.bool true) ∧ Below w.heap.size w w' := by
  by_cases h5 : (50000 : Int) < (a.size : Int)
  · go_enter Try.func5, Try.ntmps5
    go_wp2_with fail
    go_ret
    exact ⟨rfl, Below.refl _ _⟩
  by_cases h6 : (50000 : Int) < (b.size : Int)
  · go_enter Try.func5, Try.ntmps5
    go_wp2_with fail
    go_ret
    exact ⟨rfl, Below.refl _ _⟩
  have hadd : a.size + b.size ≤ 9223372036854775807 := by omega
  have hab : (a ++ b).size ≤ maxLen := by rw [ByteArray.size_append]; unfold maxLen; omega
  have Hab := Lib.hid hab
  clear hab
  have hn : (ByteArray.mk #[]).size ≤ maxLen := by decide
  go_enter Try.func5, Try.ntmps5
  go_wp2_with fail
  refine (sum_any a _ ha).mono ?_
  rintro e w1 ⟨rfl, hb1⟩
  have Hb1 := Lib.hid hb1
  clear hb1
  go_wp2_with fail
  refine (more_any _ b _ (Adl.sum_in _).1 (Adl.sum_in _).2 hb).mono ?_
  rintro e w2 ⟨rfl, hb2⟩
  have Hb2 := Lib.hid (Hb1.out.trans (hb2.mono Hb1.out.size))
  clear hb2 Hb1
  rw [Adl.more_sum]
  go_wp2_with fail
  refine (sum_any (a ++ b) _ Hab.out).mono ?_
  rintro e w3 ⟨rfl, hb3⟩
  rw [data_append]
  have Hb3 := Lib.hid (Hb2.out.trans (hb3.mono Hb2.out.size))
  clear hb3 Hb2
  go_wp2_with fail
  refine (sum_any a _ ha).mono ?_
  rintro e w4 ⟨rfl, hb4⟩
  have Hb4 := Lib.hid (Hb3.out.trans (hb4.mono Hb3.out.size))
  clear hb4 Hb3
  go_wp2_with fail
  refine (more_any _ ⟨#[]⟩ _ (Adl.sum_in _).1 (Adl.sum_in _).2 hn).mono ?_
  rintro e w5 ⟨rfl, hb5⟩
  rw [Adl.more_nil_sum]
  have Hb5 := Lib.hid (Hb4.out.trans (hb5.mono Hb4.out.size))
  clear hb5 Hb4
  go_wp2_with fail
  refine (sum_any a _ ha).mono ?_
  rintro e w6 ⟨rfl, hb6⟩
  have Hb6 := Lib.hid (Hb5.out.trans (hb6.mono Hb5.out.size))
  clear hb6 Hb5
  go_wp2_with fail
  refine (does_any _).mono ?_
  rintro e w7 ⟨rfl, hb7⟩
  have Hb7 := Lib.hid (Hb6.out.trans (hb7.mono Hb6.out.size))
  clear hb7 Hb6
  go_wp2_with fail
  go_ret
  exact ⟨rfl, Hb7.out⟩

theorem walkDoes1 (w w1 : World) (h : Below w.heap.size w w1) : Calls Try.prog 14 #[] w1 fun e w' => e = .returned (.bool true) ∧ Below w.heap.size w w' :=
  (does_any w1).mono fun _ _ ⟨he, hb⟩ => ⟨he, h.trans (hb.mono h.size)⟩

theorem toList_get (s : ByteArray) (k : Nat) (hk : k < s.data.toList.length) : s.data.toList[k] = s.data[k]'(by simpa using hk) := by simp
theorem xor_zero_iff (x y : UInt8) : x ^^^ y = x ↔ y = 0 := by
  constructor
  · intro h
    have : x ^^^ (x ^^^ y) = x ^^^ x := by rw [h]
    rwa [← UInt8.xor_assoc, UInt8.xor_self, UInt8.zero_xor] at this
  · rintro rfl; exact UInt8.xor_zero

set_option maxHeartbeats 1000000 in
theorem walkSumsOne (s : ByteArray) (at_ x : Int) (w : World) (hs : s.size ≤ maxLen) (_ha : -9223372036854775808 ≤ at_ ∧ at_ ≤ 9223372036854775807) (hx : 0 ≤ x ∧ x ≤ 255) :
    Calls Try.prog 7 #[.string s, .int .i64 at_, .int .u8 x] w fun e w' => e = .returned (.bool true) ∧ Below w.heap.size w w' := by
  by_cases hc : (s.size : Int) ≤ 50000 ∧ 0 ≤ at_ ∧ at_ < s.size
  · obtain ⟨c1, c2, c3⟩ := hc
    obtain ⟨k, rfl⟩ := Int.eq_ofNat_of_zero_le c2
    obtain ⟨y, rfl⟩ : ∃ y : UInt8, x = y.toNat := ⟨UInt8.ofNat x.toNat, by simp; omega⟩
    have hsz : s.data.toList.length = s.size := by simp
    have hk : k < s.data.toList.length := by omega
    clear hx
    obtain ⟨c, hc⟩ : ∃ c, c = s.data.toList[k] ^^^ y := ⟨_, rfl⟩
    have hxor : bits BinOp.xor IntKind.u8 ((s.data.toList[k].toNat : Nat) : Int) ((y.toNat : Nat) : Int) = (c.toNat : Int) := by
      rw [u8_xor_nat _ _ (UInt8.toNat_lt _) (UInt8.toNat_lt _), hc, UInt8.toNat_xor]
    have hset := Adl.sum_set s.data.toList k c hk
    rw [hc, xor_zero_iff, ← hc] at hset
    have hfin : ((Adl.sum (s.data.toList.set k c) == Adl.sum s.data.toList) == ((y.toNat : Int) == 0)) = true := by
      by_cases hy : y = 0
      · have h1 := hset.2 hy
        rw [h1, hy]; simp
      · have h1 : ¬ Adl.sum (s.data.toList.set k c) = Adl.sum s.data.toList := fun h => hy (hset.1 h)
        have h2 : ¬ ((y.toNat : Int) = 0) := fun h => hy (UInt8.toNat_inj.1 (by simp; omega))
        simp only [beq_eq_false_iff_ne.2 h1, beq_eq_false_iff_ne.2 h2]
        rfl
    have hlen : (s.data.toList.set k c).length = s.size := by simp
    have hz : (ByteArray.mk (s.data.toList.set k c).toArray).size ≤ maxLen := by show (s.data.toList.set k c).toArray.size ≤ _; simp; exact hs
    simp only [toList_get s k hk] at hxor
    generalize hl2 : s.data.toList.set k c = l2 at *
    have Hl2 := Lib.hid hl2
    have Hc := Lib.hid hc
    have Hlen := Lib.hid hlen
    have Hfin := Lib.hid hfin
    clear hset hsz hl2 hc hlen hfin
    go_enter Try.func7, Try.ntmps7
    go_wp2_with (first | (refine wpList_bytes_of rfl _ rfl s rfl ?_; intro b cap w1 hwb hbr hbel; have q0 := hbr.cell k hk; have q1 := hbr.free k hk; have Hbr := Lib.hid hbr; have Hbel := Lib.hid hbel; clear hbr hbel) | (refine wpList_text_of rfl _ rfl b s.size cap rfl l2 Hlen.out (by rw [← Hl2.out]; exact Hbr.out.set k c) ?_))
    refine (sum_any _ _ hz).mono ?_
    rintro e w2 ⟨rfl, hb2⟩
    have Hb2 := Lib.hid ((Hbel.out.setCell (p := ⟨b, k, none⟩) hwb _).trans (hb2.mono (by have := Hbel.out.size; simp [World.setCell]; omega)))
    clear hb2
    go_wp2_with fail
    refine (sum_any s _ hs).mono ?_
    rintro e w3 ⟨rfl, hb3⟩
    have Hb3 := Lib.hid (Hb2.out.trans (hb3.mono Hb2.out.size))
    clear hb3 Hb2
    have hfin := Hfin.out
    go_wp2_with fail
    refine (does_any _).mono ?_
    rintro e w4 ⟨rfl, hb4⟩
    have Hb4 := Lib.hid (Hb3.out.trans (hb4.mono Hb3.out.size))
    clear hb4 Hb3
    go_wp2_with fail
    go_ret
    exact ⟨rfl, Hb4.out⟩
  · have hd : (decide ((50000 : Int) < s.size) || decide (at_ < 0) || decide ((s.size : Int) ≤ at_)) = true := by simp; omega
    go_enter Try.func7, Try.ntmps7
    go_wp2_with fail
    all_goals
      refine (does_any _).mono ?_
      rintro e w4 ⟨rfl, hb4⟩
      have Hb4 := Lib.hid hb4
      clear hb4
      go_wp2_with fail
      go_ret
      exact ⟨rfl, Hb4.out⟩

set_option maxHeartbeats 1000000 in
theorem walkSumsPlaces (s : ByteArray) (ii kk : Int) (w : World) (hs : s.size ≤ maxLen) (_hi : -9223372036854775808 ≤ ii ∧ ii ≤ 9223372036854775807) (_hk : -9223372036854775808 ≤ kk ∧ kk ≤ 9223372036854775807) :
    Calls Try.prog 8 #[.string s, .int .i64 ii, .int .i64 kk] w fun e w' => e = .returned (.bool true) ∧ Below w.heap.size w w' := by
  by_cases hc : (s.size : Int) ≤ 50000 ∧ 0 ≤ ii ∧ ii < s.size ∧ 0 ≤ kk ∧ kk < s.size
  · obtain ⟨c1, c2, c3, c4, c5⟩ := hc
    obtain ⟨i, rfl⟩ := Int.eq_ofNat_of_zero_le c2
    obtain ⟨k, rfl⟩ := Int.eq_ofNat_of_zero_le c4
    have hsz : s.data.toList.length = s.size := by simp
    have hi : i < s.data.toList.length := by omega
    have hk : k < s.data.toList.length := by omega
    have hset := Adl.sum_swap s.data.toList i k hi hk (by omega)
    have hfin : ((Adl.sum ((s.data.toList.set i s.data.toList[k]).set k s.data.toList[i]) == Adl.sum s.data.toList) == ((s.data.toList[i].toNat : Int) == s.data.toList[k].toNat)) = true := by
      by_cases hy : s.data.toList[i] = s.data.toList[k]
      · have h1 := hset.2 hy
        rw [h1, hy]; simp
      · have h1 : ¬ Adl.sum ((s.data.toList.set i s.data.toList[k]).set k s.data.toList[i]) = Adl.sum s.data.toList := fun h => hy (hset.1 h)
        have h2 : ¬ ((s.data.toList[i].toNat : Int) = s.data.toList[k].toNat) := fun h => hy (UInt8.toNat_inj.1 (by omega))
        simp only [beq_eq_false_iff_ne.2 h1, beq_eq_false_iff_ne.2 h2]
        rfl
    have hlen : ((s.data.toList.set i s.data.toList[k]).set k s.data.toList[i]).length = s.size := by simp
    have hz : (ByteArray.mk ((s.data.toList.set i s.data.toList[k]).set k s.data.toList[i]).toArray).size ≤ maxLen := by show ((s.data.toList.set i s.data.toList[k]).set k s.data.toList[i]).toArray.size ≤ _; simp; exact hs
    generalize hl2 : (s.data.toList.set i s.data.toList[k]).set k s.data.toList[i] = l2 at *
    simp only [toList_get s k hk, toList_get s i hi] at hfin
    have Hl2 := Lib.hid hl2
    have Hlen := Lib.hid hlen
    have Hfin := Lib.hid hfin
    clear hset hsz hl2 hlen hfin
    go_enter Try.func8, Try.ntmps8
    go_wp2_with (first | (refine wpList_bytes_of rfl _ rfl s rfl ?_; intro b cap w1 hwb hbr hbel; have q0 := hbr.cell k hk; have q1 := hbr.free k hk; have q2 := hbr.cell i hi; have q3 := hbr.free i hi; have hs1 := hbr.set i s.data.toList[k]; obtain ⟨u, q4⟩ : ∃ u, (w1.setCell ⟨b, i, none⟩ (.int .u8 ((s.data.toList[k]).toNat : Int))).cell? ⟨b, k, none⟩ = some u := ⟨_, hs1.cell k (by simpa using hk)⟩; have q5 := hs1.free k (by simpa using hk); simp only [toList_get s k hk] at q4 q5; clear hs1; have Hbr := Lib.hid hbr; have Hbel := Lib.hid hbel; clear hbr hbel))
    go_region
    go_wp2_with fail
    have hs2 : BRow ((w1.setCell ⟨b, i, none⟩ (.int .u8 (s.data[k].toNat : Int))).setCell ⟨b, k, none⟩ (.int .u8 (s.data[i].toNat : Int))).drew b l2 := by
      have := (Hbr.out.set i s.data.toList[k]).set k s.data.toList[i]
      rw [Hl2.out] at this
      simp only [toList_get s k hk, toList_get s i hi] at this
      exact this
    have hbel2 := Lib.hid (((Hbel.out.setCell (p := ⟨b, i, none⟩) hwb (.int .u8 (s.data[k].toNat : Int))).setCell (p := ⟨b, k, none⟩) hwb (.int .u8 (s.data[i].toNat : Int))).drew)
    have q6 := fun x : Ext ((w1.setCell ⟨b, i, none⟩ (.int .u8 (s.data[k].toNat : Int))).setCell ⟨b, k, none⟩ (.int .u8 (s.data[i].toNat : Int))).drew => (hs2.ext x).textn cap s.size Hlen.out
    clear q0 q1 q2 q3 q4 q5 hs2 Hbel Hbr
    have hi' : i < s.size := by omega
    have hk' : k < s.size := by omega
    have hfin : ((Adl.sum l2 == Adl.sum s.data.toList) == (((s[i]'hi').toNat : Int) == ((s[k]'hk').toNat : Int))) = true := Hfin.out
    refine wp_region_ext (by kernel_rfl) (by kernel_rfl) fun K hK => ?_
    repeat (go_big_quiet_step ((first | (go_at_call 10; first | exact Calls.ext_of (sum_any ⟨l2.toArray⟩ _ hz) | exact Calls.ext_of (sum_any s _ hs)) | (go_at_call 14; exact Calls.ext_of (does_any _)))))
    refine wpQuiet_nil (hK _ fun x => ?_)
    clear hK K
    go_wp2_with fail
    go_ret
    exact ⟨rfl, hbel2.out.trans (x.le.mono hbel2.out.size)⟩
  · have hd : (decide ((50000 : Int) < s.size) || decide (ii < 0) || decide ((s.size : Int) ≤ ii) || decide (kk < 0) || decide ((s.size : Int) ≤ kk)) = true := by simp; omega
    go_enter Try.func8, Try.ntmps8
    go_wp2_with fail
    all_goals
      refine (does_any _).mono ?_
      rintro e w4 ⟨rfl, hb4⟩
      have Hb4 := Lib.hid hb4
      clear hb4
      go_wp2_with fail
      go_ret
      exact ⟨rfl, Hb4.out⟩

end Go.Proofs.Ytofkbnmfeeecdaa
