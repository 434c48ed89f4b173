/- Numbers as bytes, by the document, walked. -/
import Derived.Test.YtcijhhnbhnaiaaaGreatDoorVar
import Derived.Test.YtcijhhnbhnaiaaaGreatDoorVarP
import Derived.Test.YtcijhhnbhnaiaaaGreatDoorRegion
namespace Go.Proofs.YtcijhhnbhnaiaaaGreatDoor
set_option maxRecDepth 100000
open Go.RowKit

theorem one_text (W : World) (k : Int) (c : UInt8) (hk : (c.toNat : Int) = k) : (convert 64 9 (.slice (some ⟨W.heap.size, 0, none⟩) 1 1)).run Tryz.prog (W.alloc (.cells #[.int .u8 k] 5 (0, 0))) = .ok (.string ⟨#[c]⟩) (W.alloc (.cells #[.int .u8 k] 5 (0, 0))) := by
  refine run_convert_bytes_back (W.alloc (.cells #[.int .u8 k] 5 (0, 0))) _ _ _ _ _ [c] under_bytes under_byte under_string ?_
  intro j hj
  obtain rfl : j = 0 := by simpa using hj
  have : (⟨W.heap.size, 0, none⟩ : Addr).add 0 = ⟨W.heap.size, 0, none⟩ := by unfold Addr.add; split <;> simp_all
  rw [this, (Blk.alloc_new W _ _).cell]
  simp [hk]
theorem cat_list (a b : List UInt8) : (⟨a.toArray⟩ : ByteArray) ++ ⟨b.toArray⟩ = ⟨(a ++ b).toArray⟩ := by
  apply bytes_ext
  rw [data_append]
set_option maxHeartbeats 2000000 in
theorem refPut_any (n : Int) (w : World) (hn : -9223372036854775808 ≤ n ∧ n ≤ 9223372036854775807) :
    Calls Tryz.prog 51 #[.int .i64 n] w fun e w' => e = .returned (.string ⟨(Var.putI n).toArray⟩) ∧ Below w.heap.size w w' := by
  unfold Var.putI
  obtain ⟨hn1, hn2⟩ := hn
  by_cases hneg : n < 0
  · rw [if_pos hneg]
    go_enter Tryz.func51, Tryz.ntmps51
    go_wp2_with fail
    go_ret
    exact ⟨rfl, Below.refl _ _⟩
  · rw [if_neg hneg]
    obtain ⟨m, rfl⟩ : ∃ m : Nat, n = m := ⟨n.toNat, by omega⟩
    rw [Int.toNat_natCast]
    have h1 := fun W : World => one_text W ((m : Int) % 128) (UInt8.ofNat (m % 128)) (by rw [Var.ofNat_toNat (by omega)]; omega)
    have hc1 := h1 w
    have q1 : Int.tmod (m : Int) 128 = (m : Int) % 128 := Int.tmod_eq_emod_of_nonneg (by omega)
    have q2 : Int.tdiv (m : Int) 128 = ((m / 128 : Nat) : Int) := by rw [Int.tdiv_eq_ediv_of_nonneg (by omega)]; rfl
    clear h1 hneg
    go_enter Tryz.func51, Tryz.ntmps51
    go_wp2_with fail
    clear hc1 q1 q2
    go_loopw [0, 3] (fun v0 v3 wr => ∃ (n : Nat) (S : List UInt8), v0 = .int .i64 n ∧ v3 = .string ⟨S.toArray⟩ ∧ ((n = 0 ∧ S = Var.put m) ∨ (0 < n ∧ Var.hi n ++ S = Var.put m)) ∧ n ≤ m ∧ Below w.heap.size w wr) (fun v0 _ _ => (intOf v0).toNat)
    case atStart =>
      refine ⟨m / 128, [UInt8.ofNat (m % 128)], rfl, rfl, ?_, by omega, (Below.refl _ _).alloc (Nat.le_refl _) _⟩
      unfold Var.put
      split
      · exact .inl ⟨by omega, by rw [Nat.mod_eq_of_lt (by assumption)]⟩
      · exact .inr ⟨by omega, rfl⟩
    case round =>
      obtain ⟨n, S, rfl, rfl, hS, hnm, hbe⟩ := hrel
      have Hbe := Lib.hid hbe
      have hz := hbe.size
      clear hbe
      rcases hS with ⟨rfl, rfl⟩ | ⟨hn0, hS⟩
      · go_wp2_with fail
        go_ret
        exact ⟨rfl, Hbe.out⟩
      · have h1 := one_text wr ((n : Int) % 128 + 128) (UInt8.ofNat (n % 128 + 128)) (by rw [Var.ofNat_toNat (by omega)]; omega)
        have q1 : Int.tmod (n : Int) 128 = (n : Int) % 128 := Int.tmod_eq_emod_of_nonneg (by omega)
        have hsl : S.length ≤ 9 := by
          have := congrArg List.length hS
          have h9 := Var.put_len_le (n := m) (by rw [Var.pow9]; omega)
          rw [List.length_append] at this
          omega
        have HS := Lib.hid hS
        obtain ⟨T, hT⟩ : ∃ T : ByteArray, T = ⟨S.toArray⟩ := ⟨_, rfl⟩
        have hTs : T.size ≤ 9 := by rw [hT]; exact Nat.le_trans (Nat.le_of_eq List.size_toArray) hsl
        rw [← hT]
        have HT := Lib.hid hT
        clear hS hT hsl
        go_wp2_with fail
        refine ⟨⟨n / 128, UInt8.ofNat (n % 128 + 128) :: S, rfl, ?_, ?_, by omega, Hbe.out.alloc hz _⟩, by simp [intOf]; omega⟩
        · rw [HT.out]
          congr 1
          have : UInt8.ofNat (n % 128) + 128 = UInt8.ofNat (n % 128 + 128) := by simp
          rw [this]
          exact cat_list [UInt8.ofNat (n % 128 + 128)] S
        · by_cases h128 : n < 128
          · refine .inl ⟨by omega, ?_⟩
            rw [← HS.out, Var.hi_small h128, Nat.mod_eq_of_lt h128]; rfl
          · refine .inr ⟨by omega, ?_⟩
            rw [← HS.out, Var.hi_big (show 128 ≤ n by omega)]
            simp
theorem fold_take_succ (l : List UInt8) (j : Nat) (hj : j < l.length) : Var.fold 0 (l.take (j + 1)) = Var.fold 0 (l.take j) * 128 + (l[j]).toNat % 128 := by
  rw [List.take_succ_eq_append_getElem hj, Var.fold_snoc]
end Go.Proofs.YtcijhhnbhnaiaaaGreatDoor
