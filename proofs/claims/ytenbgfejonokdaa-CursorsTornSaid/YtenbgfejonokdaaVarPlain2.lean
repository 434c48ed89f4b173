/- Numbers as bytes: how many there are, and which. -/
import Derived.Test.YtenbgfejonokdaaVarPlain
import Derived.Lib.ItoaNum
namespace Go.Proofs.Ytenbgfejonokdaa.Var

theorem hi_pow_le : ∀ (k n : Nat), 0 < k → 128 ^ k ≤ n → k + 1 ≤ (hi n).length
  | 0, _, h, _ => absurd h (by omega)
  | k + 1, n, _, h => by
    have h128 : 128 ≤ n := Nat.le_trans (Nat.le_trans (by decide) (Nat.pow_le_pow_right (by decide : 0 < 128) (show 1 ≤ k + 1 by omega))) h
    rw [hi_big h128]
    have hl := hi_len_pos (n / 128)
    rcases Nat.eq_zero_or_pos k with rfl | hk
    · simp; omega
    · have := hi_pow_le k (n / 128) hk (by rw [Nat.pow_succ] at h; omega)
      simp; omega
theorem put_length_hi (n : Nat) : (put n).length = (hi n).length := by
  unfold put
  split
  · rename_i h; rw [hi_small h]; rfl
  · rename_i h; rw [hi_big (show 128 ≤ n by omega)]; simp
/-- How many bytes a number has, by its bits. -/
theorem many_eq {n : Nat} (h : n < 2 ^ 64) : max 1 ((Lib.bitLen n + 6) / 7) = (hi n).length := by
  rcases Nat.eq_zero_or_pos n with rfl | hp
  · rw [hi_small (by omega)]; rfl
  · obtain ⟨h1, h2, h3⟩ := Lib.bitLenAux_bounds 64 n h (by omega)
    change 1 ≤ Lib.bitLen n at h1
    change 2 ^ (Lib.bitLen n - 1) ≤ n at h2
    change n < 2 ^ Lib.bitLen n at h3
    generalize Lib.bitLen n = b at *
    have e128 : ∀ k, (128 : Nat) ^ k = 2 ^ (7 * k) := fun k => by rw [Nat.pow_mul]
    have hup : (hi n).length ≤ (b + 6) / 7 := by
      refine hi_pow _ n (by omega) (Nat.lt_of_lt_of_le h3 ?_)
      rw [e128]
      exact Nat.pow_le_pow_right (by decide) (by omega)
    have hdn : (b + 6) / 7 ≤ (hi n).length := by
      rcases Nat.lt_or_ge 1 ((b + 6) / 7) with hb | hb
      · have := hi_pow_le ((b + 6) / 7 - 1) n (by omega) (by
          refine Nat.le_trans ?_ h2
          rw [e128]
          exact Nat.pow_le_pow_right (by decide) (by omega))
        omega
      · have := hi_len_pos n; omega
    omega
theorem hi_get : ∀ (n i : Nat) (h : i < (hi n).length), (hi n)[i] = UInt8.ofNat (n / 128 ^ ((hi n).length - 1 - i) % 128 + 128) := by
  intro n
  induction n using Nat.strongRecOn with
  | ind n ih =>
    intro i h
    by_cases h1 : n < 128
    · have e := hi_small h1
      have hl : (hi n).length = 1 := by rw [e]; rfl
      obtain rfl : i = 0 := by omega
      simp only [hl, Nat.sub_self, Nat.pow_zero, Nat.div_one]
      rw [Nat.mod_eq_of_lt h1]
      simp only [e, List.getElem_cons_zero]
    · have e := hi_big (show 128 ≤ n by omega)
      have hl : (hi n).length = (hi (n / 128)).length + 1 := by rw [e]; simp
      rw [List.getElem_of_eq e]
      by_cases hi' : i < (hi (n / 128)).length
      · rw [List.getElem_append_left hi', ih (n / 128) (by omega) i hi', hl]
        congr 3
        rw [Nat.div_div_eq_div_mul, ← Nat.pow_succ']
        congr 2
        omega
      · rw [List.getElem_append_right (by omega)]
        have hie : i = (hi (n / 128)).length := by omega
        simp only [List.getElem_singleton]
        rw [show (hi n).length - 1 - i = 0 by omega]; simp
theorem put_hi (n : Nat) : put n = (hi n).set ((hi n).length - 1) (UInt8.ofNat (n % 128)) := by
  unfold put
  split
  · rename_i h; rw [hi_small h, Nat.mod_eq_of_lt h]; rfl
  · rename_i h
    rw [hi_big (show 128 ≤ n by omega)]
    simp
/-- A number that may be below 0: as nothing, then. -/
def putI (n : Int) : Str := if n < 0 then [] else put n.toNat
/-- The row while it is written. -/
def part (n i : Nat) : Str := (hi n).take i ++ List.replicate ((hi n).length - i) 0
theorem part_length (n i : Nat) (h : i ≤ (hi n).length) : (part n i).length = (hi n).length := by unfold part; simp; omega
theorem part_zero (n : Nat) : part n 0 = List.replicate (hi n).length 0 := by unfold part; simp
theorem part_end (n : Nat) : part n (hi n).length = hi n := by unfold part; simp
theorem part_set (n i : Nat) (h : i < (hi n).length) : (part n i).set i ((hi n)[i]) = part n (i + 1) := by
  unfold part
  have hl : ((hi n).take i).length = i := by rw [List.length_take]; omega
  rw [List.set_append_right _ _ (by omega), hl, Nat.sub_self]
  obtain ⟨m, hm⟩ : ∃ m, (hi n).length - i = m + 1 := ⟨(hi n).length - i - 1, by omega⟩
  rw [hm, List.replicate_succ, List.set_cons_zero, show (hi n).length - (i + 1) = m by omega, List.take_succ_eq_append_getElem h, List.append_assoc]
  rfl
end Go.Proofs.Ytenbgfejonokdaa.Var
