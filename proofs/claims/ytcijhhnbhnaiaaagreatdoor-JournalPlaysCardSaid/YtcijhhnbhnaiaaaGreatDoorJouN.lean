/- A file's number as its name: plainly. -/
import Derived.Test.YtcijhhnbhnaiaaaGreatDoorLib
import Derived.Lib.Atoi
import Derived.Lib.ItoaNum
import Derived.Lib.Strings
namespace Go.Proofs.YtcijhhnbhnaiaaaGreatDoor
set_option linter.unusedSimpArgs false
set_option linter.unusedVariables false

theorem decFrom_append : ∀ (a b : List UInt8) (acc : Nat), Lib.decFrom acc (a ++ b) = (Lib.decFrom acc a).bind fun m => Lib.decFrom m b
  | [], b, acc => rfl
  | x :: a, b, acc => by
    simp only [List.cons_append, Lib.decFrom]
    cases Lib.digitVal x with
    | none => rfl
    | some d => exact decFrom_append a b _
theorem digit_val {d : Nat} (h : d < 10) : Lib.digitVal (UInt8.ofNat (48 + d)) = some d := by
  unfold Lib.digitVal
  have : (UInt8.ofNat (48 + d)).toNat = 48 + d := by rw [UInt8.toNat_ofNat']; omega
  rw [this, if_pos (by omega)]
  congr 1
  omega
theorem digits_from : ∀ (f u : Nat), u ≤ f → Lib.decFrom 0 (Lib.decDigits u) = some u ∧ ∃ b r, Lib.decDigits u = b :: r ∧ 48 ≤ b.toNat
  | f, u, hf => by
    by_cases h : u < 10
    · rw [Lib.decDigits_one h]
      refine ⟨?_, _, _, rfl, ?_⟩
      · simp only [Lib.decFrom, digit_val h]; simp
      · rw [UInt8.toNat_ofNat']; omega
    · cases f with
      | zero => omega
      | succ f =>
        obtain ⟨h1, b, r, h2, h3⟩ := digits_from f (u / 10) (by omega)
        rw [Lib.decDigits, dif_neg h]
        refine ⟨?_, b, r ++ [UInt8.ofNat (48 + u % 10)], by rw [h2]; rfl, h3⟩
        rw [decFrom_append, h1]
        simp only [Option.bind_some, Lib.decFrom, digit_val (show u % 10 < 10 by omega)]
        congr 1
        omega
theorem digits_len : ∀ (k u : Nat), u < 10 ^ (k + 1) → (Lib.decDigits u).length ≤ k + 1
  | 0, u, h => by rw [Lib.decDigits_one (by simpa using h)]; simp
  | k + 1, u, h => by
    by_cases h10 : u < 10
    · rw [Lib.decDigits_one h10]; simp
    · rw [Lib.decDigits, dif_neg h10, List.length_append]
      have := digits_len k (u / 10) (by rw [Nat.pow_succ] at h; omega)
      simp only [List.length_cons, List.length_nil]
      omega
theorem digits_small {n : Nat} (h : n ≤ 2147483647) : (Lib.decDigits n).length ≤ 10 := digits_len 9 n (by have : (10 : Nat) ^ 10 = 10000000000 := by decide
                                                                                                          omega)
theorem atoi_digits (n : Nat) : Lib.atoi (Lib.decDigits n) = some (n : Int) := by
  obtain ⟨h1, b, r, h2, h3⟩ := digits_from n n (Nat.le_refl _)
  rw [h2] at h1 ⊢
  unfold Lib.atoi
  have n1 : (b == 45) = false := by rw [beq_eq_false_iff_ne]; intro e; subst e; exact absurd h3 (by decide)
  have n2 : (b == 43) = false := by rw [beq_eq_false_iff_ne]; intro e; subst e; exact absurd h3 (by decide)
  simp only [n1, n2, Bool.false_eq_true, if_false, Lib.decNat, List.isEmpty_cons, h1, Option.map_some]
/-- A file's name. -/
def jn (n : Nat) : List UInt8 := 106 :: Lib.decDigits n
def decB (n : Nat) : ByteArray := ⟨(Lib.decDigits n).toArray⟩
def jnB (n : Nat) : ByteArray := ⟨(jn n).toArray⟩
theorem decB_size {n : Nat} (h : n ≤ 2147483647) : (decB n).size ≤ 10 := by
  have : (decB n).size = (Lib.decDigits n).length := List.size_toArray
  rw [this]; exact digits_small h
theorem jnB_size {n : Nat} (h : n ≤ 2147483647) : (jnB n).size ≤ 11 := by
  have : (jnB n).size = (jn n).length := List.size_toArray
  rw [this]; have := digits_small h; unfold jn; simp only [List.length_cons]; omega
theorem jnB_data (n : Nat) : (jnB n).data.toList = jn n := by simp [jnB]
theorem decB_data (n : Nat) : (decB n).data.toList = Lib.decDigits n := by simp [decB]
theorem jn_cat (n : Nat) : (⟨#[106]⟩ : ByteArray) ++ decB n = jnB n := by
  apply bytes_ext
  simp [decB, jnB, jn]
theorem jn_trim (n : Nat) : Lib.trimPrefix (jn n) [106] = Lib.decDigits n ∧ Lib.hasPrefix (jn n) [106] = true := by
  have : Lib.hasPrefix (jn n) [106] = true := by unfold Lib.hasPrefix jn; simp [List.isPrefixOf]
  refine ⟨?_, this⟩
  unfold Lib.trimPrefix
  rw [this]
  rfl
theorem jn_inj {a b : Nat} (h : jn a = jn b) : a = b := by
  unfold jn at h
  injection h with _ h
  have := congrArg Lib.atoi h
  rw [atoi_digits, atoi_digits] at this
  injection this with this
  omega
theorem jn_draft (n : Nat) : jn n ≠ [106, 43] := by
  unfold jn
  intro h
  injection h with _ h
  obtain ⟨_, b, r, h2, h3⟩ := digits_from n n (Nat.le_refl _)
  rw [h2] at h
  injection h with h _
  subst h
  exact absurd h3 (by decide)
end Go.Proofs.YtcijhhnbhnaiaaaGreatDoor
