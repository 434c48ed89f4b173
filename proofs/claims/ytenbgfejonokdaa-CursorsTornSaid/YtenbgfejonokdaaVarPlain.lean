/- Numbers as bytes, seven bits each, the most significant first: written, and read. No program in sight. -/
import Derived.Test.YtenbgfejonokdaaRows
namespace Go.Proofs.Ytenbgfejonokdaa.Var

abbrev Str := List UInt8
/-- Bytes with the flag set. -/
def hi (n : Nat) : Str := if h : n < 128 then [UInt8.ofNat (n + 128)] else hi (n / 128) ++ [UInt8.ofNat (n % 128 + 128)]
termination_by n
decreasing_by omega
/-- A number's bytes. -/
def put (n : Nat) : Str := if n < 128 then [UInt8.ofNat n] else hi (n / 128) ++ [UInt8.ofNat (n % 128)]
theorem hi_small {n : Nat} (h : n < 128) : hi n = [UInt8.ofNat (n + 128)] := by rw [hi, dif_pos h]
theorem hi_big {n : Nat} (h : 128 ≤ n) : hi n = hi (n / 128) ++ [UInt8.ofNat (n % 128 + 128)] := by rw [hi, dif_neg (by omega)]
theorem hi_step {a d : Nat} (ha : 0 < a) (hd : d < 128) : hi (a * 128 + d) = hi a ++ [UInt8.ofNat (d + 128)] := by
  rw [hi_big (by omega), show (a * 128 + d) / 128 = a by omega, show (a * 128 + d) % 128 = d by omega]
theorem put_step {a d : Nat} (ha : 0 < a) (hd : d < 128) : put (a * 128 + d) = hi a ++ [UInt8.ofNat d] := by
  unfold put
  rw [if_neg (by omega), show (a * 128 + d) / 128 = a by omega, show (a * 128 + d) % 128 = d by omega]
/-- What is read of some bytes, so many at most, behind so much; and how many they are. -/
def rd : Nat → Nat → Str → Option (Nat × Nat)
  | 0, _, _ => none
  | _, _, [] => none
  | k + 1, acc, c :: r => if c.toNat < 128 then some (acc * 128 + c.toNat, 1) else (rd k (acc * 128 + (c.toNat - 128)) r).map fun p => (p.1, p.2 + 1)
/-- What stands at a place, and the place behind it. -/
def get (s : Str) (p : Nat) : Option (Nat × Nat) := if s[p]? = some 128 then none else (rd 9 0 (s.drop p)).map fun x => (x.1, p + x.2)
theorem ofNat_toNat {n : Nat} (h : n < 256) : (UInt8.ofNat n).toNat = n := by
  rw [UInt8.toNat_ofNat']; omega
theorem toNat_ofNat (c : UInt8) : UInt8.ofNat c.toNat = c := by
  apply UInt8.toNat_inj.1
  exact ofNat_toNat c.toNat_lt
/-- How many flagged bytes a number has. -/
theorem hi_len_pos (n : Nat) : 0 < (hi n).length := by
  rw [hi]; split <;> simp
theorem hi_pow : ∀ (k n : Nat), 0 < k → n < 128 ^ k → (hi n).length ≤ k
  | 0, _, h, _ => absurd h (by omega)
  | k + 1, n, _, h => by
    by_cases h1 : n < 128
    · rw [hi_small h1]; simp
    · rw [hi_big (by omega)]
      have hk : 0 < k := by
        rcases Nat.eq_zero_or_pos k with rfl | hk
        · simp at h; omega
        · exact hk
      have := hi_pow k (n / 128) hk (by rw [Nat.pow_succ] at h; omega)
      simp; omega
theorem rd_hi : ∀ (n k acc : Nat) (r : Str), (hi n).length ≤ k → rd k acc (hi n ++ r) = (rd (k - (hi n).length) (acc * 128 ^ (hi n).length + n) r).map fun p => (p.1, p.2 + (hi n).length) := by
  intro n
  induction n using Nat.strongRecOn with
  | ind n ih =>
    intro k acc r hk
    by_cases h1 : n < 128
    · rw [hi_small h1] at hk ⊢
      obtain ⟨j, rfl⟩ : ∃ j, k = j + 1 := ⟨k - 1, by simp at hk; omega⟩
      have e : (UInt8.ofNat (n + 128)).toNat = n + 128 := ofNat_toNat (by omega)
      simp only [List.cons_append, List.nil_append, rd, e, List.length_cons, List.length_nil]
      rw [if_neg (by omega)]
      simp
    · rw [hi_big (by omega)] at hk ⊢
      have hl : (hi (n / 128) ++ [UInt8.ofNat (n % 128 + 128)]).length = (hi (n / 128)).length + 1 := by simp
      rw [hl] at hk ⊢
      rw [List.append_assoc, ih (n / 128) (by omega) k acc _ (by omega)]
      obtain ⟨j, hj⟩ : ∃ j, k - (hi (n / 128)).length = j + 1 := ⟨k - (hi (n / 128)).length - 1, by omega⟩
      have e : (UInt8.ofNat (n % 128 + 128)).toNat = n % 128 + 128 := ofNat_toNat (by omega)
      rw [hj, show k - ((hi (n / 128)).length + 1) = j by omega]
      simp only [List.cons_append, List.nil_append, rd, e]
      rw [if_neg (by omega), Option.map_map]
      have e2 : (acc * 128 ^ (hi (n / 128)).length + n / 128) * 128 + (n % 128 + 128 - 128) = acc * 128 ^ ((hi (n / 128)).length + 1) + n := by
        rw [Nat.pow_succ, ← Nat.mul_assoc]; omega
      rw [e2]
      cases rd j (acc * 128 ^ ((hi (n / 128)).length + 1) + n) r with
      | none => rfl
      | some p => simp only [Option.map_some, Function.comp_apply, Nat.add_assoc, Nat.add_comm 1]
theorem hi_head_ne {n : Nat} (h : 0 < n) : ∀ r, (hi n ++ r)[0]? ≠ some 128 := by
  induction n using Nat.strongRecOn with
  | ind n ih =>
    intro r
    by_cases h1 : n < 128
    · rw [hi_small h1]
      intro e
      simp at e
      have := congrArg UInt8.toNat e
      rw [ofNat_toNat (by omega)] at this
      simp at this; omega
    · rw [hi_big (by omega), List.append_assoc]
      exact ih (n / 128) (by omega) (by omega) _
theorem put_head_ne (n : Nat) (r : Str) : (put n ++ r)[0]? ≠ some 128 := by
  unfold put
  split
  · intro e
    simp at e
    have := congrArg UInt8.toNat e
    rw [ofNat_toNat (by omega)] at this
    simp at this; omega
  · rw [List.append_assoc]; exact hi_head_ne (by omega) _
theorem rd_put {n : Nat} (h : n < 128 ^ 9) (r : Str) : rd 9 0 (put n ++ r) = some (n, (put n).length) := by
  unfold put
  split
  · rename_i h1
    have e : (UInt8.ofNat n).toNat = n := ofNat_toNat (by omega)
    simp only [List.cons_append, List.nil_append, rd, e]
    rw [if_pos h1]; simp
  · rename_i h1
    have hl : (hi (n / 128)).length ≤ 8 := hi_pow 8 (n / 128) (by omega) (by rw [show (128 : Nat) ^ 9 = 128 ^ 8 * 128 from rfl] at h; omega)
    rw [List.append_assoc, rd_hi (n / 128) 9 0 _ (by omega)]
    obtain ⟨j, hj⟩ : ∃ j, 9 - (hi (n / 128)).length = j + 1 := ⟨9 - (hi (n / 128)).length - 1, by omega⟩
    have e : (UInt8.ofNat (n % 128)).toNat = n % 128 := ofNat_toNat (by omega)
    rw [hj]
    simp only [List.cons_append, List.nil_append, rd, e]
    rw [if_pos (by omega)]
    simp only [Option.map_some, Nat.zero_mul, Nat.zero_add, List.length_append, List.length_cons, List.length_nil]
    congr 2
    · omega
    · omega
/-- What is written is read. -/
theorem get_put {n : Nat} (h : n < 128 ^ 9) (a r : Str) : get (a ++ put n ++ r) a.length = some (n, a.length + (put n).length) := by
  unfold get
  have e : (a ++ put n ++ r)[a.length]? = (put n ++ r)[0]? := by
    rw [List.append_assoc, List.getElem?_append_right (by omega), Nat.sub_self]
  rw [e, if_neg (put_head_ne n r), List.append_assoc, List.drop_left, rd_put h]
  rfl
theorem rd_back : ∀ (k acc : Nat) (l : Str) (n c : Nat), 0 < acc → rd k acc l = some (n, c) → hi acc ++ l.take c = put n ∧ c ≤ l.length ∧ c ≤ k ∧ n < (acc + 1) * 128 ^ k
  | 0, _, _, _, _, _, h => by cases h
  | _ + 1, _, [], _, _, _, h => by cases h
  | k + 1, acc, x :: r, n, c, ha, h => by
    have hx := x.toNat_lt
    unfold rd at h
    split at h
    · rename_i h1
      injection h with h
      injection h with e1 e2
      subst e1 e2
      refine ⟨?_, by simp, by omega, ?_⟩
      · rw [put_step ha h1, toNat_ofNat]; simp
      · have : 1 ≤ 128 ^ k := Nat.pow_pos (by omega)
        rw [Nat.pow_succ]
        have : (acc + 1) * (128 ^ k * 128) = (acc + 1) * 128 * 128 ^ k := by rw [Nat.mul_comm (128 ^ k), Nat.mul_assoc]
        rw [this]
        have h3 : acc * 128 + x.toNat < (acc + 1) * 128 := by omega
        exact Nat.lt_of_lt_of_le h3 (Nat.le_mul_of_pos_right _ (by omega))
    · rename_i h1
      cases hr : rd k (acc * 128 + (x.toNat - 128)) r with
      | none => rw [hr] at h; cases h
      | some p =>
        obtain ⟨n', c'⟩ := p
        rw [hr] at h
        simp only [Option.map_some, Option.some.injEq, Prod.mk.injEq] at h
        obtain ⟨rfl, rfl⟩ := h
        obtain ⟨h2, h3, h4, h5⟩ := rd_back k _ r n' c' (by omega) hr
        refine ⟨?_, by simp; omega, by omega, ?_⟩
        · rw [hi_step ha (by omega), show x.toNat - 128 + 128 = x.toNat by omega, toNat_ofNat] at h2
          rw [List.take_succ_cons, ← h2]; simp
        · refine Nat.lt_of_lt_of_le h5 ?_
          rw [Nat.pow_succ, Nat.mul_comm (128 ^ k), ← Nat.mul_assoc]
          exact Nat.mul_le_mul_right _ (by omega)
/-- What is read is just what is written. -/
theorem get_back {s : Str} {p n e : Nat} (h : get s p = some (n, e)) : e ≤ s.length ∧ p < e ∧ e ≤ p + 9 ∧ (s.drop p).take (e - p) = put n ∧ n < 128 ^ 9 := by
  unfold get at h
  split at h
  · cases h
  · rename_i hne
    cases hr : rd 9 0 (s.drop p) with
    | none => rw [hr] at h; cases h
    | some q =>
      obtain ⟨n', c⟩ := q
      rw [hr] at h
      simp only [Option.map_some, Option.some.injEq, Prod.mk.injEq] at h
      obtain ⟨rfl, rfl⟩ := h
      cases hd : s.drop p with
      | nil => rw [hd] at hr; cases hr
      | cons x r =>
        have hpl : p < s.length := by
          rcases Nat.lt_or_ge p s.length with h | h
          · exact h
          · rw [List.drop_eq_nil_iff.2 h] at hd; cases hd
        have hlen : (s.drop p).length = s.length - p := List.length_drop
        rw [hd] at hr hlen
        have hx0 : s[p]? = some x := by
          have : (s.drop p)[0]? = some x := by rw [hd]; rfl
          rwa [List.getElem?_drop, Nat.add_zero] at this
        have hx := x.toNat_lt
        simp only [List.length_cons] at hlen
        unfold rd at hr
        split at hr
        · rename_i h1
          simp only [Option.some.injEq, Prod.mk.injEq] at hr
          obtain ⟨e1, rfl⟩ := hr
          obtain rfl : n' = x.toNat := by omega
          refine ⟨by omega, by omega, by omega, ?_, Nat.lt_of_lt_of_le h1 (by decide)⟩
          rw [show p + 1 - p = 1 by omega]
          unfold put
          rw [if_pos h1, toNat_ofNat]; rfl
        · rename_i h1
          cases hr2 : rd 8 (0 * 128 + (x.toNat - 128)) r with
          | none => rw [hr2] at hr; cases hr
          | some q =>
            obtain ⟨n2, c2⟩ := q
            rw [hr2] at hr
            simp only [Option.map_some, Option.some.injEq, Prod.mk.injEq] at hr
            obtain ⟨rfl, rfl⟩ := hr
            have hx128 : x.toNat ≠ 128 := by
              intro e
              rw [hx0] at hne
              exact hne (by rw [← toNat_ofNat x, e]; rfl)
            rw [Nat.zero_mul, Nat.zero_add] at hr2
            obtain ⟨h2, h3, h4, h5⟩ := rd_back 8 _ r n2 c2 (by omega) hr2
            refine ⟨by omega, by omega, by omega, ?_, ?_⟩
            · rw [show p + (c2 + 1) - p = c2 + 1 by omega, List.take_succ_cons, ← h2, hi_small (by omega), show x.toNat - 128 + 128 = x.toNat by omega, toNat_ofNat]; rfl
            · refine Nat.lt_of_lt_of_le h5 ?_
              rw [show (128 : Nat) ^ 9 = 128 * 128 ^ 8 from rfl]
              exact Nat.mul_le_mul_right _ (by omega)
theorem pow9 : (128 : Nat) ^ 9 = 9223372036854775808 := by decide
theorem put_len_pos (n : Nat) : 0 < (put n).length := by unfold put; split <;> simp
theorem put_len_le {n : Nat} (h : n < 128 ^ 9) : (put n).length ≤ 9 := by
  unfold put
  split
  · simp
  · have := hi_pow 8 (n / 128) (by omega) (by rw [show (128 : Nat) ^ 9 = 128 ^ 8 * 128 from rfl] at h; omega)
    simp; omega
end Go.Proofs.Ytenbgfejonokdaa.Var
