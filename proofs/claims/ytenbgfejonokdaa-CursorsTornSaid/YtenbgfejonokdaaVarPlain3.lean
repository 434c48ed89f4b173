/- Numbers as bytes, read by the document's way. -/
import Derived.Test.YtenbgfejonokdaaVarPlain2
namespace Go.Proofs.Ytenbgfejonokdaa.Var

def fold (acc : Nat) (l : Str) : Nat := l.foldl (fun a c => a * 128 + c.toNat % 128) acc
theorem fold_snoc (acc : Nat) (l : Str) (c : UInt8) : fold acc (l ++ [c]) = fold acc l * 128 + c.toNat % 128 := by unfold fold; rw [List.foldl_append]; rfl
theorem fold_lt' : ∀ (l : Str) (acc : Nat), fold acc l < (acc + 1) * 128 ^ l.length
  | [], acc => by simp [fold]
  | c :: r, acc => by
    have h := fold_lt' r (acc * 128 + c.toNat % 128)
    have hc := Nat.mod_lt c.toNat (show 0 < 128 by decide)
    have e : fold acc (c :: r) = fold (acc * 128 + c.toNat % 128) r := rfl
    rw [e, List.length_cons, Nat.pow_succ, Nat.mul_comm (128 ^ r.length), ← Nat.mul_assoc]
    exact Nat.lt_of_lt_of_le h (Nat.mul_le_mul_right _ (by omega))
theorem fold_lt (l : Str) : fold 0 l < 128 ^ l.length := by have := fold_lt' l 0; omega
theorem rd_all : ∀ (k acc : Nat) (l : Str), (∀ (j : Nat) (hj : j < l.length), 128 ≤ (l[j]).toNat) → rd k acc l = none
  | 0, _, _, _ => rfl
  | _ + 1, _, [], _ => rfl
  | k + 1, acc, c :: r, h => by
    rw [rd, if_neg (by have := h 0 (by simp); simp at this; omega), rd_all k _ r fun j hj => by have := h (j + 1) (by simpa using hj); simpa using this]
    rfl
theorem rd_run : ∀ (e k acc : Nat) (l : Str) (he : e < l.length), (∀ (j : Nat) (hj : j < l.length), j < e → 128 ≤ (l[j]).toNat) → (l[e]).toNat < 128 → rd k acc l = if e < k then some (fold acc (l.take (e + 1)), e + 1) else none
  | e, 0, _, _, _, _, _ => by rw [if_neg (by omega)]; rfl
  | _, _ + 1, _, [], he, _, _ => absurd he (by simp)
  | 0, k + 1, acc, c :: r, _, _, h2 => by
    simp at h2
    rw [rd, if_pos h2, if_pos (by omega)]
    simp [fold, Nat.mod_eq_of_lt h2]
  | e + 1, k + 1, acc, c :: r, he, h1, h2 => by
    have h0 := h1 0 (by simp) (by omega)
    simp only [List.getElem_cons_zero] at h0
    have hc := c.toNat_lt
    rw [rd, if_neg (by omega), rd_run e k _ r (by simpa using he) (fun j hj hje => by have := h1 (j + 1) (by simpa using hj) (by omega); simpa using this) (by simpa using h2)]
    by_cases hek : e < k
    · rw [if_pos hek, if_pos (by omega)]
      simp only [Option.map_some, List.take_succ_cons, fold, List.foldl_cons]
      rw [show c.toNat - 128 = c.toNat % 128 by omega]
    · rw [if_neg hek, if_neg (by omega)]; rfl
/-- The document's reading is the reading. -/
theorem get_all {s : Str} {p : Nat} (h : ∀ (j : Nat) (hj : j < s.length), p ≤ j → 128 ≤ (s[j]).toNat) : get s p = none := by
  unfold get
  rw [rd_all 9 0 _ fun j hj => by rw [List.getElem_drop]; exact h _ _ (by omega)]
  split <;> rfl
theorem get_far {s : Str} {p e : Nat} (h : ∀ (j : Nat) (hj : j < s.length), p ≤ j → j < e → 128 ≤ (s[j]).toNat) (h8 : 8 < e - p) : get s p = none := by
  unfold get
  have : rd 9 0 (s.drop p) = none := by
    have key : ∀ (k acc : Nat) (l : Str), (∀ (j : Nat) (hj : j < l.length), j < k → 128 ≤ (l[j]).toNat) → rd k acc l = none := by
      intro k
      induction k with
      | zero => intro _ _ _; rfl
      | succ k ih =>
        intro acc l hl
        cases l with
        | nil => rfl
        | cons c r =>
          rw [rd, if_neg (by have := hl 0 (by simp) (by omega); simp at this; omega), ih _ r fun j hj hjk => by have := hl (j + 1) (by simpa using hj) (by omega); simpa using this]
          rfl
    exact key 9 0 _ fun j hj hj9 => by rw [List.getElem_drop]; exact h _ _ (by omega) (by omega)
  rw [this]
  split <;> rfl
theorem get_run {s : Str} {p e : Nat} (hp : p ≤ e) (he : e < s.length) (h : ∀ (j : Nat) (hj : j < s.length), p ≤ j → j < e → 128 ≤ (s[j]).toNat) (h2 : (s[e]).toNat < 128) (h8 : e - p ≤ 8) :
    get s p = if put (fold 0 ((s.drop p).take (e - p + 1))) = (s.drop p).take (e - p + 1) then some (fold 0 ((s.drop p).take (e - p + 1)), e + 1) else none := by
  have hr := rd_run (e - p) 9 0 (s.drop p) (by rw [List.length_drop]; omega) (fun j hj hje => by rw [List.getElem_drop]; exact h _ _ (by omega) (by omega)) (by rw [List.getElem_drop]; simpa [show p + (e - p) = e by omega] using h2)
  rw [if_pos (by omega)] at hr
  by_cases h128 : s[p]? = some 128
  · have hg : get s p = none := by unfold get; rw [if_pos h128]
    rw [hg, if_neg]
    intro eq
    have hh := put_head_ne (fold 0 ((s.drop p).take (e - p + 1))) []
    rw [List.append_nil, eq, List.getElem?_take, if_pos (by omega), List.getElem?_drop, Nat.add_zero] at hh
    exact hh h128
  · have hg : get s p = some (fold 0 ((s.drop p).take (e - p + 1)), e + 1) := by
      unfold get
      rw [if_neg h128, hr]
      simp only [Option.map_some]
      rw [show p + (e - p + 1) = e + 1 by omega]
    obtain ⟨_, _, _, h5, _⟩ := get_back hg
    rw [show e + 1 - p = e - p + 1 by omega] at h5
    rw [hg, if_pos h5.symm]
end Go.Proofs.Ytenbgfejonokdaa.Var
