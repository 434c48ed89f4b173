/- Cursors as bytes, in plain Lean. -/
import Derived.Test.YtenbgfejonokdaaVarP
namespace Go.Proofs.Ytenbgfejonokdaa.Cur
open Var (Str)

def May (a b : Int) : Prop := 0 ≤ a ∧ a ≤ 2147483647 ∧ 0 ≤ b ∧ b ≤ 2147483647
instance (a b : Int) : Decidable (May a b) := by unfold May; exact inferInstance
/-- A cursor's bytes; and why there are none. -/
def enc (a b : Int) : Str × Int := if May a b then (67 :: (Var.put a.toNat ++ Var.put b.toNat), 0) else ([], 2)
/-- The cursor of some bytes. -/
def dec (s : Str) : Option (Int × Int) :=
  if s[0]? = some 67 then
    match Var.get s 1 with
    | none => none
    | some (n, p) => match Var.get s p with
      | none => none
      | some (g, e) => if e = s.length ∧ May n g then some (n, g) else none
  else none
def decR (s : Str) : (Int × Int) × Int := match dec s with | some c => (c, 0) | none => ((0, 0), 30)
theorem may_lt {n : Int} (h : 0 ≤ n ∧ n ≤ 2147483647) : n.toNat < 128 ^ 9 := by rw [Var.pow9]; omega
/-- What is encoded is decoded. -/
theorem dec_enc {a b : Int} (h : May a b) : dec (enc a b).1 = some (a, b) := by
  obtain ⟨h1, h2, h3, h4⟩ := id h
  unfold enc
  rw [if_pos h]
  unfold dec
  simp only [List.getElem?_cons_zero, if_true]
  have g1 := Var.get_put (may_lt ⟨h1, h2⟩) [67] (Var.put b.toNat)
  have g2 := Var.get_put (may_lt ⟨h3, h4⟩) ([67] ++ Var.put a.toNat) []
  rw [List.append_nil] at g2
  have e1 : [67] ++ Var.put a.toNat ++ Var.put b.toNat = 67 :: (Var.put a.toNat ++ Var.put b.toNat) := by simp
  rw [e1] at g1 g2
  have l1 : ([67] : Str).length = 1 := rfl
  rw [l1] at g1
  rw [g1]
  simp only
  have l2 : ([67] ++ Var.put a.toNat).length = 1 + (Var.put a.toNat).length := by rw [List.length_append]; rfl
  rw [l2] at g2
  rw [g2]
  simp only
  have ea : ((a.toNat : Nat) : Int) = a := by omega
  have eb : ((b.toNat : Nat) : Int) = b := by omega
  rw [ea, eb, if_pos ⟨by simp; omega, h⟩]
theorem dec_may {s : Str} {c : Int × Int} (h : dec s = some c) : May c.1 c.2 := by
  unfold dec at h
  split at h
  · split at h
    · cases h
    · split at h
      · cases h
      · split at h
        · rename_i hh
          cases h
          exact hh.2
        · cases h
  · cases h
/-- What is decoded is encoded. -/
theorem enc_dec {s : Str} {a b : Int} (h : dec s = some (a, b)) : enc a b = (s, 0) := by
  have hm := dec_may h
  unfold dec at h
  split at h
  · rename_i h0
    split at h
    · cases h
    · rename_i n p h1
      split at h
      · cases h
      · rename_i g e h2
        split at h
        · rename_i hh
          obtain ⟨rfl, hm2⟩ := hh
          simp only [Option.some.injEq, Prod.mk.injEq] at h
          obtain ⟨rfl, rfl⟩ := h
          obtain ⟨q1, q2, q3, q4, _⟩ := Var.get_back h1
          obtain ⟨r1, r2, r3, r4, _⟩ := Var.get_back h2
          unfold enc
          rw [if_pos hm]
          simp only [Int.toNat_natCast, Prod.mk.injEq, and_true]
          rw [← q4, ← r4]
          cases s with
          | nil => simp at h0
          | cons c r =>
            simp only [List.getElem?_cons_zero, Option.some.injEq] at h0
            subst h0
            congr 1
            have hp : p - 1 ≤ r.length := by simp at q1; omega
            have e1 : (67 :: r).drop 1 = r := rfl
            have e2 : (67 :: r).drop p = r.drop (p - 1) := by
              obtain ⟨q, rfl⟩ : ∃ q, p = q + 1 := ⟨p - 1, by omega⟩
              rfl
            rw [e1, e2, List.length_cons, List.take_of_length_le (show (r.drop (p - 1)).length ≤ r.length + 1 - p by rw [List.length_drop]; omega), List.take_append_drop]
        · cases h
  · cases h
theorem enc_some {a b : Int} (h : May a b) : enc a b = (67 :: (Var.put a.toNat ++ Var.put b.toNat), 0) := by unfold enc; rw [if_pos h]
theorem enc_none {a b : Int} (h : ¬ May a b) : enc a b = ([], 2) := by unfold enc; rw [if_neg h]
theorem enc_length (a b : Int) : (enc a b).1.length ≤ 19 := by
  unfold enc
  split
  · rename_i h
    obtain ⟨h1, h2, h3, h4⟩ := h
    have := Var.put_len_le (may_lt ⟨h1, h2⟩)
    have := Var.put_len_le (may_lt ⟨h3, h4⟩)
    simp; omega
  · simp
end Go.Proofs.Ytenbgfejonokdaa.Cur
