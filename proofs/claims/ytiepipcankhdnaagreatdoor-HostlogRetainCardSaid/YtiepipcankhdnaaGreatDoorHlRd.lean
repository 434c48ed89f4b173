/- A host's log: which records a page has, plainly. No program in sight. -/
import Derived.Test.YtiepipcankhdnaaGreatDoorHlC
namespace Go.Proofs.YtiepipcankhdnaaGreatDoor
set_option linter.unusedSimpArgs false
set_option linter.unusedVariables false
open Dsk

/-- Records with their numbers. -/
def numFrom : Nat → List Sp.Span → List (Nat × Sp.Span)
  | _, [] => []
  | n, x :: l => (n, x) :: numFrom (n + 1) l
def numbered (l : List Sg) : List (Nat × Sp.Span) := l.flatMap fun a => numFrom a.first a.spans
theorem numFrom_length : ∀ (l : List Sp.Span) (n : Nat), (numFrom n l).length = l.length
  | [], _ => rfl
  | _ :: l, n => by simp [numFrom, numFrom_length l (n + 1)]
theorem numFrom_append : ∀ (a b : List Sp.Span) (n : Nat), numFrom n (a ++ b) = numFrom n a ++ numFrom (n + a.length) b
  | [], b, n => by simp [numFrom]
  | x :: a, b, n => by
    simp only [List.cons_append, numFrom, List.length_cons]
    rw [numFrom_append a b (n + 1), show n + 1 + a.length = n + (a.length + 1) by omega]
theorem numFrom_get : ∀ (l : List Sp.Span) (n i : Nat) (hi : i < (numFrom n l).length), (numFrom n l)[i] = (n + i, l[i]'(by rw [numFrom_length] at hi; exact hi))
  | x :: l, n, 0, _ => rfl
  | x :: l, n, i + 1, hi => by
    show (numFrom (n + 1) l)[i]'(by simpa [numFrom] using hi) = _
    rw [numFrom_get l (n + 1) i]
    simp only [List.getElem_cons_succ, Prod.mk.injEq, and_true]
    omega
/-- A record more of a page, if it is one. -/
def rdStep (f s m : Int) (acc : List Sp.Span) (p : Nat × Sp.Span) : List Sp.Span := if f ≤ p.1 ∧ (p.1 : Int) < s ∧ (acc.length : Int) < m then acc ++ [p.2] else acc
def rdL (f s m : Int) (l : List (Nat × Sp.Span)) : List Sp.Span := l.foldl (rdStep f s m) []
theorem rdL_snoc (f s m : Int) (l : List (Nat × Sp.Span)) (p : Nat × Sp.Span) : rdL f s m (l ++ [p]) = rdStep f s m (rdL f s m l) p := by unfold rdL; rw [List.foldl_append]; rfl
theorem rdStep_len (f s m : Int) (acc : List Sp.Span) (p : Nat × Sp.Span) : (rdStep f s m acc p).length ≤ acc.length + 1 := by unfold rdStep; split <;> simp
theorem rdL_len (f s m : Int) : ∀ l : List (Nat × Sp.Span), (rdL f s m l).length ≤ l.length := fun l => by
  suffices h : ∀ (l : List (Nat × Sp.Span)) acc, (l.foldl (rdStep f s m) acc).length ≤ acc.length + l.length by have := h l []; rw [List.length_nil, Nat.zero_add] at this; exact this
  intro l
  induction l with
  | nil => intro acc; simp
  | cons p l ih =>
    intro acc
    have h1 := ih (rdStep f s m acc p)
    have h2 := rdStep_len f s m acc p
    rw [List.foldl_cons, List.length_cons]
    omega
theorem rd_from (f s m : Nat) : ∀ (l : List Sp.Span) (n : Nat) (acc : List Sp.Span), (numFrom n l).foldl (rdStep f s m) acc = acc ++ ((l.take (s - n)).drop (f - n)).take (m - acc.length)
  | [], n, acc => by simp [numFrom]
  | x :: l, n, acc => by
    rw [numFrom, List.foldl_cons, rd_from f s m l (n + 1)]
    unfold rdStep
    simp only
    by_cases hs : n < s
    · obtain ⟨k, hk⟩ : ∃ k, s - n = k + 1 := ⟨s - n - 1, by omega⟩
      have hk2 : s - (n + 1) = k := by omega
      rw [hk, hk2, List.take_succ_cons]
      by_cases hf : f ≤ n
      · rw [show f - n = 0 by omega, show f - (n + 1) = 0 by omega, List.drop_zero, List.drop_zero]
        by_cases hm : acc.length < m
        · rw [if_pos (by omega)]
          obtain ⟨j, hj⟩ : ∃ j, m - acc.length = j + 1 := ⟨m - acc.length - 1, by omega⟩
          rw [hj, List.take_succ_cons, List.length_append, List.length_singleton, show m - (acc.length + 1) = j by omega, List.append_assoc]
          rfl
        · rw [if_neg (by omega), show m - acc.length = 0 by omega]
          simp
      · rw [if_neg (by omega)]
        obtain ⟨j, hj⟩ : ∃ j, f - n = j + 1 := ⟨f - n - 1, by omega⟩
        rw [hj, show f - (n + 1) = j by omega, List.drop_succ_cons]
    · rw [if_neg (by omega), show s - n = 0 by omega, show s - (n + 1) = 0 by omega]
      simp
theorem numbered_eq : ∀ (l : List Sg), Chained l → numbered l = numFrom (firstOf l) (recs l)
  | [], _ => rfl
  | [a], _ => by simp [numbered, firstOf, recs]
  | a :: b :: r, h => by
    have ih := numbered_eq (b :: r) h.2.2
    show numFrom a.first a.spans ++ numbered (b :: r) = numFrom a.first (a.spans ++ recs (b :: r))
    rw [ih, numFrom_append]
    congr 2
    exact h.2.1
/-- What a page has, and where the next one begins, or why there is none. -/
def readP (d : Dk) (h : Hl) (f m : Int) : List Sp.Span × Int × Int :=
  if ¬ h.runs d then ([], 0, 51)
  else if m < 0 then ([], 0, 2)
  else if f < firstOf h.l ∨ (sureL d h.l 0 : Int) < f then ([], 0, 4)
  else (rdL f (sureL d h.l 0) m (numbered h.l), f + (rdL f (sureL d h.l 0) m (numbered h.l)).length, 0)
theorem rd_law {l : List Sg} (h : Chained l) (f s m : Nat) (hf : firstOf l ≤ f) : rdL f s m (numbered l) = (((recs l).take (s - firstOf l)).drop (f - firstOf l)).take m := by
  unfold rdL
  rw [numbered_eq l h, rd_from]
  simp
theorem numbered_length (l : List Sg) : (numbered l).length = (recs l).length := by
  induction l with
  | nil => rfl
  | cons a l ih => 
    show (numFrom a.first a.spans ++ numbered l).length = (a.spans ++ recs l).length
    rw [List.length_append, List.length_append, ih, numFrom_length]
end Go.Proofs.YtiepipcankhdnaaGreatDoor
