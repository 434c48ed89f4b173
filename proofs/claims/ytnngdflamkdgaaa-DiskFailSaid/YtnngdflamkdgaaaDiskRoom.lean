/- 'DiskRoom', walked. -/
import Derived.Test.YtnngdflamkdgaaaTextsOf
namespace Go.Proofs.Ytnngdflamkdgaaa
open Go.RowKit Go.Maps
open Dsk

theorem bytesLess_before : ∀ a b : List UInt8, Op.bytesLess a b = bytesBefore a b
  | [], [] => rfl
  | [], _ :: _ => rfl
  | _ :: _, [] => rfl
  | a :: r, b :: s => by simp only [Op.bytesLess, bytesBefore, bytesLess_before r s]
theorem leq_false {a b : Str} (h : bytesBefore b a = true) : (Op.bytesLess a b || a == b) = false := by
  rw [bytesLess_before]
  have h1 : bytesBefore a b = false := by
    cases e : bytesBefore a b with
    | false => rfl
    | true => have := before_trans h e; rw [before_irrefl] at this; cases this
  rw [h1, Bool.false_or, beq_eq_false_iff_ne]
  exact (before_ne h).symm
theorem names_at_rising {m : Files} (h : Rising m) (k : Nat) (hk : k < m.length) (h0 : 0 < k) : bytesBefore (m[k - 1]'(by omega)).1 m[k].1 = true :=
  List.pairwise_iff_getElem.1 h (k - 1) k (by omega) hk (by omega)
theorem change_room (d : Dk) (m : Files) : (d.change m).2.room = d.room := by
  unfold Dk.change
  split
  · split <;> rfl
  · rfl
theorem change_ne (d : Dk) (m : Files) : (d.change m).1 ≠ 50 := by
  unfold Dk.change
  split
  · split <;> simp
  · simp
theorem stepA_room (d : Dk) (a : ActS) : (stepA d a).2.room = d.room := by
  unfold stepA Dk.sync Dk.rename Dk.remove Dk.crash Dk.start Dk.failAt Dk.append
  repeat' split
  all_goals first | rfl | exact change_room _ _
theorem stepA_full (d : Dk) (a : ActS) (h : (stepA d a).1 = 50) : (stepA d a).2 = d := by
  revert h
  unfold stepA Dk.sync Dk.rename Dk.remove Dk.crash Dk.start Dk.failAt Dk.append
  repeat' split
  all_goals first | exact fun _ => rfl | (intro h; exact absurd h (change_ne _ _)) | (intro h; simp at h)
theorem playsA_room (d : Dk) (l : List ActS) : (playsA d l).room = d.room := by
  unfold playsA
  induction l generalizing d with
  | nil => rfl
  | cons a l ih => rw [List.foldl_cons, ih, stepA_room]
end Go.Proofs.Ytnngdflamkdgaaa
