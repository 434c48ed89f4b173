/- 'DiskCrash': the plain law; rows that stay. -/
import Derived.Test.YtenbgfejonokdaaLiveM
namespace Go.Proofs.Ytenbgfejonokdaa
open Go.RowKit Go.Maps
open Dsk

/-- How many of the bytes that were not safe stay. -/
def moreOf (f : Fl) (k : Option Int) : Int := match k with | some x => max 0 (min x ((f.data.length : Int) - f.safe)) | none => 0
theorem stays_more {f : Fl} (h : f.safe ≤ f.data.length) (k : Option Int) : (stays f k : Int) = (f.data.length : Int) - ((f.data.length : Int) - f.safe) + moreOf f k := by
  unfold stays moreOf
  cases k with
  | none => simp only [Option.getD_none]; omega
  | some x => simp only [Option.getD_some]; omega
theorem cutL_get (keep : List Int) : ∀ (i : Nat) (m : Files) (k : Nat) (hk : k < m.length) (hk' : k < (cutL keep i m).length), (cutL keep i m)[k] = (m[k].1, cutF m[k].2 keep[i + k]?)
  | _, [], k, hk, _ => absurd hk (by simp)
  | i, p :: r, 0, _, _ => rfl
  | i, p :: r, k + 1, hk, hk' => by
    have := cutL_get keep (i + 1) r k (by simpa using hk) (by simpa [cutL] using hk')
    simp only [cutL, List.getElem_cons_succ]
    rw [this, show i + 1 + k = i + (k + 1) by omega]
/-- A disk that was up, crashed, and was started again. -/
def backUp (d : Dk) (keep : List Int) : Dk := ((d.crashed keep).start).2
theorem backUp_files (d : Dk) (keep : List Int) : (backUp d keep).files = cutL keep 0 d.files := rfl
theorem backUp_off (d : Dk) (keep : List Int) : (backUp d keep).off = false := rfl
theorem backUp_names (d : Dk) (keep : List Int) : names (backUp d keep).files = names d.files := cutL_names keep 0 d.files
theorem backUp_length (d : Dk) (keep : List Int) : (backUp d keep).files.length = d.files.length := cutL_length keep 0 d.files
theorem cutF_whole {f : Fl} (h : f.safe = f.data.length) (k : Option Int) : cutF f k = f := by
  have e : stays f k = f.data.length := by unfold stays; omega
  obtain ⟨a, b⟩ := f
  unfold cutF
  rw [e]
  simp at h ⊢
  exact h.symm
theorem cutL_all : ∀ (i : Nat) (m : Files), (∀ p ∈ m, p.2.safe = p.2.data.length) → cutL [] i m = m
  | _, [], _ => rfl
  | i, p :: r, h => by
    simp only [cutL]
    rw [cutF_whole (h p (by simp)), cutL_all (i + 1) r fun q hq => h q (by simp [hq])]
theorem backUp_again {d : Dk} (h : Ok d) (keep : List Int) : (backUp (backUp d keep) []).files = (backUp d keep).files := by
  show cutL [] 0 (cutL keep 0 d.files) = cutL keep 0 d.files
  refine cutL_all 0 _ fun p hp => ?_
  obtain ⟨q, hq, k, rfl⟩ := cutL_mem hp
  show stays q.2 k = _
  exact (cutF_len (h.safe q hq) k).symm
theorem crash_up {d : Dk} (h : d.off = false) (keep : List Int) : d.crash keep = (0, d.crashed keep) := by unfold Dk.crash; rw [if_neg (by simp [h])]
theorem crash_down (d : Dk) (keep keep2 : List Int) : (d.crashed keep).crash keep2 = (51, d.crashed keep) := rfl
theorem start_down (d : Dk) (keep : List Int) : (d.crashed keep).start = (0, backUp d keep) := rfl
end Go.Proofs.Ytenbgfejonokdaa
