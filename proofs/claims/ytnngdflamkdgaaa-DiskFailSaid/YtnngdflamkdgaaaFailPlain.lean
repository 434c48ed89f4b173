/- A disk with a Fail set beside one without: the plain law. -/
import Derived.Test.YtnngdflamkdgaaaDiskCrash
namespace Go.Proofs.Ytnngdflamkdgaaa
open Go.RowKit Go.Maps
open Dsk

def armed (d : Dk) (n : Int) (keep : List Int) : Dk := { d with fail := some n, keep := keep }
def withF (d : Dk) (m : Files) : Dk := { d with files := m }
theorem armed_change (d : Dk) (n : Int) (keep : List Int) (m : Files) : (armed d n keep).change m = if n ≤ 0 then (51, (armed d n keep).crashed keep) else (0, armed (withF d m) (n - 1) keep) := rfl
theorem plain_change {d : Dk} (hf : d.fail = none) (m : Files) : d.change m = (0, withF d m) := by
  obtain ⟨a1, a2, a3, a4, fl, a5⟩ := d
  obtain rfl : fl = none := hf
  rfl
/-- What one act comes to, on a disk without a Fail and on one with it. -/
def Beside (d : Dk) (a : ActS) : Prop :=
  ((stepA d a).1 ≠ 0 ∧ (stepA d a).2 = d ∧ ∀ n keep, stepA (armed d n keep) a = ((stepA d a).1, armed d n keep)) ∨
  ((stepA d a).1 = 0 ∧ ∃ m, (stepA d a).2 = withF d m ∧ ∀ n keep, stepA (armed d n keep) a = if n ≤ 0 then (51, (armed (withF d (if a.kind % 12 < 4 then m else d.files)) n keep).crashed keep) else (0, armed (withF d m) (n - 1) keep))
theorem beside_same {d : Dk} {a : ActS} {e : Int} (he : e ≠ 0) (h1 : stepA d a = (e, d)) (h2 : ∀ n keep, stepA (armed d n keep) a = (e, armed d n keep)) : Beside d a := by
  refine .inl ⟨by rw [h1]; exact he, by rw [h1], fun n keep => ?_⟩
  rw [h1]; exact h2 n keep
theorem beside_change {d : Dk} {a : ActS} {m : Files} (hf : d.fail = none) (hk : ¬ a.kind % 12 < 4) (h1 : stepA d a = d.change m) (h2 : ∀ n keep, stepA (armed d n keep) a = (armed d n keep).change m) : Beside d a := by
  rw [plain_change hf] at h1
  refine .inr ⟨by rw [h1], m, by rw [h1], fun n keep => ?_⟩
  rw [h2, armed_change, if_neg hk]; rfl
theorem beside {d : Dk} (hoff : d.off = false) (hf : d.fail = none) {a : ActS} (hk : a.kind % 12 ≤ 7) : Beside d a := by
  have hoff2 : ∀ n keep, (armed d n keep).off = false := fun _ _ => hoff
  by_cases h45 : a.kind % 12 = 4 ∨ a.kind % 12 = 5
  · have e : ∀ x : Dk, stepA x a = x.sync a.name.data.toList := fun x => by unfold stepA; rw [if_pos h45]
    cases hg : get d.files a.name.data.toList with
    | none =>
      refine beside_same (e := 4) (by omega) ?_ fun n keep => ?_
      · rw [e]; unfold Dk.sync; rw [if_neg (by simp [hoff]), hg]
      · rw [e]; unfold Dk.sync; rw [if_neg (by simp [hoff2]), show (armed d n keep).files = d.files from rfl, hg]
    | some f =>
      refine beside_change (m := put d.files a.name.data.toList ⟨f.data, f.data.length⟩) hf (by omega) ?_ fun n keep => ?_
      · rw [e]; unfold Dk.sync; rw [if_neg (by simp [hoff]), hg]
      · rw [e]; unfold Dk.sync; rw [if_neg (by simp [hoff2]), show (armed d n keep).files = d.files from rfl, hg]
  by_cases h6 : a.kind % 12 = 6
  · have e : ∀ x : Dk, stepA x a = x.rename a.name.data.toList a.other.data.toList := fun x => by unfold stepA; rw [if_neg h45, if_pos h6]
    cases hg : get d.files a.name.data.toList with
    | none =>
      refine beside_same (e := 4) (by omega) ?_ fun n keep => ?_
      · rw [e]; unfold Dk.rename; rw [if_neg (by simp [hoff]), hg]
      · rw [e]; unfold Dk.rename; rw [if_neg (by simp [hoff2]), show (armed d n keep).files = d.files from rfl, hg]
    | some f =>
      by_cases hn : Named a.other.data.toList
      · refine beside_change (m := put (del d.files a.name.data.toList) a.other.data.toList f) hf (by omega) ?_ fun n keep => ?_
        · rw [e]; unfold Dk.rename; rw [if_neg (by simp [hoff]), hg]; simp only; rw [if_neg (by simp [hn])]
        · rw [e]; unfold Dk.rename; rw [if_neg (by simp [hoff2]), show (armed d n keep).files = d.files from rfl, hg]; simp only; rw [if_neg (by simp [hn])]
      · refine beside_same (e := 2) (by omega) ?_ fun n keep => ?_
        · rw [e]; unfold Dk.rename; rw [if_neg (by simp [hoff]), hg]; simp only; rw [if_pos hn]
        · rw [e]; unfold Dk.rename; rw [if_neg (by simp [hoff2]), show (armed d n keep).files = d.files from rfl, hg]; simp only; rw [if_pos hn]
  by_cases h7 : a.kind % 12 = 7
  · have e : ∀ x : Dk, stepA x a = x.remove a.name.data.toList := fun x => by unfold stepA; rw [if_neg h45, if_neg h6, if_pos h7]
    cases hg : get d.files a.name.data.toList with
    | none =>
      refine beside_same (e := 4) (by omega) ?_ fun n keep => ?_
      · rw [e]; unfold Dk.remove; rw [if_neg (by simp [hoff]), hg]
      · rw [e]; unfold Dk.remove; rw [if_neg (by simp [hoff2]), show (armed d n keep).files = d.files from rfl, hg]
    | some f =>
      refine beside_change (m := del d.files a.name.data.toList) hf (by omega) ?_ fun n keep => ?_
      · rw [e]; unfold Dk.remove; rw [if_neg (by simp [hoff]), hg]
      · rw [e]; unfold Dk.remove; rw [if_neg (by simp [hoff2]), show (armed d n keep).files = d.files from rfl, hg]
  have e : ∀ x : Dk, stepA x a = x.append a.name.data.toList a.data.data.toList := fun x => by
    unfold stepA
    rw [if_neg h45, if_neg h6, if_neg h7, if_neg (by omega), if_neg (by omega), if_neg (by omega)]
  by_cases hn : Named a.name.data.toList
  · by_cases hfull : (get d.files a.name.data.toList = none ∧ 1024 ≤ d.files.length) ∨ d.room < total d.files + a.data.data.toList.length
    · refine beside_same (e := 50) (by omega) ?_ fun n keep => ?_
      · rw [e]; unfold Dk.append; rw [if_neg (by simp [hoff]), if_neg (by simp [hn]), if_pos hfull]
      · rw [e]; unfold Dk.append; rw [if_neg (by simp [hoff2]), if_neg (by simp [hn])]; exact if_pos hfull
    · have h1 : stepA d a = (0, withF d (put d.files a.name.data.toList ⟨((get d.files a.name.data.toList).getD ⟨[], 0⟩).data ++ a.data.data.toList, ((get d.files a.name.data.toList).getD ⟨[], 0⟩).safe⟩)) := by
        rw [e]; unfold Dk.append; rw [if_neg (by simp [hoff]), if_neg (by simp [hn]), if_neg hfull]
        exact plain_change (d := withF d (put d.files a.name.data.toList ⟨((get d.files a.name.data.toList).getD ⟨[], 0⟩).data ++ a.data.data.toList, ((get d.files a.name.data.toList).getD ⟨[], 0⟩).safe⟩)) hf _
      refine .inr ⟨by rw [h1], _, by rw [h1], fun n keep => ?_⟩
      rw [e]; unfold Dk.append; rw [if_neg (by simp [hoff2]), if_neg (by simp [hn]), if_pos (show a.kind % 12 < 4 by omega)]
      refine (if_neg hfull).trans ?_
      rfl
  · refine beside_same (e := 2) (by omega) ?_ fun n keep => ?_
    · rw [e]; unfold Dk.append; rw [if_neg (by simp [hoff]), if_pos hn]
    · rw [e]; unfold Dk.append; rw [if_neg (by simp [hoff2]), if_pos hn]
end Go.Proofs.Ytnngdflamkdgaaa
