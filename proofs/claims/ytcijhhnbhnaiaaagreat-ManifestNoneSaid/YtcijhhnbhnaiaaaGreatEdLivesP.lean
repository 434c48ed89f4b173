/- The chapter's edits, reckoned. -/
import Derived.Test.YtcijhhnbhnaiaaaGreatEdSame
namespace Go.Proofs.YtcijhhnbhnaiaaaGreat
set_option linter.unusedSimpArgs false
set_option linter.unusedVariables false
set_option maxRecDepth 100000
open Go.RowKit

theorem lt_lit (a b : Array UInt8) : Ed.lt ⟨a⟩ ⟨b⟩ = Op.bytesLess a.toList b.toList := by
  unfold Ed.lt; rw [ByteArray.toList_eq, ByteArray.toList_eq]
def txt (c : UInt8) : ByteArray := ⟨#[c]⟩
def e1 : Ed.Edit := ⟨1, 0, 5, [], ⟨#[]⟩⟩
def e2 : Ed.Edit := ⟨3, 0, 0, [], ⟨#[109]⟩⟩
def e3 : Ed.Edit := ⟨1, 1, 7, [], ⟨#[]⟩⟩
def e4 : Ed.Edit := ⟨4, 0, 0, [], ⟨#[]⟩⟩
def e5 : Ed.Edit := ⟨1, 0, 1, [], ⟨#[]⟩⟩
def sA1 : Ed.St := ⟨[⟨⟨#[]⟩, [5]⟩], 1, 6⟩
def sA2 : Ed.St := ⟨[⟨⟨#[]⟩, [5]⟩, ⟨⟨#[109]⟩, [5]⟩], 1, 6⟩
def sA : Ed.St := ⟨[⟨⟨#[]⟩, [5]⟩, ⟨⟨#[109]⟩, [5, 7]⟩], 1, 8⟩
def sM : Ed.St := ⟨[⟨⟨#[]⟩, [5, 7]⟩], 1, 8⟩
theorem rising_nil (b : Int) : Ed.Rising [] b := fun j hj => absurd hj (by simp)
theorem rising_one (a b : Int) (h : 1 ≤ a ∧ a < b) : Ed.Rising [a] b := fun j hj => by
  obtain rfl : j = 0 := by simp at hj; omega
  exact ⟨h.1, h.2, fun h => absurd h (by omega)⟩
theorem rising_57 : Ed.Rising [5, 7] 8 := (Ed.rising_iff _ _).2 ⟨by intro n hn; simp at hn; omega, by simp⟩
theorem valid_one (l : List Int) (log next : Int) (h : 1 ≤ log ∧ log < next ∧ next ≤ 2147483647) (hr : Ed.Rising l next) (hl : l.length ≤ 128) : Ed.Valid ⟨[⟨⟨#[]⟩, l⟩], log, next⟩ :=
  ⟨by simp, by simp, rfl, h.1, h.2.1, h.2.2, fun j hj => by
    obtain rfl : j = 0 := by simp at hj; omega
    exact ⟨by show (⟨#[]⟩ : ByteArray).size ≤ 64; decide, fun h => absurd h (by omega), hr, hl⟩⟩
theorem valid_two (l m : List Int) (log next : Int) (h : 1 ≤ log ∧ log < next ∧ next ≤ 2147483647) (hr : Ed.Rising l next) (hl : l.length ≤ 128) (hr2 : Ed.Rising m next) (hl2 : m.length ≤ 128) : Ed.Valid ⟨[⟨⟨#[]⟩, l⟩, ⟨⟨#[109]⟩, m⟩], log, next⟩ :=
  ⟨by simp, by simp, rfl, h.1, h.2.1, h.2.2, fun j hj => by
    rcases (show j = 0 ∨ j = 1 by simp at hj; omega) with rfl | rfl
    · exact ⟨by show (⟨#[]⟩ : ByteArray).size ≤ 64; decide, fun h => absurd h (by omega), hr, hl⟩
    · exact ⟨by show (⟨#[109]⟩ : ByteArray).size ≤ 64; decide, fun _ => by show Ed.lt ⟨#[]⟩ ⟨#[109]⟩ = true; rw [lt_lit]; rfl, hr2, hl2⟩⟩
theorem valid0 : Ed.Valid st0 := valid_one [] 1 2 (by omega) (rising_nil _) (by simp)
theorem validA1 : Ed.Valid sA1 := valid_one [5] 1 6 (by omega) (rising_one _ _ (by omega)) (by simp)
theorem validA2 : Ed.Valid sA2 := valid_two [5] [5] 1 6 (by omega) (rising_one _ _ (by omega)) (by simp) (rising_one _ _ (by omega)) (by simp)
theorem validA : Ed.Valid sA := valid_two [5] [5, 7] 1 8 (by omega) (rising_one _ _ (by omega)) (by simp) rising_57 (by simp)
theorem validM : Ed.Valid sM := valid_one [5, 7] 1 8 (by omega) rising_57 (by simp)
theorem apply_some {s s' : Ed.St} {e : Ed.Edit} (h : Ed.Valid s) (hf : 0 ≤ e.file ∧ e.file < 2147483647) (hd : Ed.doesP s e = some s') (h' : Ed.Valid s') : Ed.applyP s e = some s' := by
  unfold Ed.applyP
  rw [if_pos ⟨h, hf⟩, hd]
  exact if_pos h'
theorem ap1 : Ed.applyP st0 e1 = some sA1 := by
  refine apply_some valid0 (by decide) ?_ validA1
  unfold Ed.doesP e1
  rw [if_neg (by decide), dif_pos (by decide), if_pos (by decide), if_pos (by decide)]
  rfl
theorem ap2 : Ed.applyP sA1 e2 = some sA2 := by
  refine apply_some validA1 (by decide) ?_ validA2
  unfold Ed.doesP e2
  rw [if_neg (by decide), dif_pos (by decide), if_neg (by decide), if_neg (by decide), if_pos (by decide)]
  rfl
theorem ap3 : Ed.applyP sA2 e3 = some sA := by
  refine apply_some validA2 (by decide) ?_ validA
  unfold Ed.doesP e3
  rw [if_neg (by decide), dif_pos (by decide), if_pos (by decide), if_pos (by decide)]
  rfl
theorem apAll : allQ st0 [e1, e2, e3] = some sA := by
  unfold allQ
  rw [if_pos valid0]
  unfold Ed.allP
  rw [ap1]
  show Ed.allP sA1 [e2, e3] = _
  unfold Ed.allP
  rw [ap2]
  show Ed.allP sA2 [e3] = _
  unfold Ed.allP
  rw [ap3]
  rfl
theorem ap4 : Ed.applyP sA e4 = some sM := by
  refine apply_some validA (by decide) ?_ validM
  unfold Ed.doesP e4
  rw [if_neg (by decide), dif_pos (by decide), if_neg (by decide), if_neg (by decide), if_neg (by decide), if_pos (by decide), dif_pos (by decide)]
  rfl
theorem ap5 : Ed.applyP st0 e5 = none := by
  unfold Ed.applyP
  rw [if_pos ⟨valid0, by decide⟩]
  have : Ed.doesP st0 e5 = none := by
    unfold Ed.doesP e5
    rw [if_neg (by decide), dif_pos (by decide), if_pos (by decide), if_neg (by decide)]
  rw [this]
theorem find_a : findI sA ⟨#[97]⟩ = 0 :=
  findI_eq (r := 0) validA ⟨by decide, by show Ed.lt ⟨#[97]⟩ ⟨#[]⟩ = false; rw [lt_lit]; rfl, fun _ => by show Ed.lt ⟨#[97]⟩ ⟨#[109]⟩ = true; rw [lt_lit]; rfl⟩
theorem find_m : findI sA ⟨#[109]⟩ = 1 :=
  findI_eq (r := 1) validA ⟨by decide, by show Ed.lt ⟨#[109]⟩ ⟨#[109]⟩ = false; rw [lt_lit]; rfl, fun h => absurd h (by decide)⟩
theorem find_z : findI sA ⟨#[122]⟩ = 1 :=
  findI_eq (r := 1) validA ⟨by decide, by show Ed.lt ⟨#[122]⟩ ⟨#[109]⟩ = false; rw [lt_lit]; rfl, fun h => absurd h (by decide)⟩
end Go.Proofs.YtcijhhnbhnaiaaaGreat
