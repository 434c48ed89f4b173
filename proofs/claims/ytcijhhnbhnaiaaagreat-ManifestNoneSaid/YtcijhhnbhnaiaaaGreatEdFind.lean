/- Where a key lies; a tablet's stretch; walked. -/
import Derived.Test.YtcijhhnbhnaiaaaGreatEdCheck
import Derived.Test.YtcijhhnbhnaiaaaGreatEdOwn
namespace Go.Proofs.YtcijhhnbhnaiaaaGreat
set_option linter.unusedSimpArgs false
set_option linter.unusedVariables false
set_option maxRecDepth 100000
open Go.RowKit

/-- A key's tablet. -/
def FindAt (l : List Ed.Tab) (key : ByteArray) (r : Nat) : Prop := ∃ h : r < l.length, Ed.lt key l[r].frm = false ∧ ∀ h2 : r + 1 < l.length, Ed.lt key l[r + 1].frm = true
/-- How the two compare. -/
def cmpT (f key : ByteArray) : Int := if Ed.lt f key = true then -1 else if Ed.lt key f = true then 1 else 0
def SearchPost (l : List Ed.Tab) (key : ByteArray) (w : World) (e : Ending) (w' : World) : Prop :=
  ∃ (r : Nat) (f : Bool), e = .returned (.tuple #[.int .i64 r, .bool f]) ∧ Below w.heap.size w w' ∧ r ≤ l.length ∧ (∀ (t : Nat) (ht : t < l.length), t < r → Ed.lt l[t].frm key = true) ∧ (∀ (t : Nat) (ht : t < l.length), r ≤ t → Ed.lt l[t].frm key = false) ∧ (f = true ↔ ∃ h : r < l.length, cmpT l[r].frm key = 0)
/-- Valid states' keys rise. -/
theorem valid_mono {s : Ed.St} (h : Ed.Valid s) : ∀ (a b : Nat) (ha : a < s.l.length) (hb : b < s.l.length), a < b → Ed.lt s.l[a].frm s.l[b].frm = true := by
  intro a b ha hb hab
  induction b with
  | zero => omega
  | succ b ih =>
    have h1 := (h.each (b + 1) hb).2.1 (by omega)
    simp only [Nat.add_sub_cancel] at h1
    by_cases e : a = b
    · subst e; exact h1
    · exact Ed.lt_trans (ih (by omega) (by omega)) h1
theorem findAt_unique {s : Ed.St} (hv : Ed.Valid s) {key : ByteArray} {r q : Nat} (h : FindAt s.l key r) (k : FindAt s.l key q) : r = q := by
  obtain ⟨h1, h2, h3⟩ := h
  obtain ⟨k1, k2, k3⟩ := k
  rcases Nat.lt_trichotomy r q with e | e | e
  · have h4 := h3 (by omega)
    by_cases e2 : r + 1 = q
    · subst e2; rw [h4] at k2; cases k2
    · have := Ed.lt_trans h4 (valid_mono hv (r + 1) q (by omega) k1 (by omega))
      rw [this] at k2; cases k2
  · exact e
  · have h4 := k3 (by omega)
    by_cases e2 : q + 1 = r
    · subst e2; rw [h4] at h2; cases h2
    · have := Ed.lt_trans h4 (valid_mono hv (q + 1) r (by omega) h1 (by omega))
      rw [this] at h2; cases h2
open Classical in
/-- Where a key lies. -/
noncomputable def findI (s : Ed.St) (key : ByteArray) : Int := if h : Ed.Valid s ∧ ∃ r, FindAt s.l key r then (h.2.choose : Nat) else -1
theorem findI_eq {s : Ed.St} (hv : Ed.Valid s) {key : ByteArray} {r : Nat} (h : FindAt s.l key r) : findI s key = r := by
  unfold findI
  rw [dif_pos ⟨hv, r, h⟩]
  have := Exists.choose_spec (⟨r, h⟩ : ∃ r, FindAt s.l key r)
  exact congrArg _ (findAt_unique hv this h)
theorem findI_not {s : Ed.St} (hv : ¬ Ed.Valid s) (key : ByteArray) : findI s key = -1 := by unfold findI; rw [dif_neg fun h => hv h.1]
end Go.Proofs.YtcijhhnbhnaiaaaGreat
