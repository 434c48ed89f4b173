/- Arguments that hold structs: each field's own reading. -/
import Derived.Test.YtcijhhnbhnaiaaaGreatDoorLib
import Derived.Deep.Slices
import Derived.Deep.Fields
import Derived.SliceStrings
import Derived.ProofKit
import Derived.OpenShut
namespace Go.Proofs.YtcijhhnbhnaiaaaGreatDoor
set_option linter.unusedSimpArgs false
set_option linter.unusedVariables false
open Go.RowKit
open Go.WideShapes Go.ChangeAt Go.Deep
open Go.ChangeShapes (open_ints)

theorem add_none (b off k : Nat) : (⟨b, off, none⟩ : Addr).add k = ⟨b, off + k, none⟩ := by unfold Addr.add; split <;> simp_all
section
variable {H : Type} {enc : TypeId × Value → H} {P : Program} {w : World} {base : Nat} {spare : Nat → Bool} {held : Bool}
/-- A struct of one-cell fields, by its cells: each field's reading. -/
theorem fieldsOf {t : TypeId} {fs : Array Field} {fuel : Nat} {cs : List Value} {x : DataW H × List MemPlace} (ht : P.underlying t = some (.struct fs)) (hone : oneCellFields P fs = true) (hC : P.cellsOf t = fs.size)
    (h : DataW.trod enc P w base spare held fuel t cs = some x) : cs.length = fs.size ∧ ∃ n, ∀ (j : Nat) (f : Field), fs[j]? = some f → ∃ v y, cs[j]? = some v ∧ DataW.trod enc P w base spare held n f.type [v] = some y := by
  obtain ⟨ys, n, _, _, hlen, hyl, hf⟩ := DataW.trod_struct ht h
  rw [hC] at hlen
  refine ⟨hlen, n, fun j f hj => ?_⟩
  obtain ⟨ho, hk⟩ := hone_of hone j f hj
  have hjl : j < fs.size := (Array.getElem?_eq_some_iff.1 hj).1
  have h1 := hf j f hj
  rw [ho, hk, List.drop_eq_getElem_cons (show j < cs.length by omega)] at h1
  refine ⟨cs[j]'(by omega), ys[j]'(by omega), List.getElem?_eq_getElem (by omega), ?_⟩
  rw [List.getElem?_eq_getElem (show j < ys.length by omega)] at h1
  exact h1
theorem fieldVal {fs : Array Field} {cs : List Value} {n : Nat} (hf : ∀ (j : Nat) (f : Field), fs[j]? = some f → ∃ v y, cs[j]? = some v ∧ DataW.trod enc P w base spare held n f.type [v] = some y)
    (j : Nat) (t : TypeId) (h : (fs[j]?).map (·.type) = some t) : ∃ v y, cs[j]? = some v ∧ DataW.trod enc P w base spare held n t [v] = some y := by
  obtain ⟨f, hj, rfl⟩ := Option.map_eq_some_iff.1 h
  exact hf j f hj
/-- A slice of structs of one-cell fields: each element's fields. -/
theorem rowOf {t e : TypeId} {fs : Array Field} {fuel : Nat} {a : Option Addr} {len cap : Nat} {x : DataW H × List MemPlace} (ht : P.underlying t = some (.slice e)) (hC : P.cellsOf e = fs.size) (hpos : 0 < fs.size)
    (h : DataW.trod enc P w base spare held fuel t [.slice a len cap] = some x) :
    len ≤ maxLen ∧ (a = none → len = 0 ∧ cap = 0) ∧ ∀ i, i < len → ∃ b off cs n, a = some ⟨b, off, none⟩ ∧ b < w.heap.size ∧ cs.length = fs.size ∧ (∀ j, j < fs.size → w.cell? ⟨b, off + (i * fs.size + j), none⟩ = cs[j]?) ∧ ∃ y, DataW.trod enc P w base spare held n e cs = some y := by
  rcases Go.Deep.open_slice ht h with ⟨h0, _⟩ | ⟨a', len', cap', m, n, D, Pl, hcs, hb, hl, hm, hmm, hx, hi⟩
  · simp at h0
    obtain ⟨rfl, rfl, rfl⟩ := h0
    exact ⟨Nat.zero_le _, fun _ => ⟨rfl, rfl⟩, fun i hi => absurd hi (by omega)⟩
  · simp at hcs
    obtain ⟨rfl, rfl, rfl⟩ := hcs
    refine ⟨by omega, fun e => (by cases e), fun i hlt => ?_⟩
    obtain ⟨cs', hc, htr⟩ := hi i (by rw [hmm]; split <;> omega)
    rw [hC] at hc
    obtain ⟨_, hcl, hat⟩ := World.cells?_some hc
    obtain ⟨cs0, hc0, _⟩ := hi 0 (by rw [hmm]; split <;> omega)
    rw [hC, Nat.zero_mul] at hc0
    obtain ⟨_, hcl0, hat0⟩ := World.cells?_some hc0
    have h0 := hat0 0 hpos
    rw [List.getElem?_eq_getElem (show 0 < cs0.length by omega)] at h0
    have e0 : ∀ x : Addr, x.add 0 = x := fun x => by unfold Addr.add; simp
    rw [e0, e0] at h0
    obtain ⟨b, off, spot⟩ := a'
    have hspot : spot = none := World.cell?_spot h0
    subst hspot
    have ea : ∀ j, (((⟨b, off, none⟩ : Addr).add (i * fs.size)).add j) = ⟨b, off + (i * fs.size + j), none⟩ := fun j => by
      rw [add_none, add_none, Nat.add_assoc]
    refine ⟨b, off, cs', n, rfl, ?_, hcl, fun j hj => ?_, _, htr⟩
    · rcases Nat.lt_or_ge b w.heap.size with hlt | hge
      · exact hlt
      · simp [World.cell?, Array.getElem?_eq_none hge] at h0
    · rw [← ea j]; exact hat j hj
end
end Go.Proofs.YtcijhhnbhnaiaaaGreatDoor
