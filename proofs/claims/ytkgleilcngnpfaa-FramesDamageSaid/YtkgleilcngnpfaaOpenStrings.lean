/- A slice of strings that came in. -/
import Derived.Test.YtkgleilcngnpfaaRowWalk
import Derived.SliceStrings
import Derived.ProofKit
import Derived.OpenShut
namespace Go.Proofs.Ytkgleilcngnpfaa
open Go.RowKit
open Go.WideShapes Go.ChangeAt
open Go.ChangeShapes (open_strings)

theorem openStrings {H : Type} {enc : TypeId × Value → H} {W : World} {base b0 : Nat} {sp : Nat → Bool} {held : Bool} {r : Reach} {v : Value} {d : DataW H} {p : List MemPlace}
    (hv : Value.okWide Try.prog W r b0 30 v) (h : DataW.Trod enc Try.prog W base sp held 30 v d p) : ∃ a : Value × List ByteArray, v = a.1 ∧ RdE W a.1 a.2 ∧ a.2.length ≤ maxLen := by
  obtain ⟨a0, len, cap, rfl⟩ := okWide_slice under_strings hv
  obtain ⟨fuel, hf⟩ := h
  rcases open_strings under_strings under_string (by kernel_rfl) hf with ⟨hcs, hx⟩ | ⟨a, len', cap', ss, hcs, _, hl, hm, hz, hx, hcell, hws⟩
  · simp [Value.cells] at hcs
    obtain ⟨rfl, rfl, rfl⟩ := hcs
    exact ⟨(_, []), rfl, ⟨none, 0, rfl, fun j hj => absurd hj (by simp)⟩, Nat.zero_le _⟩
  · simp [Value.cells] at hcs
    obtain ⟨rfl, rfl, rfl⟩ := hcs
    have hlen : len ≤ ss.length := by rw [hz]; split <;> omega
    have ht : (ss.take len).length = len := by rw [List.length_take]; omega
    refine ⟨(.slice (some a) len cap, ss.take len), rfl, ⟨some a, cap, by rw [ht], fun j hj => ?_⟩, by show (ss.take len).length ≤ maxLen; rw [ht]; omega⟩
    have hj' : j < len := by rw [← ht]; exact hj
    have hc := hcell j (by omega)
    have hc0 := hcell 0 (by omega)
    obtain ⟨b, off, spot⟩ := a
    have hspot : spot = none := by simpa [Addr.add] using World.cell?_spot hc0
    subst hspot
    have e : (⟨b, off, none⟩ : Addr).add j = ⟨b, off + j, none⟩ := by unfold Addr.add; split <;> simp_all
    rw [e] at hc
    refine ⟨b, off, rfl, ?_, ?_⟩
    · rcases Nat.lt_or_ge b W.heap.size with hlt | hge
      · exact hlt
      · simp [World.cell?, Array.getElem?_eq_none hge] at hc
    · rw [hc]
      simp [List.getElem_take, List.getD_eq_getElem?_getD, List.getElem?_eq_getElem (show j < ss.length by omega)]
end Go.Proofs.Ytkgleilcngnpfaa
