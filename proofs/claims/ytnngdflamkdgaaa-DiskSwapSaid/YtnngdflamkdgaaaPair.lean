/- A pair of texts that came in, by value. -/
import Derived.Test.YtnngdflamkdgaaaStructs
namespace Go.Proofs.Ytnngdflamkdgaaa
open Go.RowKit
open Go.WideShapes Go.ChangeAt

theorem under_pair : Try.prog.underlying 22 = some (.array 2 9) := by kernel_rfl
theorem pair_cells : Try.prog.cellsOf 22 = 2 := by kernel_rfl
theorem string_cells : Try.prog.cellsOf 9 = 1 := by kernel_rfl
set_option maxRecDepth 100000 in
theorem openPair {H : Type} {enc : TypeId × Value → H} {w : World} {base b0 : Nat} {sp : Nat → Bool} {held : Bool} {r : Reach} {v : Value} {d : DataW H} {p : List MemPlace}
    (hv : Value.okWide Try.prog w r b0 22 v) (h : DataW.Trod enc Try.prog w base sp held 22 v d p) : ∃ a : ByteArray × ByteArray, v = .agg #[.string a.1, .string a.2] ∧ a.1.size ≤ maxLen ∧ a.2.size ≤ maxLen := by
  have hv2 := hv
  simp only [Value.okWide, under_pair] at hv2
  obtain ⟨cs, rfl, hsz, _⟩ := hv2
  obtain ⟨fuel, hf⟩ := h
  obtain ⟨xs, m, _, _, hlen, hxl, hg⟩ := DataW.trod_array under_pair hf
  rw [pair_cells] at hlen
  obtain ⟨l⟩ := cs
  match l, hlen with
  | [c0, c1], _ =>
    match xs, hxl with
    | [y0, y1], _ =>
      have h0 := hg 0 (by omega)
      have h1 := hg 1 (by omega)
      rw [string_cells] at h0 h1
      obtain ⟨s0, e0, _, z0⟩ := DataW.trod_string under_string (show DataW.trod enc Try.prog w base sp held m 9 [c0] = some y0 from by simpa [Value.cells] using h0)
      obtain ⟨s1, e1, _, z1⟩ := DataW.trod_string under_string (show DataW.trod enc Try.prog w base sp held m 9 [c1] = some y1 from by simpa [Value.cells] using h1)
      simp at e0 e1
      subst e0 e1
      exact ⟨(s0, s1), rfl, z0, z1⟩
end Go.Proofs.Ytnngdflamkdgaaa
