/- Edits that come in. -/
import Derived.Test.YtcijhhnbhnaiaaaGreatEdAll
import Derived.Test.YtcijhhnbhnaiaaaGreatFields
namespace Go.Proofs.YtcijhhnbhnaiaaaGreat
set_option linter.unusedSimpArgs false
set_option linter.unusedVariables false
set_option maxRecDepth 100000
open Go.RowKit
open Go.WideShapes Go.ChangeAt Go.Deep
open Go.ChangeShapes (open_ints)

/-- What an edit that comes in may be. -/
structure EdBnd (e : Ed.Edit) : Prop where
  kind : -9223372036854775808 ≤ e.kind ∧ e.kind ≤ 9223372036854775807
  at_ : -9223372036854775808 ≤ e.at_ ∧ e.at_ ≤ 9223372036854775807
  file : -9223372036854775808 ≤ e.file ∧ e.file ≤ 9223372036854775807
  files : e.files.length ≤ maxLen
  key : e.key.size ≤ maxLen
  each : ∀ n ∈ e.files, -9223372036854775808 ≤ n ∧ n ≤ 9223372036854775807
def EdsIn (w : World) (x : Value × List Ed.Edit) : Prop := RdE w x.1 x.2 ∧ x.2.length ≤ maxLen ∧ ∀ (j : Nat) (hj : j < x.2.length), EdBnd x.2[j]
theorem edt_fields : Go.Deep.oneCellFields Tryz.prog (Tryz.prog.fieldsOf 44) = true := by kernel_rfl
theorem edt_under : Tryz.prog.underlying 44 = some (.struct (Tryz.prog.fieldsOf 44)) := by kernel_rfl
theorem edts_under : Tryz.prog.underlying 22 = some (.slice 44) := by kernel_rfl
theorem edt_cells : Tryz.prog.cellsOf 44 = (Tryz.prog.fieldsOf 44).size := by kernel_rfl
theorem edt_size : (Tryz.prog.fieldsOf 44).size = 5 := by kernel_rfl
theorem edt_t0 : ((Tryz.prog.fieldsOf 44)[0]?).map (·.type) = some 3 := by kernel_rfl
theorem edt_t1 : ((Tryz.prog.fieldsOf 44)[1]?).map (·.type) = some 3 := by kernel_rfl
theorem edt_t2 : ((Tryz.prog.fieldsOf 44)[2]?).map (·.type) = some 3 := by kernel_rfl
theorem edt_t3 : ((Tryz.prog.fieldsOf 44)[3]?).map (·.type) = some 42 := by kernel_rfl
theorem edt_t4 : ((Tryz.prog.fieldsOf 44)[4]?).map (·.type) = some 9 := by kernel_rfl
theorem ed_under_int : Tryz.prog.underlying 3 = some (.int .i64) := by kernel_rfl
theorem ed_under_string : Tryz.prog.underlying 9 = some .string := by kernel_rfl
section
variable {H : Type} {enc : TypeId × Value → H} {w : World} {base : Nat} {sp : Nat → Bool} {held : Bool}
/-- A row of numbers that came in. -/
theorem rdI_in {fuel : Nat} {v : Value} {y : DataW H × List MemPlace} (h : DataW.trod enc Tryz.prog w base sp held fuel 42 [v] = some y) :
    ∃ l : List Int, RdI w v l ∧ l.length ≤ maxLen ∧ ∀ n ∈ l, -9223372036854775808 ≤ n ∧ n ≤ 9223372036854775807 := by
  rcases open_ints under_ints ed_under_int (by kernel_rfl) h with ⟨hcs, _⟩ | ⟨a, len, cap, zs, hcs, _, hl, hm, hz, _, hcell, hwf⟩
  · simp at hcs
    subst hcs
    exact ⟨[], .inl ⟨none, 0, rfl, rfl⟩, Nat.zero_le _, fun n hn => (by cases hn)⟩
  · simp at hcs
    subst hcs
    have hlen : len ≤ zs.length := by rw [hz]; split <;> omega
    have ht : (zs.take len).length = len := by rw [List.length_take]; omega
    refine ⟨zs.take len, ?_, by rw [ht]; omega, fun n hn => bounds_i64 (hwf n (List.mem_of_mem_take hn))⟩
    by_cases h0 : len = 0
    · subst h0; exact .inl ⟨some a, cap, rfl, by simp⟩
    have hc0 := hcell 0 (by omega)
    obtain ⟨b, off, spot⟩ := a
    have hspot : spot = none := by simpa [Addr.add] using World.cell?_spot hc0
    subst hspot
    have e0 : (⟨b, off, none⟩ : Addr).add 0 = ⟨b, off, none⟩ := by unfold Addr.add; split <;> simp_all
    rw [e0] at hc0
    have hb : b < w.heap.size := by
      rcases Nat.lt_or_ge b w.heap.size with hlt | hge
      · exact hlt
      · simp [World.cell?, Array.getElem?_eq_none hge] at hc0
    refine .inr ⟨b, off, cap, by rw [ht], hb, fun j hj => ?_⟩
    have hj' : j < len := by rw [← ht]; exact hj
    have hc := hcell j (by omega)
    have e : (⟨b, off, none⟩ : Addr).add j = ⟨b, off + j, none⟩ := by unfold Addr.add; split <;> simp_all
    rw [e] at hc
    rw [hc]
    simp [List.getElem_take, List.getD_eq_getElem?_getD, List.getElem?_eq_getElem (show j < zs.length by omega)]
def edRow (e : Ed.Edit) (fv : Value) : List Value := [.int .i64 e.kind, .int .i64 e.at_, .int .i64 e.file, fv, .string e.key]
theorem edOf {fuel : Nat} {cs : List Value} {y : DataW H × List MemPlace} (h : DataW.trod enc Tryz.prog w base sp held fuel 44 cs = some y) : ∃ e fv, cs = edRow e fv ∧ RdI w fv e.files ∧ EdBnd e := by
  obtain ⟨hl, n, hf⟩ := fieldsOf edt_under edt_fields edt_cells h
  rw [edt_size] at hl
  obtain ⟨v0, y0, e0, h0⟩ := fieldVal hf 0 _ edt_t0
  obtain ⟨v1, y1, e1, h1⟩ := fieldVal hf 1 _ edt_t1
  obtain ⟨v2, y2, e2, h2⟩ := fieldVal hf 2 _ edt_t2
  obtain ⟨v3, y3, e3, h3⟩ := fieldVal hf 3 _ edt_t3
  obtain ⟨v4, y4, e4, h4⟩ := fieldVal hf 4 _ edt_t4
  obtain ⟨z0, k0, _, w0⟩ := DataW.trod_int ed_under_int h0
  obtain ⟨z1, k1, _, w1⟩ := DataW.trod_int ed_under_int h1
  obtain ⟨z2, k2, _, w2⟩ := DataW.trod_int ed_under_int h2
  obtain ⟨l, hkr, hll, hle⟩ := rdI_in h3
  obtain ⟨s, k4, _, w4⟩ := DataW.trod_string ed_under_string h4
  simp at k0 k1 k2 k4
  subst k0 k1 k2 k4
  refine ⟨⟨z0, z1, z2, l, s⟩, v3, ?_, hkr, ⟨bounds_i64 w0, bounds_i64 w1, bounds_i64 w2, hll, w4, hle⟩⟩
  unfold edRow
  match cs, hl with
  | [c0, c1, c2, c3, c4], _ => simp at e0 e1 e2 e3 e4; rw [e0, e1, e2, e3, e4]
theorem openEdits {r : Reach} {b0 : Nat} {v : Value} {d : DataW H} {p : List MemPlace} (hv : Value.okWide Tryz.prog w r b0 22 v) (h : DataW.Trod enc Tryz.prog w base sp held 22 v d p) :
    ∃ a : Value × List Ed.Edit, v = a.1 ∧ EdsIn w a := by
  obtain ⟨a0, len, cap, rfl⟩ := okWide_slice edts_under hv
  obtain ⟨fuel, hf⟩ := h
  have hf2 : DataW.trod enc Tryz.prog w base sp held fuel 22 [.slice a0 len cap] = some (d, p) := by simpa [Value.cells] using hf
  obtain ⟨hlm, hnil, hel⟩ := rowOf edts_under edt_cells (by rw [edt_size]; omega) hf2
  have hex : ∀ i : Fin len, ∃ e : Ed.Edit, EdBnd e ∧ ∃ b off fv, a0 = some ⟨b, off, none⟩ ∧ b < w.heap.size ∧ RdI w fv e.files ∧ ∀ j, j < 5 → w.cell? ⟨b, off + (i * 5 + j), none⟩ = (edRow e fv)[j]? := fun i => by
    obtain ⟨b, off, cs, n, e, hb, hcl, hc, y, hy⟩ := hel i i.2
    obtain ⟨a, fv, rfl, ho, hk⟩ := edOf hy
    rw [edt_size] at hc
    exact ⟨a, hk, b, off, fv, e, hb, ho, hc⟩
  obtain ⟨f, hf⟩ := Classical.axiomOfChoice hex
  refine ⟨(.slice a0 len cap, List.ofFn f), rfl, ⟨a0, cap, by simp, fun j hj => ?_⟩, by simpa using hlm, fun j hj => ?_⟩
  · have hj' : j < len := by simpa using hj
    obtain ⟨h1, b, off, fv, h2, h3, h4, h5⟩ := hf ⟨j, hj'⟩
    simp only [List.getElem_ofFn]
    refine ⟨b, off, fv, h2, h3, ?_, ?_, ?_, ?_, ?_, h4⟩
    · have := h5 0 (by omega); simpa [edRow] using this
    · have := h5 1 (by omega); simpa [edRow, Nat.add_assoc] using this
    · have := h5 2 (by omega); simpa [edRow, Nat.add_assoc] using this
    · have := h5 3 (by omega); simpa [edRow, Nat.add_assoc] using this
    · have := h5 4 (by omega); simpa [edRow, Nat.add_assoc] using this
  · have hj' : j < len := by simpa using hj
    simp only [List.getElem_ofFn]
    exact (hf ⟨j, hj'⟩).1
end
theorem EdBnd.ok {e : Ed.Edit} (h : EdBnd e) (hf : e.files.length ≤ 100) : EdOk e := ⟨by omega, h.key, h.at_⟩
end Go.Proofs.YtcijhhnbhnaiaaaGreat
