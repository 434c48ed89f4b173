/- A state that comes in; an edit that comes in. -/
import Derived.Test.YtenbgfejonokdaaEdOpen
import Derived.Test.YtenbgfejonokdaaRefTabP
namespace Go.Proofs.Ytenbgfejonokdaa
set_option linter.unusedSimpArgs false
set_option linter.unusedVariables false
set_option maxRecDepth 100000
open Go.RowKit
open Go.WideShapes Go.ChangeAt Go.Deep
open Go.ChangeShapes (open_ints)

theorem tab_fields : Go.Deep.oneCellFields Try.prog (Try.prog.fieldsOf 70) = true := by kernel_rfl
theorem tab_under : Try.prog.underlying 70 = some (.struct (Try.prog.fieldsOf 70)) := by kernel_rfl
theorem tab_cells : Try.prog.cellsOf 70 = (Try.prog.fieldsOf 70).size := by kernel_rfl
theorem tab_size : (Try.prog.fieldsOf 70).size = 2 := by kernel_rfl
theorem tab_t0 : ((Try.prog.fieldsOf 70)[0]?).map (·.type) = some 9 := by kernel_rfl
theorem tab_t1 : ((Try.prog.fieldsOf 70)[1]?).map (·.type) = some 33 := by kernel_rfl
theorem sta_fields : Go.Deep.oneCellFields Try.prog (Try.prog.fieldsOf 67) = true := by kernel_rfl
theorem sta_under : Try.prog.underlying 67 = some (.struct (Try.prog.fieldsOf 67)) := by kernel_rfl
theorem sta_cells : Try.prog.cellsOf 67 = (Try.prog.fieldsOf 67).size := by kernel_rfl
theorem sta_size : (Try.prog.fieldsOf 67).size = 3 := by kernel_rfl
theorem sta_t0 : ((Try.prog.fieldsOf 67)[0]?).map (·.type) = some 65 := by kernel_rfl
theorem sta_t1 : ((Try.prog.fieldsOf 67)[1]?).map (·.type) = some 3 := by kernel_rfl
theorem sta_t2 : ((Try.prog.fieldsOf 67)[2]?).map (·.type) = some 3 := by kernel_rfl
section
variable {H : Type} {enc : TypeId × Value → H} {w : World} {base : Nat} {sp : Nat → Bool} {held : Bool}
theorem cap_in {fuel : Nat} {v : Value} {y : DataW H × List MemPlace} (h : DataW.trod enc Try.prog w base sp held fuel 33 [v] = some y) : CapOk v := by
  rcases open_ints under_ints ed_under_int (by kernel_rfl) h with ⟨hcs, _⟩ | ⟨a, len, cap, zs, hcs, _, hl, hm, hz, _, hcell, hwf⟩
  · simp at hcs
    subst hcs
    exact ⟨none, 0, 0, rfl, Nat.le_refl _, Nat.zero_le _⟩
  · simp at hcs
    subst hcs
    exact ⟨_, _, _, rfl, by omega, by omega⟩
theorem tabOf {fuel : Nat} {cs : List Value} {y : DataW H × List MemPlace} (h : DataW.trod enc Try.prog w base sp held fuel 70 cs = some y) : ∃ t fv, cs = tbRow t fv ∧ RdI w fv t.tabs ∧ CapOk fv ∧ t.frm.size ≤ maxLen ∧ t.tabs.length ≤ maxLen := by
  obtain ⟨hl, n, hf⟩ := fieldsOf tab_under tab_fields tab_cells h
  rw [tab_size] at hl
  obtain ⟨v0, y0, e0, h0⟩ := fieldVal hf 0 _ tab_t0
  obtain ⟨v1, y1, e1, h1⟩ := fieldVal hf 1 _ tab_t1
  obtain ⟨s, k0, _, w0⟩ := DataW.trod_string ed_under_string h0
  obtain ⟨l, hkr, hll, hle⟩ := rdI_in h1
  have hc := cap_in h1
  simp at k0
  subst k0
  refine ⟨⟨s, l⟩, v1, ?_, hkr, hc, w0, hll⟩
  unfold tbRow
  match cs, hl with
  | [c0, c1], _ => simp at e0 e1; rw [e0, e1]
theorem tabs_in {fuel : Nat} {v : Value} {y : DataW H × List MemPlace} (h : DataW.trod enc Try.prog w base sp held fuel 65 [v] = some y) : ∃ l : List Ed.Tab, RdTC w v l ∧ Fits l := by
  rcases Go.Deep.open_slice under_tablets h with ⟨h0, _⟩ | ⟨a', len', cap', m, n, D, Pl, hcs, _⟩
  · simp at h0
    subst h0
    exact ⟨[], ⟨none, 0, rfl, fun j hj => absurd hj (by simp)⟩, ⟨Nat.zero_le _, fun j hj => absurd hj (by simp)⟩⟩
  · simp at hcs
    subst hcs
    obtain ⟨hlm, hnil, hel⟩ := rowOf under_tablets tab_cells (by rw [tab_size]; omega) h
    have hex : ∀ i : Fin len', ∃ t : Ed.Tab, (t.frm.size ≤ maxLen ∧ t.tabs.length ≤ maxLen) ∧ ∃ b off fv, some a' = some ⟨b, off, none⟩ ∧ b < w.heap.size ∧ RdI w fv t.tabs ∧ CapOk fv ∧ ∀ j, j < 2 → w.cell? ⟨b, off + (i * 2 + j), none⟩ = (tbRow t fv)[j]? := fun i => by
      obtain ⟨b, off, cs, n, e, hb, hcl, hc, y, hy⟩ := hel i i.2
      obtain ⟨t, fv, rfl, ho, hcp, hk⟩ := tabOf hy
      rw [tab_size] at hc
      exact ⟨t, hk, b, off, fv, e, hb, ho, hcp, hc⟩
    obtain ⟨f, hf⟩ := Classical.axiomOfChoice hex
    refine ⟨List.ofFn f, ⟨some a', cap', by simp, fun j hj => ?_⟩, ⟨by simpa using hlm, fun j hj => ?_⟩⟩
    · have hj' : j < len' := by simpa using hj
      obtain ⟨h1, b, off, fv, h2, h3, h4, h5, h6⟩ := hf ⟨j, hj'⟩
      simp only [List.getElem_ofFn]
      refine ⟨b, off, fv, h2, h3, ?_, ?_, h4, h5⟩
      · have := h6 0 (by omega); simpa [tbRow] using this
      · have := h6 1 (by omega); simpa [tbRow, Nat.add_assoc] using this
    · have hj' : j < len' := by simpa using hj
      simp only [List.getElem_ofFn]
      exact (hf ⟨j, hj'⟩).1
/-- A state that comes in. -/
def StIn (w : World) (x : Value × Ed.St) : Prop := RdTC w x.1 x.2.l ∧ Fits x.2.l
theorem openState {r : Reach} {b0 : Nat} {v : Value} {d : DataW H} {p : List MemPlace} (hv : Value.okWide Try.prog w r b0 67 v) (h : DataW.Trod enc Try.prog w base sp held 67 v d p) :
    ∃ a : Value × Ed.St, v = stV a.1 a.2.log a.2.next ∧ StIn w a := by
  obtain ⟨cs, rfl, hsz⟩ := okWide_struct sta_under hv
  obtain ⟨fuel, hf⟩ := h
  obtain ⟨hl, n, hf⟩ := fieldsOf sta_under sta_fields sta_cells hf
  rw [sta_size] at hl
  obtain ⟨v0, y0, e0, h0⟩ := fieldVal hf 0 _ sta_t0
  obtain ⟨v1, y1, e1, h1⟩ := fieldVal hf 1 _ sta_t1
  obtain ⟨v2, y2, e2, h2⟩ := fieldVal hf 2 _ sta_t2
  obtain ⟨z1, k1, _, w1⟩ := DataW.trod_int ed_under_int h1
  obtain ⟨z2, k2, _, w2⟩ := DataW.trod_int ed_under_int h2
  obtain ⟨l, hr, hfit⟩ := tabs_in h0
  simp at k1 k2
  subst k1 k2
  refine ⟨(v0, ⟨l, z1, z2⟩), ?_, hr, hfit⟩
  unfold stV
  congr 1
  apply Array.toList_inj.1
  have hl2 : cs.toList.length = 3 := hl
  match hc : cs.toList, hl2 with
  | [c0, c1, c2], _ => 
    simp only [Value.cells, hc] at e0 e1 e2
    simp at e0 e1 e2
    rw [e0, e1, e2]
/-- An edit that comes in. -/
def EdIn (w : World) (x : Value × Ed.Edit) : Prop := RdI w x.1 x.2.files ∧ EdBnd x.2
theorem openEdit {r : Reach} {b0 : Nat} {v : Value} {d : DataW H} {p : List MemPlace} (hv : Value.okWide Try.prog w r b0 74 v) (h : DataW.Trod enc Try.prog w base sp held 74 v d p) :
    ∃ a : Value × Ed.Edit, v = edV a.2 a.1 ∧ EdIn w a := by
  obtain ⟨cs, rfl, hsz⟩ := okWide_struct edt_under hv
  obtain ⟨fuel, hf⟩ := h
  obtain ⟨e, fv, hcs, ho, hb⟩ := edOf hf
  refine ⟨(fv, e), ?_, ho, hb⟩
  unfold edV
  congr 1
  apply Array.toList_inj.1
  exact hcs
end
end Go.Proofs.Ytenbgfejonokdaa
