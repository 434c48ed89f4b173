/- Two rows of spans held against each other, walked. -/
import Derived.Test.YtdacanghbepjpaaGreatDoorM14
import Derived.Laws.StructEq
import Derived.BigQuiet
namespace Go.Proofs.YtdacanghbepjpaaGreatDoor
set_option linter.unusedSimpArgs false
set_option linter.unusedVariables false
set_option maxRecDepth 100000
open Go.RowKit

def spEq (a b : Sp.Span) : Bool := a.trace == b.trace && a.id == b.id && a.parent == b.parent && a.service.toList == b.service.toList && a.host.toList == b.host.toList && a.start == b.start && a.dur == b.dur && a.note.toList == b.note.toList
theorem toList_inj {a b : ByteArray} (h : a.toList = b.toList) : a = b := by
  obtain ⟨a⟩ := a
  obtain ⟨b⟩ := b
  simpa [ByteArray.toList_eq] using h
theorem spEq_iff (a b : Sp.Span) : spEq a b = true ↔ a = b := by
  unfold spEq
  constructor
  · intro h
    simp only [Bool.and_eq_true, beq_iff_eq] at h
    obtain ⟨⟨⟨⟨⟨⟨⟨h1, h2⟩, h3⟩, h4⟩, h5⟩, h6⟩, h7⟩, h8⟩ := h
    obtain ⟨t, i, p, s, o, st, du, n⟩ := a
    obtain ⟨t', i', p', s', o', st', du', n'⟩ := b
    simp only at h1 h2 h3 h4 h5 h6 h7 h8
    rw [h1, h2, h3, toList_inj h4, toList_inj h5, h6, h7, toList_inj h8]
  · rintro rfl
    simp
theorem span_equal (a b : Sp.Span) (w : World) : (Op.equalIn 10000 47 (spV a) (spV b)).run Tryz.prog w = .ok (spEq a b) w := by
  have u3 := Tryz.underlying3
  have a3 := Tryz.isAgg3
  have z3 := Tryz.sizeOf3
  have u9 := Tryz.underlying9
  have a9 := Tryz.isAgg9
  have z9 := Tryz.sizeOf9
  unfold spV
  rw [show (10000 : Nat) = 9999 + 1 from rfl, run_equalIn_agg w 9999 47 _ _ sp_under (by kernel_rfl)]
  simp only [Program.fieldsOf, Tryz.underlying47]
  unfold spEq
  go_simp
  cases h1 : (a.trace == b.trace) <;> simp only [Bool.true_and, Bool.false_and]
  · simp_all
  cases h2 : (a.id == b.id) <;> simp only [Bool.true_and, Bool.false_and]
  · simp_all
  cases h3 : (a.parent == b.parent) <;> simp only [Bool.true_and, Bool.false_and]
  · simp_all
  cases h4 : (a.service.toList == b.service.toList) <;> simp only [Bool.true_and, Bool.false_and]
  · simp_all
  cases h5 : (a.host.toList == b.host.toList) <;> simp only [Bool.true_and, Bool.false_and]
  · simp_all
  cases h6 : (a.start == b.start) <;> simp only [Bool.true_and, Bool.false_and]
  · simp_all
  cases h7 : (a.dur == b.dur) <;> simp only [Bool.true_and, Bool.false_and]
  · simp_all
  cases h8 : (a.note.toList == b.note.toList) <;> simp_all
theorem span_neq (a b : Sp.Span) (w : World) : (binOp .neq 47 (spV a) (spV b)).run Tryz.prog w = .ok (.bool (!spEq a b)) w := by
  have h := span_equal a b w
  unfold spV at h ⊢
  rw [run_neq_struct, h]
  rfl
open Classical in
/-- Are they the same? -/
noncomputable def sameSp (a b : List Sp.Span) : Bool := decide (a = b)
theorem sameSp_true {a b : List Sp.Span} (h : a = b) : sameSp a b = true := by unfold sameSp; simp [h]
theorem sameSp_false {a b : List Sp.Span} (h : ¬ a = b) : sameSp a b = false := by unfold sameSp; simp [h]
theorem rdSp_open {w : World} {v : Value} {l : List Sp.Span} (h : RdSp w v l) : ∃ x c, v = .slice x l.length c ∧ l.length ≤ c ∧ ∀ (j : Nat) (hj : j < l.length), ∃ b off, x = some ⟨b, off, none⟩ ∧ b < w.heap.size ∧
    w.cell? ⟨b, off + j * 8, none⟩ = some (.int .i64 l[j].trace) ∧ w.cell? ⟨b, off + j * 8 + 1, none⟩ = some (.int .i64 l[j].id) ∧ w.cell? ⟨b, off + j * 8 + 2, none⟩ = some (.int .i64 l[j].parent) ∧ w.cell? ⟨b, off + j * 8 + 3, none⟩ = some (.string l[j].service) ∧
    w.cell? ⟨b, off + j * 8 + 4, none⟩ = some (.string l[j].host) ∧ w.cell? ⟨b, off + j * 8 + 5, none⟩ = some (.int .i64 l[j].start) ∧ w.cell? ⟨b, off + j * 8 + 6, none⟩ = some (.int .i64 l[j].dur) ∧ w.cell? ⟨b, off + j * 8 + 7, none⟩ = some (.string l[j].note) := by
  obtain ⟨x, c, e, hc, h⟩ := h
  refine ⟨x, c, e, hc, fun j hj => ?_⟩
  obtain ⟨b, off, e, hb, k⟩ := h j hj
  exact ⟨b, off, e, hb, k 0 _ rfl, k 1 _ rfl, k 2 _ rfl, k 3 _ rfl, k 4 _ rfl, k 5 _ rfl, k 6 _ rfl, k 7 _ rfl⟩
end Go.Proofs.YtdacanghbepjpaaGreatDoor
