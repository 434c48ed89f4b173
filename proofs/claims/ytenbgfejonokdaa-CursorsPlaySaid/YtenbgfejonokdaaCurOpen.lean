/- Arguments of the laws on cursors: what comes in. -/
import Derived.Test.YtenbgfejonokdaaStructs
import Derived.Test.YtenbgfejonokdaaCur
namespace Go.Proofs.Ytenbgfejonokdaa
set_option maxRecDepth 100000
open Go.RowKit Go.Maps
open Go.WideShapes Go.ChangeAt
open Dsk

theorem cur_fields : Go.Deep.oneCellFields Try.prog (Try.prog.fieldsOf 23) = true := by kernel_rfl
theorem cur_under : Try.prog.underlying 23 = some (.struct (Try.prog.fieldsOf 23)) := by kernel_rfl
theorem curs_under : Try.prog.underlying 42 = some (.slice 23) := by kernel_rfl
theorem cur_cells : Try.prog.cellsOf 23 = (Try.prog.fieldsOf 23).size := by kernel_rfl
theorem cur_size : (Try.prog.fieldsOf 23).size = 2 := by kernel_rfl
theorem cur_t0 : ((Try.prog.fieldsOf 23)[0]?).map (·.type) = some 3 := by kernel_rfl
theorem cur_t1 : ((Try.prog.fieldsOf 23)[1]?).map (·.type) = some 3 := by kernel_rfl
theorem under_int' : Try.prog.underlying 3 = some (.int .i64) := by kernel_rfl
/-- A cursor of ints. -/
def CurOk (c : Int × Int) : Prop := (-9223372036854775808 ≤ c.1 ∧ c.1 ≤ 9223372036854775807) ∧ (-9223372036854775808 ≤ c.2 ∧ c.2 ≤ 9223372036854775807)
section
variable {H : Type} {enc : TypeId × Value → H} {w : World} {base : Nat} {sp : Nat → Bool} {held : Bool}
theorem curOf {fuel : Nat} {cs : List Value} {y : DataW H × List MemPlace} (h : DataW.trod enc Try.prog w base sp held fuel 23 cs = some y) : ∃ c : Int × Int, cs = [.int .i64 c.1, .int .i64 c.2] ∧ CurOk c := by
  obtain ⟨hl, n, hf⟩ := fieldsOf cur_under cur_fields cur_cells h
  rw [cur_size] at hl
  obtain ⟨v0, y0, e0, h0⟩ := fieldVal hf 0 _ cur_t0
  obtain ⟨v1, y1, e1, h1⟩ := fieldVal hf 1 _ cur_t1
  obtain ⟨a, ha, _, w0⟩ := DataW.trod_int under_int' h0
  obtain ⟨b, hb, _, w1⟩ := DataW.trod_int under_int' h1
  simp at ha hb
  subst ha hb
  refine ⟨(a, b), ?_, bounds_i64 w0, bounds_i64 w1⟩
  match cs, hl with
  | [c0, c1], _ => simp at e0 e1; rw [e0, e1]
theorem openCur {r : Reach} {b0 : Nat} {v : Value} {d : DataW H} {p : List MemPlace} (hv : Value.okWide Try.prog w r b0 23 v) (h : DataW.Trod enc Try.prog w base sp held 23 v d p) :
    ∃ a : Int × Int, v = curV a.1 a.2 ∧ CurOk a := by
  obtain ⟨cs, rfl, hsz⟩ := okWide_struct cur_under hv
  obtain ⟨fuel, hf⟩ := h
  obtain ⟨a, e, ho⟩ := curOf hf
  refine ⟨a, ?_, ho⟩
  unfold curV
  congr 1
  apply Array.toList_inj.1
  exact e
/-- A slice that reads as these cursors. -/
def RdC (w : World) (v : Value) (l : List (Int × Int)) : Prop :=
  ∃ x c, v = .slice x l.length c ∧ ∀ (j : Nat) (hj : j < l.length), CurOk l[j] ∧ ∃ b off, x = some ⟨b, off, none⟩ ∧ b < w.heap.size ∧ w.cell? ⟨b, off + j * 2, none⟩ = some (.int .i64 l[j].1) ∧ w.cell? ⟨b, off + (j * 2 + 1), none⟩ = some (.int .i64 l[j].2)
theorem RdC.below {w w' : World} {v : Value} {l : List (Int × Int)} (h : RdC w v l) {B : Nat} (hB : w.heap.size ≤ B) (x : Below B w w') : RdC w' v l := by
  obtain ⟨a, c, rfl, h⟩ := h
  refine ⟨a, c, rfl, fun j hj => ?_⟩
  obtain ⟨ho, b, off, e, hb, h0, h1⟩ := h j hj
  exact ⟨ho, b, off, e, Nat.lt_of_lt_of_le hb x.size, (x.cell (p := ⟨b, _, none⟩) (Nat.lt_of_lt_of_le hb hB)).trans h0, (x.cell (p := ⟨b, _, none⟩) (Nat.lt_of_lt_of_le hb hB)).trans h1⟩
theorem openCurs {r : Reach} {b0 : Nat} {v : Value} {d : DataW H} {p : List MemPlace} (hv : Value.okWide Try.prog w r b0 42 v) (h : DataW.Trod enc Try.prog w base sp held 42 v d p) :
    ∃ a : Value × List (Int × Int), v = a.1 ∧ RdC w a.1 a.2 ∧ a.2.length ≤ maxLen := by
  obtain ⟨a0, len, cap, rfl⟩ := okWide_slice curs_under hv
  obtain ⟨fuel, hf⟩ := h
  have hf2 : DataW.trod enc Try.prog w base sp held fuel 42 [.slice a0 len cap] = some (d, p) := by simpa [Value.cells] using hf
  obtain ⟨hlm, hnil, hel⟩ := rowOf curs_under cur_cells (by rw [cur_size]; omega) hf2
  have hex : ∀ i : Fin len, ∃ a : Int × Int, CurOk a ∧ ∃ b off, a0 = some ⟨b, off, none⟩ ∧ b < w.heap.size ∧ w.cell? ⟨b, off + i * 2, none⟩ = some (.int .i64 a.1) ∧ w.cell? ⟨b, off + (i * 2 + 1), none⟩ = some (.int .i64 a.2) := fun i => by
    obtain ⟨b, off, cs, n, e, hb, hcl, hc, y, hy⟩ := hel i i.2
    obtain ⟨a, rfl, ho⟩ := curOf hy
    rw [cur_size] at hc
    exact ⟨a, ho, b, off, e, hb, hc 0 (by omega), hc 1 (by omega)⟩
  obtain ⟨f, hf⟩ := Classical.axiomOfChoice hex
  refine ⟨(.slice a0 len cap, List.ofFn f), rfl, ⟨a0, cap, by simp, fun j hj => ?_⟩, by simpa using hlm⟩
  have hj' : j < len := by simpa using hj
  obtain ⟨h1, b, off, h2, h3, h4, h5⟩ := hf ⟨j, hj'⟩
  simp only [List.getElem_ofFn]
  exact ⟨h1, b, off, h2, h3, h4, h5⟩
end
end Go.Proofs.Ytenbgfejonokdaa
