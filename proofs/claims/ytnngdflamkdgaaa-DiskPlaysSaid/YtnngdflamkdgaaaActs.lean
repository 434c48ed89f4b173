/- Acts with a disk: what they are, what each does; 'done', walked. -/
import Derived.Test.YtnngdflamkdgaaaStructs
namespace Go.Proofs.Ytnngdflamkdgaaa
open Go.RowKit Go.Maps
open Go.WideShapes Go.ChangeAt
open Dsk

structure ActS where
  kind : Nat
  name : ByteArray
  other : ByteArray
  data : ByteArray
  n : Int
  kv : Value
  keep : List Int
def actCells (a : ActS) : List Value := [.int .u8 a.kind, .string a.name, .string a.other, .string a.data, .int .i64 a.n, a.kv]
def actV (a : ActS) : Value := .agg #[.int .u8 a.kind, .string a.name, .string a.other, .string a.data, .int .i64 a.n, a.kv]
/-- An act whose numbers can be read ahead of block B. -/
structure ActOk (w : World) (B : Nat) (a : ActS) : Prop where
  kind : a.kind < 256
  name : a.name.size ≤ maxLen
  other : a.other.size ≤ maxLen
  data : a.data.size ≤ maxLen
  n : -9223372036854775808 ≤ a.n ∧ a.n ≤ 9223372036854775807
  kv : KeepR w (fun k => B ≤ k) a.kv a.keep
  keep : a.keep.length ≤ maxLen
theorem ActOk.chg {w w' : World} {B : Nat} {a : ActS} {T : Nat → Prop} (h : ActOk w B a) (x : Chg T w w') (hT : ∀ k, T k → B ≤ k) : ActOk w' B a := ⟨h.kind, h.name, h.other, h.data, h.n, h.kv.chg x hT, h.keep⟩
/-- A slice that reads as these acts, ahead of block B. -/
def RdA (w : World) (B : Nat) (v : Value) (l : List ActS) : Prop :=
  ∃ x c, v = .slice x l.length c ∧ ∀ (j : Nat) (hj : j < l.length), ActOk w B l[j] ∧ ∃ b off, x = some ⟨b, off, none⟩ ∧ b < B ∧ b < w.heap.size ∧ ∀ i, i < 6 → w.cell? ⟨b, off + (j * 6 + i), none⟩ = (actCells l[j])[i]?
theorem RdA.chg {w w' : World} {B : Nat} {v : Value} {l : List ActS} {T : Nat → Prop} (h : RdA w B v l) (x : Chg T w w') (hT : ∀ k, T k → B ≤ k) : RdA w' B v l := by
  obtain ⟨a, c, rfl, h⟩ := h
  refine ⟨a, c, rfl, fun j hj => ?_⟩
  obtain ⟨ho, b, off, e, hb, hs, hc⟩ := h j hj
  refine ⟨ho.chg x hT, b, off, e, hb, Nat.lt_of_lt_of_le hs x.size, fun i hi => ?_⟩
  rw [← hc i hi]
  exact x.cell (p := ⟨b, _, none⟩) hs fun ht => by have := hT _ ht; simp at this; omega

theorem act_fields : Go.Deep.oneCellFields Try.prog (Try.prog.fieldsOf 44) = true := by kernel_rfl
theorem act_under : Try.prog.underlying 44 = some (.struct (Try.prog.fieldsOf 44)) := by kernel_rfl
theorem acts_under : Try.prog.underlying 37 = some (.slice 44) := by kernel_rfl
theorem act_cells : Try.prog.cellsOf 44 = (Try.prog.fieldsOf 44).size := by kernel_rfl
theorem act_size : (Try.prog.fieldsOf 44).size = 6 := by kernel_rfl
theorem act_t0 : ((Try.prog.fieldsOf 44)[0]?).map (·.type) = some 5 := by kernel_rfl
theorem act_t1 : ((Try.prog.fieldsOf 44)[1]?).map (·.type) = some 9 := by kernel_rfl
theorem act_t2 : ((Try.prog.fieldsOf 44)[2]?).map (·.type) = some 9 := by kernel_rfl
theorem act_t3 : ((Try.prog.fieldsOf 44)[3]?).map (·.type) = some 9 := by kernel_rfl
theorem act_t4 : ((Try.prog.fieldsOf 44)[4]?).map (·.type) = some 3 := by kernel_rfl
theorem act_t5 : ((Try.prog.fieldsOf 44)[5]?).map (·.type) = some 23 := by kernel_rfl
theorem under_int : Try.prog.underlying 3 = some (.int .i64) := by kernel_rfl
section
variable {H : Type} {enc : TypeId × Value → H} {w : World} {base : Nat} {sp : Nat → Bool} {held : Bool}
theorem actOf {fuel : Nat} {cs : List Value} {y : DataW H × List MemPlace} (h : DataW.trod enc Try.prog w base sp held fuel 44 cs = some y) : ∃ a, cs = actCells a ∧ ActOk w w.heap.size a := by
  obtain ⟨hl, n, hf⟩ := fieldsOf act_under act_fields act_cells h
  rw [act_size] at hl
  obtain ⟨v0, y0, e0, h0⟩ := fieldVal hf 0 _ act_t0
  obtain ⟨v1, y1, e1, h1⟩ := fieldVal hf 1 _ act_t1
  obtain ⟨v2, y2, e2, h2⟩ := fieldVal hf 2 _ act_t2
  obtain ⟨v3, y3, e3, h3⟩ := fieldVal hf 3 _ act_t3
  obtain ⟨v4, y4, e4, h4⟩ := fieldVal hf 4 _ act_t4
  obtain ⟨v5, y5, e5, h5⟩ := fieldVal hf 5 _ act_t5
  obtain ⟨k, hk, _, w0⟩ := DataW.trod_int under_byte h0
  obtain ⟨s1, hs1, _, w1⟩ := DataW.trod_string under_string h1
  obtain ⟨s2, hs2, _, w2⟩ := DataW.trod_string under_string h2
  obtain ⟨s3, hs3, _, w3⟩ := DataW.trod_string under_string h3
  obtain ⟨z, hz, _, w4⟩ := DataW.trod_int under_int h4
  obtain ⟨l, hkr, hll⟩ := keepOf h5
  simp at hk hs1 hs2 hs3 hz
  subst hk hs1 hs2 hs3 hz
  have b0 := bounds_u8 w0
  have b4 := bounds_i64 w4
  refine ⟨⟨k.toNat, s1, s2, s3, z, v5, l⟩, ?_, ⟨by show k.toNat < 256; omega, w1, w2, w3, b4, hkr, hll⟩⟩
  unfold actCells
  have ek : ((k.toNat : Nat) : Int) = k := Int.toNat_of_nonneg b0.1
  rw [ek]
  match cs, hl with
  | [c0, c1, c2, c3, c4, c5], _ => simp at e0 e1 e2 e3 e4 e5; rw [e0, e1, e2, e3, e4, e5]
set_option maxRecDepth 100000 in
theorem openActs {r : Reach} {b0 : Nat} {v : Value} {d : DataW H} {p : List MemPlace} (hv : Value.okWide Try.prog w r b0 37 v) (h : DataW.Trod enc Try.prog w base sp held 37 v d p) :
    ∃ a : Value × List ActS, v = a.1 ∧ RdA w w.heap.size a.1 a.2 ∧ a.2.length ≤ maxLen := by
  obtain ⟨a0, len, cap, rfl⟩ := okWide_slice acts_under hv
  obtain ⟨fuel, hf⟩ := h
  have hf2 : DataW.trod enc Try.prog w base sp held fuel 37 [.slice a0 len cap] = some (d, p) := by simpa [Value.cells] using hf
  obtain ⟨hlm, hnil, hel⟩ := rowOf acts_under act_cells (by rw [act_size]; omega) hf2
  have hex : ∀ i : Fin len, ∃ a : ActS, ActOk w w.heap.size a ∧ ∃ b off, a0 = some ⟨b, off, none⟩ ∧ b < w.heap.size ∧ ∀ j, j < 6 → w.cell? ⟨b, off + (i * 6 + j), none⟩ = (actCells a)[j]? := fun i => by
    obtain ⟨b, off, cs, n, e, hb, hcl, hc, y, hy⟩ := hel i i.2
    obtain ⟨a, rfl, ho⟩ := actOf hy
    rw [act_size] at hc
    exact ⟨a, ho, b, off, e, hb, hc⟩
  obtain ⟨f, hf⟩ := Classical.axiomOfChoice hex
  refine ⟨(.slice a0 len cap, List.ofFn f), rfl, ⟨a0, cap, by simp, fun j hj => ?_⟩, by simpa using hlm⟩
  have hj' : j < len := by simpa using hj
  obtain ⟨h1, b, off, h2, h3, h4⟩ := hf ⟨j, hj'⟩
  simp only [List.getElem_ofFn]
  exact ⟨h1, b, off, h2, h3, h3, h4⟩
set_option maxRecDepth 100000 in
theorem openAct {r : Reach} {b0 : Nat} {v : Value} {d : DataW H} {p : List MemPlace} (hv : Value.okWide Try.prog w r b0 44 v) (h : DataW.Trod enc Try.prog w base sp held 44 v d p) :
    ∃ a : ActS, v = actV a ∧ ActOk w w.heap.size a := by
  obtain ⟨cs, rfl, hsz⟩ := okWide_struct act_under hv
  obtain ⟨fuel, hf⟩ := h
  obtain ⟨a, e, ho⟩ := actOf hf
  refine ⟨a, ?_, ho⟩
  have hone := act_fields
  unfold actV
  congr 1
  apply Array.toList_inj.1
  show cs.toList = actCells a
  rw [← e]; rfl
end
/-- What an act does. -/
def stepA (d : Dk) (a : ActS) : Int × Dk :=
  if a.kind % 12 = 4 ∨ a.kind % 12 = 5 then d.sync a.name.data.toList
  else if a.kind % 12 = 6 then d.rename a.name.data.toList a.other.data.toList
  else if a.kind % 12 = 7 then d.remove a.name.data.toList
  else if a.kind % 12 = 8 then d.crash a.keep
  else if a.kind % 12 = 9 ∨ a.kind % 12 = 10 then d.start
  else if a.kind % 12 = 11 then d.failAt a.n a.keep
  else d.append a.name.data.toList a.data.data.toList
end Go.Proofs.Ytnngdflamkdgaaa
