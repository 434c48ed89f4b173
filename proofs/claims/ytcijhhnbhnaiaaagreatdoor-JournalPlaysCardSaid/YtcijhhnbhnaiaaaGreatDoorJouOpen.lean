/- Cells that come in. -/
import Derived.Test.YtcijhhnbhnaiaaaGreatDoorJouA
import Derived.Test.YtcijhhnbhnaiaaaGreatDoorFields
namespace Go.Proofs.YtcijhhnbhnaiaaaGreatDoor
set_option linter.unusedSimpArgs false
set_option linter.unusedVariables false
set_option maxRecDepth 100000
open Go.RowKit
open Go.WideShapes Go.ChangeAt Go.Deep

/-- What a cell that comes in may be. -/
structure CelBnd (c : Jou.Cell) : Prop where
  key : c.key.size ≤ maxLen
  seq : -9223372036854775808 ≤ c.seq ∧ c.seq ≤ 9223372036854775807
  val : c.val.size ≤ maxLen
def CelsIn (w : World) (x : Value × List Jou.Cell) : Prop := RdC w x.1 x.2 ∧ x.2.length ≤ maxLen ∧ ∀ (j : Nat) (hj : j < x.2.length), CelBnd x.2[j]
theorem cel_fields : Go.Deep.oneCellFields Tryz.prog (Tryz.prog.fieldsOf 81) = true := by kernel_rfl
theorem cel_under : Tryz.prog.underlying 81 = some (.struct (Tryz.prog.fieldsOf 81)) := by kernel_rfl
theorem cel_cells : Tryz.prog.cellsOf 81 = (Tryz.prog.fieldsOf 81).size := by kernel_rfl
theorem cel_size : (Tryz.prog.fieldsOf 81).size = 3 := by kernel_rfl
theorem cel_t0 : ((Tryz.prog.fieldsOf 81)[0]?).map (·.type) = some 9 := by kernel_rfl
theorem cel_t1 : ((Tryz.prog.fieldsOf 81)[1]?).map (·.type) = some 3 := by kernel_rfl
theorem cel_t2 : ((Tryz.prog.fieldsOf 81)[2]?).map (·.type) = some 9 := by kernel_rfl
theorem cel_under_int : Tryz.prog.underlying 3 = some (.int .i64) := by kernel_rfl
theorem cel_under_string : Tryz.prog.underlying 9 = some .string := by kernel_rfl
section
variable {H : Type} {enc : TypeId × Value → H} {w : World} {base : Nat} {sp : Nat → Bool} {held : Bool}
theorem celOf {fuel : Nat} {cs : List Value} {y : DataW H × List MemPlace} (h : DataW.trod enc Tryz.prog w base sp held fuel 81 cs = some y) : ∃ c, cs = celRow c ∧ CelBnd c := by
  obtain ⟨hl, n, hf⟩ := fieldsOf cel_under cel_fields cel_cells h
  rw [cel_size] at hl
  obtain ⟨v0, y0, e0, h0⟩ := fieldVal hf 0 _ cel_t0
  obtain ⟨v1, y1, e1, h1⟩ := fieldVal hf 1 _ cel_t1
  obtain ⟨v2, y2, e2, h2⟩ := fieldVal hf 2 _ cel_t2
  obtain ⟨s0, k0, _, w0⟩ := DataW.trod_string cel_under_string h0
  obtain ⟨z1, k1, _, w1⟩ := DataW.trod_int cel_under_int h1
  obtain ⟨s2, k2, _, w2⟩ := DataW.trod_string cel_under_string h2
  simp at k0 k1 k2
  subst k0 k1 k2
  refine ⟨⟨s0, z1, s2⟩, ?_, ⟨w0, bounds_i64 w1, w2⟩⟩
  unfold celRow
  match cs, hl with
  | [c0, c1, c2], _ => simp at e0 e1 e2; rw [e0, e1, e2]
/-- A row of cells that came in. -/
theorem rdC_in {fuel : Nat} {a0 : Option Addr} {len cap : Nat} {y : DataW H × List MemPlace} (hf2 : DataW.trod enc Tryz.prog w base sp held fuel 30 [.slice a0 len cap] = some y) :
    ∃ l : List Jou.Cell, RdC w (.slice a0 len cap) l ∧ l.length = len ∧ len ≤ maxLen ∧ ∀ (j : Nat) (hj : j < l.length), CelBnd l[j] := by
  have hcap : len ≤ cap := by
    rcases Go.Deep.open_slice under_cells hf2 with ⟨h0, _⟩ | ⟨a', len', cap', m, n, D, Pl, hcs, hb, hl, _⟩
    · simp at h0
      omega
    · simp at hcs
      obtain ⟨rfl, rfl, rfl⟩ := hcs
      omega
  obtain ⟨hlm, hnil, hel⟩ := rowOf under_cells cel_cells (by rw [cel_size]; omega) hf2
  have hex : ∀ i : Fin len, ∃ c : Jou.Cell, CelBnd c ∧ ∃ b off, a0 = some ⟨b, off, none⟩ ∧ b < w.heap.size ∧ ∀ j, j < 3 → w.cell? ⟨b, off + (i * 3 + j), none⟩ = (celRow c)[j]? := fun i => by
    obtain ⟨b, off, cs, n, e, hb, hcl, hc, y, hy⟩ := hel i i.2
    obtain ⟨c, rfl, hk⟩ := celOf hy
    rw [cel_size] at hc
    exact ⟨c, hk, b, off, e, hb, hc⟩
  obtain ⟨f, hf⟩ := Classical.axiomOfChoice hex
  refine ⟨List.ofFn f, ⟨a0, cap, by simp, by simpa using hcap, fun j hj => ?_⟩, by simp, hlm, fun j hj => ?_⟩
  · have hj' : j < len := by simpa using hj
    obtain ⟨h1, b, off, h2, h3, h5⟩ := hf ⟨j, hj'⟩
    simp only [List.getElem_ofFn]
    refine ⟨b, off, h2, h3, ?_, ?_, ?_⟩
    · have := h5 0 (by omega); simpa [celRow] using this
    · have := h5 1 (by omega); simpa [celRow, Nat.add_assoc] using this
    · have := h5 2 (by omega); simpa [celRow, Nat.add_assoc] using this
  · have hj' : j < len := by simpa using hj
    simp only [List.getElem_ofFn]
    exact (hf ⟨j, hj'⟩).1
theorem openCells {r : Reach} {b0 : Nat} {v : Value} {d : DataW H} {p : List MemPlace} (hv : Value.okWide Tryz.prog w r b0 30 v) (h : DataW.Trod enc Tryz.prog w base sp held 30 v d p) :
    ∃ a : Value × List Jou.Cell, v = a.1 ∧ CelsIn w a := by
  obtain ⟨a0, len, cap, rfl⟩ := okWide_slice under_cells hv
  obtain ⟨fuel, hf⟩ := h
  have hf2 : DataW.trod enc Tryz.prog w base sp held fuel 30 [.slice a0 len cap] = some (d, p) := by simpa [Value.cells] using hf
  obtain ⟨l, h1, h2, h3, h4⟩ := rdC_in hf2
  exact ⟨(.slice a0 len cap, l), rfl, h1, by show l.length ≤ maxLen; rw [h2]; exact h3, h4⟩
end
/-- Are cells more than is looked at? -/
def SmallC (l : List Jou.Cell) (many : Int) : Prop := (l.length : Int) ≤ many ∧ ∀ (j : Nat) (hj : j < l.length), l[j].key.size ≤ 300 ∧ l[j].val.size ≤ 300
set_option maxHeartbeats 4000000 in
theorem beyondC_any (v : Value) (l : List Jou.Cell) (many : Int) (w : World) (h : RdC w v l) (hl : l.length ≤ maxLen) (hok : ∀ (j : Nat) (hj : j < l.length), CelBnd l[j]) :
    Calls Tryz.prog 23 #[v, .int .i64 many] w fun e w' => (∃ b : Nat, e = .returned (.bool (b == 1)) ∧ (b ≠ 1 → SmallC l many)) ∧ w = w' := by
  obtain ⟨x, c, rfl, _, hel⟩ := h
  have Hel := Lib.hid hel
  have Hok := Lib.hid hok
  unfold maxLen at hl
  obtain ⟨n, hn⟩ : ∃ n, n = l.length := ⟨_, rfl⟩
  rw [← hn] at hl ⊢
  have Hn := Lib.hid hn
  clear hel hok hn
  by_cases hmany : many < n
  case pos =>
    go_enter Tryz.func23, Tryz.ntmps23
    go_wp2_with fail
    go_ret
    exact ⟨⟨1, rfl, fun h => absurd rfl h⟩, rfl⟩
  case neg =>
    have hm2 : ¬ many < (n : Int) := hmany
    go_enter Tryz.func23, Tryz.ntmps23
    go_wp2_with fail
    go_loop [5] (fun v5 => ∃ k : Nat, v5 = .int .i64 k ∧ k ≤ n ∧ ∀ (j : Nat) (hj : j < l.length), j < k → l[j].key.size ≤ 300 ∧ l[j].val.size ≤ 300) (fun v5 => n - (intOf v5).toNat)
    case atStart => exact ⟨0, rfl, Nat.zero_le _, fun j _ h => absurd h (by omega)⟩
    case round =>
      obtain ⟨k, rfl, hk, hsm⟩ := hrel
      have Hsm := Lib.hid hsm
      clear hsm
      by_cases hlt : k < n
      · have hkl : k < l.length := by rw [← Hn.out]; exact hlt
        obtain ⟨b, off, rfl, _, c0, _, c2⟩ := Hel.out k hkl
        have hb := Hok.out k hkl
        obtain ⟨e, he⟩ : ∃ e, e = l[k] := ⟨_, rfl⟩
        rw [← he] at c0 c2 hb
        have HE := Lib.hid he
        have n1 := hb.key
        have n2 := hb.val
        unfold maxLen at n1 n2
        clear he hb
        go_wp2_with fail
        all_goals first
          | (go_ret; exact ⟨⟨1, rfl, fun h => absurd rfl h⟩, rfl⟩)
          | (go_round
             case rel => exact ⟨k + 1, by go_num, by omega, fun j hj hjk => (by
               by_cases e : j = k
               · subst e; rw [← HE.out]; exact ⟨by omega, by omega⟩
               · exact Hsm.out j hj (by omega))⟩
             case measure => simp [intOf]; omega)
      · obtain rfl : k = n := by omega
        go_wp2_with fail
        go_ret
        exact ⟨⟨0, rfl, fun _ => ⟨by rw [← Hn.out]; omega, fun j hj => Hsm.out j hj (by rw [Hn.out]; exact hj)⟩⟩, rfl⟩
end Go.Proofs.YtcijhhnbhnaiaaaGreatDoor
