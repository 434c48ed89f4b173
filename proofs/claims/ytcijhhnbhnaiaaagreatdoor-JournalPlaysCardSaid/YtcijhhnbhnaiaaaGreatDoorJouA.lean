/- Cells in memory: what reads as a row of them, the call's own row, one row behind another; may a cell be? Walked. -/
import Derived.Test.YtcijhhnbhnaiaaaGreatDoorJouP
import Derived.Test.YtcijhhnbhnaiaaaGreatDoorEdEnc
import Derived.Test.YtcijhhnbhnaiaaaGreatDoorInts
import Derived.Test.YtcijhhnbhnaiaaaGreatDoorTexts
import Derived.Maps.AppendAt
import Derived.Lib.AppendZeros
namespace Go.Proofs.YtcijhhnbhnaiaaaGreatDoor
set_option linter.unusedSimpArgs false
set_option linter.unusedVariables false
set_option maxRecDepth 100000
open Go.RowKit

def celRow (c : Jou.Cell) : List Value := [.string c.key, .int .i64 c.seq, .string c.val]
def celV (c : Jou.Cell) : Value := .agg #[.string c.key, .int .i64 c.seq, .string c.val]
/-- A slice that reads as these cells. -/
def RdC (w : World) (v : Value) (l : List Jou.Cell) : Prop :=
  ∃ x c, v = .slice x l.length c ∧ l.length ≤ c ∧ ∀ (j : Nat) (hj : j < l.length), ∃ b off, x = some ⟨b, off, none⟩ ∧ b < w.heap.size ∧ w.cell? ⟨b, off + j * 3, none⟩ = some (.string l[j].key) ∧ w.cell? ⟨b, off + j * 3 + 1, none⟩ = some (.int .i64 l[j].seq) ∧ w.cell? ⟨b, off + j * 3 + 2, none⟩ = some (.string l[j].val)
theorem RdC.chg {w w' : World} {S Z : Nat → Prop} {v : Value} {l : List Jou.Cell} (h : RdC w v l) (hb : ∀ b, v.ownBlock = some b → Z b) (x : Chg S w w') (hS : ∀ k, Z k → ¬ S k) : RdC w' v l := by
  obtain ⟨y, c, rfl, hc, h⟩ := h
  refine ⟨y, c, rfl, hc, fun j hj => ?_⟩
  obtain ⟨b, off, e, h1, h2, h3, h4⟩ := h j hj
  have hn := hS b (hb b (by rw [e]; rfl))
  exact ⟨b, off, e, Nat.lt_of_lt_of_le h1 x.size, (x.cell (p := ⟨b, _, none⟩) h1 hn).trans h2, (x.cell (p := ⟨b, _, none⟩) h1 hn).trans h3, (x.cell (p := ⟨b, _, none⟩) h1 hn).trans h4⟩
theorem RdC.below {w w' : World} {v : Value} {l : List Jou.Cell} (h : RdC w v l) (x : Below w.heap.size w w') : RdC w' v l :=
  h.chg (S := fun _ => False) (Z := fun _ => True) (fun _ _ => trivial) (Chg.of_below x) (fun _ _ e => e)
theorem RdC.nil (w : World) : RdC w (.slice none 0 0) [] := ⟨none, 0, rfl, Nat.le_refl _, fun j hj => absurd hj (by simp)⟩
/-- The call's own row of cells (or nil), from block B on. -/
def OwnC (w : World) (B : Nat) (v : Value) (l : List Jou.Cell) : Prop := w.ownsRow B 81 3 v l.length (l.flatMap celRow)
theorem OwnC.nil (w : World) (B : Nat) : OwnC w B (.slice none 0 0) [] := World.ownsRow_nil w B _ 3
theorem celRows_length : ∀ l : List Jou.Cell, (l.flatMap celRow).length = l.length * 3
  | [] => rfl
  | c :: l => by rw [List.flatMap_cons, List.length_append, celRows_length l, List.length_cons]; show 3 + _ = _; omega
theorem flat3 : ∀ (l : List Jou.Cell) (j i : Nat) (hj : j < l.length), i < 3 → (l.flatMap celRow)[j * 3 + i]? = (celRow l[j])[i]?
  | [], j, i, hj, _ => absurd hj (by simp)
  | p :: l, 0, i, hj, hi => by
    rw [List.flatMap_cons, Nat.zero_mul, Nat.zero_add, List.getElem?_append_left (by show i < 3; exact hi)]; rfl
  | p :: l, j + 1, i, hj, hi => by
    rw [List.flatMap_cons, List.getElem?_append_right (by show 3 ≤ _; omega), show (j + 1) * 3 + i - (celRow p).length = j * 3 + i by show (j + 1) * 3 + i - 3 = _; omega, flat3 l j i (by simpa using hj) hi]
    rfl
theorem OwnC.chg {w w' : World} {B : Nat} {v : Value} {l : List Jou.Cell} {S : Nat → Prop} (h : OwnC w B v l) (x : Chg S w w') (hS : ∀ k, v.ownBlock = some k → ¬ S k) : OwnC w' B v l := by
  have hlt := World.ownsRow.lt h
  obtain ⟨h1, h2⟩ := h
  refine ⟨h1, ?_⟩
  rcases h2 with h2 | ⟨g, cap, cur, hv, hg, hh, r⟩
  · exact .inl h2
  · refine .inr ⟨g, cap, cur, hv, hg, ?_, r⟩
    have hb : v.ownBlock = some g := by rw [hv]; rfl
    rw [x.block g (hlt g hb).2 (hS g hb), hh]
theorem OwnC.kept {w w' : World} {B : Nat} {v : Value} {l : List Jou.Cell} (h : OwnC w B v l) (x : Below w.heap.size w w') : OwnC w' B v l := h.chg (S := fun _ => False) (Chg.of_below x) (fun _ _ e => e)
theorem OwnC.base {w : World} {B B' : Nat} {v : Value} {l : List Jou.Cell} (h : OwnC w B v l) (hB : B' ≤ B) : OwnC w B' v l := by
  obtain ⟨h1, h2⟩ := h
  refine ⟨h1, ?_⟩
  rcases h2 with h2 | ⟨g, cap, cur, hv, hg, r⟩
  · exact .inl h2
  · exact .inr ⟨g, cap, cur, hv, Nat.le_trans hB hg, r⟩
theorem OwnC.lt {w : World} {B : Nat} {v : Value} {l : List Jou.Cell} (h : OwnC w B v l) : ∀ k, v.ownBlock = some k → B ≤ k ∧ k < w.heap.size := World.ownsRow.lt h
theorem OwnC.rd {w : World} {B : Nat} {v : Value} {l : List Jou.Cell} (h : OwnC w B v l) : RdC w v l := by
  have hlt := World.ownsRow.lt h
  have hcs := fun g (hg : v.ownBlock = some g) => World.ownsRow.cells h hg
  obtain ⟨_, h4⟩ := h
  rcases h4 with ⟨rfl, hz⟩ | ⟨g, cap, cur, hv, hg, hh, hnc, _⟩
  · exact ⟨none, 0, by rw [hz], by omega, fun j hj => absurd hj (by omega)⟩
  · refine ⟨some ⟨g, 0, none⟩, cap, hv, hnc, fun j hj => ?_⟩
    have hc : ∀ i u, i < 3 → (celRow l[j])[i]? = some u → w.cell? ⟨g, 0 + (j * 3 + i), none⟩ = some u := fun i u hi hu => by
      have e : (⟨g, 0, none⟩ : Addr).add (j * 3 + i) = ⟨g, 0 + (j * 3 + i), none⟩ := by unfold Addr.add; split <;> simp_all
      rw [← e]
      refine hcs g (by rw [hv]; rfl) _ _ ?_
      rw [flat3 _ j i hj hi]
      exact hu
    exact ⟨g, 0, rfl, (hlt g (by rw [hv]; rfl)).2, hc 0 _ (by omega) rfl, hc 1 _ (by omega) rfl, hc 2 _ (by omega) rfl⟩
theorem under_cells : Tryz.prog.underlying 30 = some (.slice 81) := by kernel_rfl
theorem Tryz.info_cell : (Tryz.prog.info? 81).map (fun i => (i.zero, i.size, i.bytes)) = some (some (.agg #[.string ⟨#[]⟩, .int .i64 0, .string ⟨#[]⟩]), 3, 40) := by kernel_rfl
/-- 'append(v, x...)' of rows of cells. -/
theorem run_append_cells (w : World) (B : Nat) (v : Value) (l : List Jou.Cell) (hown : OwnC w B v l) (x : Value) (m : List Jou.Cell) (hx : RdC w x m) (ty : TypeId) (hl : (l.length + m.length) * 40 ≤ 140737488355328) (hB : B ≤ w.heap.size) :
    ∃ v' w', (Builtin.append_ #[30, 30] ty #[v, x]).run Tryz.prog w = .ok v' w' ∧ OwnC w' B v' (l ++ m) ∧ w.grownBy w' v.ownBlock ∧ (v'.ownBlock = v.ownBlock ∨ v'.ownBlock = some w.heap.size) := by
  obtain ⟨i0, hi, hz0, hz1, hz2⟩ := info_parts Tryz.info_cell
  obtain ⟨y, c, rfl, _, hc⟩ := hx
  by_cases hm : m.length = 0
  · obtain rfl := List.length_eq_zero_iff.1 hm
    refine ⟨v, w, ?_, by rw [List.append_nil]; exact hown, ⟨rfl, rfl, rfl, Nat.le_refl _, fun _ _ _ => rfl⟩, .inl rfl⟩
    rcases hown.2 with ⟨rfl, hn⟩ | ⟨g, cap, cur, rfl, _, _, hnc, _⟩ <;> cases y
    all_goals simp [Builtin.append_, run_underlying under_cells, sizeOf, typeInfo, hi, Builtin.lenOf, Builtin.firstCells, storeCells, loadCells, loadCellsFrom, *]
  · obtain ⟨b, off, rfl, _⟩ := hc 0 (by omega)
    obtain ⟨v', w', h1, h2, h3, _, h5⟩ := run_append_own_at (P := Tryz.prog) w B 30 ty 81 i0 (.agg #[.string ⟨#[]⟩, .int .i64 0, .string ⟨#[]⟩]) 3 40 under_cells hi hz0 hz1 hz2 rfl (by decide) v l.length (l.flatMap celRow) hown ⟨b, off, none⟩ m.length c (m.flatMap celRow) (celRows_length m) (fun j u hj => by
      have hj' : j < m.length * 3 := by
        have := (List.getElem?_eq_some_iff.1 hj).1
        rwa [celRows_length] at this
      have e : (⟨b, off, none⟩ : Addr).add j = ⟨b, off + j, none⟩ := by unfold Addr.add; split <;> simp_all
      have hd : j = j / 3 * 3 + j % 3 := by omega
      have hq : j / 3 < m.length := by omega
      rw [e]
      rw [hd, flat3 m (j / 3) (j % 3) hq (by omega)] at hj
      obtain ⟨b', off', e', _, k0, k1, k2⟩ := hc (j / 3) hq
      cases e'
      rcases (show j % 3 = 0 ∨ j % 3 = 1 ∨ j % 3 = 2 by omega) with hr | hr | hr
      · rw [hr] at hj; rw [show off + j = off + j / 3 * 3 by omega, k0]; simpa [celRow] using hj
      · rw [hr] at hj; rw [show off + j = off + j / 3 * 3 + 1 by omega, k1]; simpa [celRow] using hj
      · rw [hr] at hj; rw [show off + j = off + j / 3 * 3 + 2 by omega, k2]; simpa [celRow] using hj) (fun u hu => by
        obtain ⟨c, _, hu⟩ := List.mem_flatMap.1 hu
        simp [celRow] at hu
        rcases hu with rfl | rfl | rfl <;> rfl) (by unfold maxLen; omega) hl hB
    refine ⟨v', w', h1, ?_, h3, h5⟩
    unfold OwnC
    rw [List.length_append, List.flatMap_append]
    exact h2
theorem OwnC.belowG {w w' : World} {B : Nat} {v : Value} {l : List Jou.Cell} (h : OwnC w B v l) (hg : w.grownBy w' v.ownBlock) (hB : B ≤ w.heap.size) : Below B w w' :=
  (Below.refl _ _).grown hg hB fun k hk => ((World.ownsRow.lt h) k hk).1
theorem wpList_append_cells {ops : Array Oper} {rest : List Oper} {o : Oper} {a : Act} {Q : Exit → Act → World → Prop} {w : World} (hgd : o.guard = none) (s x : Operand)
    (ho : o.op = .call { callee := .builtin .append, args := #[s, x], argTypes := #[30, 30] })
    (B : Nat) (v : Value) (l : List Jou.Cell) (hs : a.eval s = v) (hown : OwnC w B v l) (y : Value) (m : List Jou.Cell) (hx : a.eval x = y) (hy : RdC w y m) (hl : (l.length + m.length) * 40 ≤ 140737488355328) (hB : B ≤ w.heap.size)
    (h : ∀ v' w', OwnC w' B v' (l ++ m) → Below B w w' → wpList Tryz.prog ops Q rest (a.put o.dst v') w') : wpList Tryz.prog ops Q (o :: rest) a w := by
  obtain ⟨v', w', h1, h2, h3, _⟩ := run_append_cells w B v l hown y m hy o.type hl hB
  exact Lib.wpList_append_run w hgd s x _ _ ho v y hs hx v' w' h1 (h v' w' h2 (hown.belowG h3 hB))
theorem cblk {w : World} {b : Nat} {t : TypeId} {x y z : Value} (h : Blk w b t #[x, y, z]) : w.cell? ⟨b, 0, none⟩ = some x ∧ w.cell? ⟨b, 1, none⟩ = some y ∧ w.cell? ⟨b, 2, none⟩ = some z ∧ w.frozen? ⟨b, 0, none⟩ = false ∧ w.frozen? ⟨b, 1, none⟩ = false ∧ w.frozen? ⟨b, 2, none⟩ = false :=
  ⟨h.cell 0, h.cell 1, h.cell 2, h.free 0, h.free 1, h.free 2⟩
theorem RdC.one {w : World} {b : Nat} {c : Jou.Cell} (h : Blk w b 81 #[.string c.key, .int .i64 c.seq, .string c.val]) : RdC w (.slice (some ⟨b, 0, none⟩) 1 1) [c] :=
  ⟨_, 1, rfl, Nat.le_refl _, fun j hj => by
    obtain rfl : j = 0 := by simp at hj; omega
    exact ⟨b, 0, rfl, h.lt, h.cell 0, h.cell 1, h.cell 2⟩⟩
theorem cell_may (c : Jou.Cell) (w : World) : Calls Tryz.prog 71 #[celV c] w fun e w' => e = .returned (.bool (decide (Jou.May c))) ∧ Below w.heap.size w w' := by
  obtain ⟨w1, hw1⟩ : ∃ w1, w1 = w.alloc (.cells #[.string c.key, .int .i64 c.seq, .string c.val] 114 (0, 0)) := ⟨_, rfl⟩
  have hb1 : Below w.heap.size w w1 := by rw [hw1]; exact (Below.refl _ _).alloc (Nat.le_refl _) _
  have hk1 : Blk w1 w.heap.size 114 #[.string c.key, .int .i64 c.seq, .string c.val] := by rw [hw1]; exact Blk.alloc_new w _ _
  obtain ⟨c0, c1, c2, _⟩ := cblk hk1
  rw [hw1] at c0 c1 c2
  obtain ⟨key, seq, val⟩ := c
  obtain ⟨r, hr⟩ : ∃ r, r = decide (Jou.May ⟨key, seq, val⟩) := ⟨_, rfl⟩
  rw [← hr]
  have HR := Lib.hid hr
  have HB := Lib.hid (show Below w.heap.size w (w.alloc (.cells #[.string key, .int .i64 seq, .string val] 114 (0, 0))) by rw [← hw1]; exact hb1)
  unfold celV
  clear hw1 hb1 hk1 hr
  simp only at c0 c1 c2 ⊢
  by_cases h0 : key = ⟨#[]⟩
  · subst h0
    have hr2 : r = false := HR.out.trans (decide_eq_false (fun h => h.1 rfl))
    subst hr2
    go_enter Tryz.func71, Tryz.ntmps71
    go_wp2_with fail
    go_ret
    exact ⟨rfl, HB.out⟩
  · have hz : key.size ≠ 0 := fun e => h0 (by
      apply bytes_ext
      have : key.data.toList.length = 0 := by simpa using e
      rw [List.length_eq_zero_iff.1 this])
    have hem : key.toList.isEmpty = false := by
      rw [ByteArray.toList_eq, ← Bool.not_eq_true, List.isEmpty_iff]
      intro e
      exact h0 (bytes_ext e)
    by_cases h1 : key.size ≤ 64
    all_goals by_cases h2 : 0 ≤ seq
    all_goals by_cases h3 : val.size ≤ 128
    all_goals
      first | (have g1 : (key.size : Int) ≤ 64 := by omega) | (have g1 : ¬ (key.size : Int) ≤ 64 := by omega)
      first | (have g3 : (val.size : Int) ≤ 128 := by omega) | (have g3 : ¬ (val.size : Int) ≤ 128 := by omega)
      first
        | (have hr2 : r = true := HR.out.trans (decide_eq_true (show Jou.May ⟨key, seq, val⟩ from ⟨hz, h1, h2, h3⟩)))
        | (have hr2 : r = false := HR.out.trans (decide_eq_false (show ¬ Jou.May ⟨key, seq, val⟩ from fun h => by first | exact h1 h.2.1 | exact h2 h.2.2.1 | exact h3 h.2.2.2)))
      subst hr2
      clear hz h1 h3
      go_enter Tryz.func71, Tryz.ntmps71
      go_wp2_with fail
      go_ret
      exact ⟨rfl, HB.out⟩
theorem check_c (c : Jou.Cell) (w : World) : Calls Tryz.prog 44 #[celV c] w fun e w' => e = .returned (.int .i64 (if Jou.May c then 0 else 2)) ∧ Below w.heap.size w w' := by
  obtain ⟨w1, hw1⟩ : ∃ w1, w1 = w.alloc (.cells #[.string c.key, .int .i64 c.seq, .string c.val] 81 (0, 0)) := ⟨_, rfl⟩
  have hb1 : Below w.heap.size w w1 := by rw [hw1]; exact (Below.refl _ _).alloc (Nat.le_refl _) _
  have hk1 : Blk w1 w.heap.size 81 #[.string c.key, .int .i64 c.seq, .string c.val] := by rw [hw1]; exact Blk.alloc_new w _ _
  obtain ⟨c0, c1, c2, _⟩ := cblk hk1
  rw [hw1] at c0 c1 c2
  have HM := Lib.hid (cell_may c w1)
  unfold celV at HM ⊢
  have HB := Lib.hid hb1
  have HW1 := Lib.hid hw1
  clear hw1 hb1 hk1
  by_cases hm : Jou.May c
  · rw [decide_eq_true hm] at HM
    rw [if_pos hm]
    clear hm
    go_enter Tryz.func44, Tryz.ntmps44
    go_wp2_with fail
    rw [← HW1.out]
    refine HM.out.mono ?_
    rintro e w2 ⟨rfl, hb⟩
    have HB2 := Lib.hid (HB.out.trans (hb.mono HB.out.size))
    clear hb c0 c1 c2
    go_wp2_with fail
    go_ret
    exact ⟨rfl, HB2.out⟩
  · rw [decide_eq_false hm] at HM
    rw [if_neg hm]
    clear hm
    go_enter Tryz.func44, Tryz.ntmps44
    go_wp2_with fail
    rw [← HW1.out]
    refine HM.out.mono ?_
    rintro e w2 ⟨rfl, hb⟩
    have HB2 := Lib.hid (HB.out.trans (hb.mono HB.out.size))
    clear hb c0 c1 c2
    go_wp2_with fail
    go_ret
    exact ⟨rfl, HB2.out⟩
end Go.Proofs.YtcijhhnbhnaiaaaGreatDoor
