/- Rows of numbers, by Go's library: a copy, is one in it, two as one. -/
import Derived.Test.YtcijhhnbhnaiaaaGreatEdMem
import Derived.Test.YtcijhhnbhnaiaaaGreatEdShelf
import Derived.Maps.AppendAt
import Derived.Lib.AppendZerosOnto
import Derived.Lib.OwnBridge
import Derived.Sort.OwnSortedInts
namespace Go.Proofs.YtcijhhnbhnaiaaaGreat
set_option linter.unusedSimpArgs false
set_option linter.unusedVariables false
set_option maxRecDepth 100000
open Go.RowKit

theorem getD_cells {w : World} {b off : Nat} {l : List Int} (h : ∀ (j : Nat) (hj : j < l.length), w.cell? ⟨b, off + j, none⟩ = some (.int .i64 l[j])) : ∀ j, j < l.length → w.cell? ⟨b, off + j, none⟩ = some (.int .i64 (l.getD j 0)) := fun j hj => by
  rw [h j hj]; simp [List.getD_eq_getElem?_getD, List.getElem?_eq_getElem hj]
theorem cloneI_any (v : Value) (l : List Int) (w : World) (h : RdI w v l) (hl : l.length * 8 ≤ 140737488355328) :
    Calls Tryz.prog 58 #[v] w fun e w' => ∃ v', e = .returned v' ∧ OwnI w' w.heap.size v' l ∧ Below w.heap.size w w' := by
  rcases h with ⟨x, c, rfl, rfl⟩ | ⟨b, off, c, rfl, hb, hc⟩
  · cases x with
    | none =>
      refine (Tryz.slices_Clone_int_nil 0 c w).mono ?_
      rintro e w' ⟨rfl, rfl⟩
      exact ⟨_, rfl, OwnI.nil _ _, Below.refl _ _⟩
    | some x =>
      refine (Tryz.slices_Clone_int_zero x c w).mono ?_
      rintro e w' ⟨v', rfl, h1, _, h2⟩
      exact ⟨v', rfl, h1, h2⟩
  · refine (Tryz.slices_Clone_int b off l.length c l w (Nat.le_refl _) hl (getD_cells hc)).mono ?_
    rintro e w' ⟨v', rfl, h1, _, h2⟩
    rw [List.take_length] at h1
    exact ⟨v', rfl, h1, h2⟩
theorem containsI_any (v : Value) (l : List Int) (x : Int) (w : World) (h : RdI w v l) (hl : l.length ≤ 9223372036854775807) :
    Calls Tryz.prog 86 #[v, .int .i64 x] w fun e w' => e = .returned (.bool (l.contains x)) ∧ w = w' := by
  rcases h with ⟨y, c, rfl, rfl⟩ | ⟨b, off, c, rfl, hb, hc⟩
  · refine (Tryz.slices_Contains_int_empty y c x w).mono ?_
    rintro e w' ⟨rfl, rfl⟩
    exact ⟨rfl, rfl⟩
  · refine (Tryz.slices_Contains_int b off l.length c l x w (Nat.le_refl _) hl (getD_cells hc)).mono ?_
    rintro e w' ⟨rfl, rfl⟩
    rw [List.take_length]
    exact ⟨rfl, rfl⟩
/-- 'append(v, x...)' of rows of numbers. -/
theorem run_append_ints (w : World) (B : Nat) (v : Value) (l : List Int) (hown : OwnI w B v l) (x : Value) (m : List Int) (hx : RdI w x m) (ty : TypeId) (hl : (l.length + m.length) * 8 ≤ 140737488355328) (hB : B ≤ w.heap.size) :
    ∃ v' w', (Builtin.append_ #[42, 42] ty #[v, x]).run Tryz.prog w = .ok v' w' ∧ OwnI w' B v' (l ++ m) ∧ w.grownBy w' v.ownBlock ∧ (v'.ownBlock = v.ownBlock ∨ v'.ownBlock = some w.heap.size) := by
  obtain ⟨i0, hi, hz0, hz1, hz2⟩ := info_parts Tryz.info_int
  rcases hx with ⟨y, c, rfl, rfl⟩ | ⟨b, off, c, rfl, hb, hc⟩
  · refine ⟨v, w, ?_, by rw [List.append_nil]; exact hown, ⟨rfl, rfl, rfl, Nat.le_refl _, fun _ _ _ => rfl⟩, .inl rfl⟩
    rcases hown.2 with ⟨rfl, hn⟩ | ⟨g, cap, cur, rfl, _, _, hnc, _⟩ <;> cases y
    all_goals simp [Builtin.append_, run_underlying under_ints, sizeOf, typeInfo, hi, Builtin.lenOf, Builtin.firstCells, storeCells, loadCells, loadCellsFrom, *]
  · obtain ⟨v', w', h1, h2, h3, _, h5⟩ := run_append_own_at (P := Tryz.prog) w B 42 ty 3 i0 (.int .i64 0) 1 8 under_ints hi hz0 hz1 hz2 rfl (by decide) v l.length (l.map (Value.int .i64)) hown ⟨b, off, none⟩ m.length c (m.map (Value.int .i64)) (by simp) (fun j u hj => by
      have hj' : j < m.length := by
        have := (List.getElem?_eq_some_iff.1 hj).1
        simpa using this
      have e : (⟨b, off, none⟩ : Addr).add j = ⟨b, off + j, none⟩ := by unfold Addr.add; split <;> simp_all
      rw [e, hc j hj']
      simp [hj'] at hj
      rw [← hj]) (fun u hu => by obtain ⟨x, _, rfl⟩ := List.mem_map.1 hu; rfl) (by unfold maxLen; omega) hl hB
    refine ⟨v', w', h1, ?_, h3, h5⟩
    unfold OwnI
    rw [List.length_append, List.map_append]
    exact h2
theorem wpList_append_ints {ops : Array Oper} {rest : List Oper} {o : Oper} {a : Act} {Q : Exit → Act → World → Prop} {w : World} (hgd : o.guard = none) (s x : Operand)
    (ho : o.op = .call { callee := .builtin .append, args := #[s, x], argTypes := #[42, 42] })
    (B : Nat) (v : Value) (l : List Int) (hs : a.eval s = v) (hown : OwnI w B v l) (y : Value) (m : List Int) (hx : a.eval x = y) (hy : RdI w y m) (hl : (l.length + m.length) * 8 ≤ 140737488355328) (hB : B ≤ w.heap.size)
    (h : ∀ v' w', OwnI w' B v' (l ++ m) → Below B w w' → wpList Tryz.prog ops Q rest (a.put o.dst v') w') : wpList Tryz.prog ops Q (o :: rest) a w := by
  obtain ⟨v', w', h1, h2, h3, _⟩ := run_append_ints w B v l hown y m hy o.type hl hB
  exact Lib.wpList_append_run w hgd s x _ _ ho v y hs hx v' w' h1 (h v' w' h2 (hown.below h3 hB))
/-- Room for so many numbers. -/
theorem growI_any (n : Nat) (w : World) (hn : n ≤ 1000000) :
    Calls Tryz.prog 104 #[.slice none 0 0, .int .i64 n] w fun e w' => ∃ v', e = .returned v' ∧ OwnI w' w.heap.size v' [] ∧ Below w.heap.size w w' := by
  obtain ⟨i0, hi, hz0, hz1, hz2⟩ := info_parts Tryz.info_int
  by_cases hz : n = 0
  · subst hz
    go_enter Tryz.func104, Tryz.ntmps104
    go_wp2_with fail
    go_ret
    exact ⟨_, rfl, OwnI.nil _ _, Below.refl _ _⟩
  · have hn0 : (0 : Int) < n := by omega
    have hrz : ∀ ty, (Builtin.append_ #[42, 3] ty #[.slice none 0 0, .int .i64 n]).run Tryz.prog w = .ok (.slice (some ⟨w.heap.size, 0, none⟩) n (grownCap w n 0 3)) (w.drew.alloc (.cells (Builtin.zeroCells (Value.int .i64 0).cells n ++ Builtin.zeroCells (Value.int .i64 0).cells (grownCap w n 0 3 - n)) 3)) := fun ty => by
      have h := Lib.run_append_grow_zeros w 42 3 ty 3 i0 _ .i64 .i64 under_ints (by kernel_rfl) hi hz0 none 0 0 [] (run_firstCells_none w.drew i0.size 0 0 0) n (by omega) (by omega) (by omega) (by omega) (by rw [hz2]; omega) (by rw [hz2]; exact growslice_fits (by omega) (by omega))
      simpa using h
    have hge := grownCap_ge w n 0 3
    have hle := grownCap_le_maxLen w n 0 3 (by unfold maxLen; omega)
    obtain ⟨G, hG⟩ : ∃ G, G = grownCap w n 0 3 := ⟨_, rfl⟩
    rw [← hG] at hrz hge hle
    obtain ⟨W1, hW1⟩ : ∃ W1, W1 = w.drew.alloc (.cells (Builtin.zeroCells (Value.int .i64 0).cells n ++ Builtin.zeroCells (Value.int .i64 0).cells (G - n)) 3) := ⟨_, rfl⟩
    have HO := Lib.hid (show OwnI W1 w.heap.size (.slice (some ⟨w.heap.size, 0, none⟩) 0 G) [] by
      rw [hW1]
      exact World.ownsRow_made w.drew _ G (Nat.le_refl _) hle (by simp [Builtin.zeroCells, Value.cells]; omega))
    have HB := Lib.hid (show Below w.heap.size w W1 by rw [hW1]; exact ((Below.refl _ _).drew).alloc (Nat.le_refl _) _)
    rw [← hW1] at hrz
    have Hrz := Lib.hid hrz
    have hG63 : G ≤ 9223372036854775807 := by unfold maxLen at hle; omega
    clear hrz hW1 hG hle hi hz0 hz1 hz2 hz
    go_enter Tryz.func104, Tryz.ntmps104
    go_wp2_with (at_builtin; refine Lib.wpList_append_run _ rfl _ _ _ _ rfl _ _ rfl rfl _ _ (Hrz.out _) ?_)
    go_ret
    exact ⟨_, rfl, HO.out, HB.out⟩
set_option maxHeartbeats 1000000 in
theorem concatI_any (v0 v1 : Value) (a b : List Int) (g : Nat) (w : World) (hB : Blk w g 42 #[v0, v1]) (ha : RdI w v0 a) (hb : RdI w v1 b) (hl : a.length + b.length ≤ 100000) :
    Calls Tryz.prog 89 #[.slice (some ⟨g, 0, none⟩) 2 2] w fun e w' => ∃ v', e = .returned v' ∧ OwnI w' w.heap.size v' (a ++ b) ∧ Below w.heap.size w w' := by
  have c0 := hB.cell 0
  have c1 := hB.cell 1
  simp at c0 c1
  have HA := Lib.hid ha
  have HB := Lib.hid hb
  have HBl := Lib.hid hB
  obtain ⟨x0, y0, rfl, _⟩ := ha.form
  obtain ⟨x1, y1, rfl, _⟩ := hb.form
  clear ha hb hB
  have hla : a.length ≤ 100000 := by omega
  have hlb : b.length ≤ 100000 := by omega
  have hlab : ((a.length : Nat) : Int) + (b.length : Nat) ≤ 100000 := by omega
  go_enter Tryz.func89, Tryz.ntmps89
  go_wp2_with fail
  go_loop [3, 5, 11] (fun v3 _ v11 => ∃ (k z : Nat), v11 = .int .i64 k ∧ v3 = .int .i64 z ∧ (k = 0 ∧ z = 0 ∨ k = 1 ∧ z = a.length ∨ k = 2 ∧ z = a.length + b.length)) (fun _ _ v11 => 2 - (intOf v11).toNat)
  case atStart => exact ⟨0, 0, rfl, rfl, .inl ⟨rfl, rfl⟩⟩
  case round =>
    obtain ⟨k, z, rfl, rfl, hk⟩ := hrel
    rcases hk with ⟨rfl, rfl⟩ | ⟨rfl, rfl⟩ | ⟨rfl, rfl⟩
    · go_wp2_with fail
      go_round
      case rel => exact ⟨1, a.length, by go_num, by go_num, .inr (.inl ⟨rfl, rfl⟩)⟩
      case measure => simp [intOf]
    · go_wp2_with fail
      go_round
      case rel => exact ⟨2, a.length + b.length, by go_num, by go_num, .inr (.inr ⟨rfl, rfl⟩)⟩
      case measure => simp [intOf]
    · clear c0 c1
      go_wp2_with fail
      refine (growI_any (a.length + b.length) w (by omega)).mono ?_
      rintro e w1 ⟨v6, rfl, ho, hbe⟩
      have HO := Lib.hid ho
      have HE := Lib.hid hbe
      clear ho hbe
      go_wp2_with fail
      go_loopw [6, 8, 27] (fun v6 _ v27 wr => ∃ (k : Nat) (pre : List Int), v27 = .int .i64 k ∧ OwnI wr w.heap.size v6 pre ∧ Below w.heap.size w wr ∧ (k = 0 ∧ pre = [] ∨ k = 1 ∧ pre = a ∨ k = 2 ∧ pre = a ++ b)) (fun _ _ v27 _ => 2 - (intOf v27).toNat)
      case atStart => exact ⟨0, [], rfl, HO.out, HE.out, .inl ⟨rfl, rfl⟩⟩
      case round =>
        obtain ⟨k, pre, rfl, ho, hbe, hk⟩ := hrel
        have HO2 := Lib.hid ho
        have HE2 := Lib.hid hbe
        have c0 := (HBl.out.below hbe).cell 0
        have c1 := (HBl.out.below hbe).cell 1
        simp at c0 c1
        have HA2 := Lib.hid (HA.out.below hbe)
        have HB2 := Lib.hid (HB.out.below hbe)
        have hsz := hbe.size
        clear ho hbe
        rcases hk with ⟨rfl, rfl⟩ | ⟨rfl, rfl⟩ | ⟨rfl, rfl⟩
        · go_wp2_with (at_builtin; refine wpList_append_ints rfl _ _ rfl w.heap.size _ [] rfl HO2.out _ a rfl HA2.out (by simp; omega) hsz ?_)
          intro v' w2 ho hbe
          have HO3 := Lib.hid ho
          have HE3 := Lib.hid (HE2.out.trans hbe)
          clear ho hbe c0 c1
          go_wp2_with fail
          go_roundw
          case rel => exact ⟨1, a, by go_num, HO3.out, HE3.out, .inr (.inl ⟨rfl, rfl⟩)⟩
          case measure => simp [intOf]
        · go_wp2_with (at_builtin; refine wpList_append_ints rfl _ _ rfl w.heap.size _ pre rfl HO2.out _ b rfl HB2.out (by omega) hsz ?_)
          intro v' w2 ho hbe
          have HO3 := Lib.hid ho
          have HE3 := Lib.hid (HE2.out.trans hbe)
          clear ho hbe c0 c1
          go_wp2_with fail
          go_roundw
          case rel => exact ⟨2, pre ++ b, by go_num, HO3.out, HE3.out, .inr (.inr ⟨rfl, rfl⟩)⟩
          case measure => simp [intOf]
        · clear c0 c1
          go_wp2_with fail
          go_ret
          exact ⟨_, rfl, HO2.out, HE2.out⟩
open Go.Sort in
theorem sortI_any (w : World) (B : Nat) (v : Value) (l : List Int) (h : OwnI w B v l) (hl : l.length < 4611686018427387904) (hB : B ≤ w.heap.size) :
    Calls Tryz.prog 90 #[v] w fun e w' => e = .returned (.tuple #[]) ∧ OwnI w' B v (l.mergeSort fun x y => decide (x ≤ y)) ∧ Below B w w' := by
  have h0 := h
  obtain ⟨_, ⟨rfl, hn⟩ | ⟨g, cap, cur, rfl, hg, hh, hn, hm, hs, ht⟩⟩ := h
  · refine (Tryz.slices_Sort_int_none none 0 w).mono ?_
    rintro e w' ⟨rfl, rfl⟩
    rw [List.length_eq_zero_iff.1 hn, List.mergeSort_nil]
    exact ⟨rfl, OwnI.nil _ _, Below.refl _ _⟩
  · have hlt : g < w.heap.size := (World.ownsRow.lt h0 g rfl).2
    rw [Nat.mul_one] at ht
    refine (Tryz.slices_Sort_int g 0 cap l w (holds_of_blockI hh ht) hlt hl).mono ?_
    rintro e w' ⟨rfl, n, os, rfl⟩
    refine ⟨rfl, ?_, ?_⟩
    · have := ownsRow_sortedI (w := w) (base := B) (n := n) (os := os) (ss := l) (ts := l.mergeSort fun x y => decide (x ≤ y)) (List.length_mergeSort _) hg hh hn hm hs
      unfold OwnI
      rw [List.length_mergeSort]
      exact this
    · exact OwnI.below h0 (grownBy_sortedI _) hB
open Go.Sort in
theorem compactI_any (w : World) (B : Nat) (v : Value) (l : List Int) (h : OwnI w B v l) (hl : l.length ≤ 9223372036854775807) (hB : B ≤ w.heap.size) :
    Calls Tryz.prog 91 #[v] w fun e w' => ∃ v', e = .returned v' ∧ OwnI w' B v' (Lib.compact l) ∧ Below B w w' := by
  have h0 := h
  obtain ⟨_, ⟨rfl, hn⟩ | ⟨g, cap, cur, rfl, hg, hh, hn, hm, hs, ht⟩⟩ := h
  · refine (Tryz.slices_Compact_int_empty none 0 w).mono ?_
    rintro e w' ⟨rfl, rfl⟩
    rw [List.length_eq_zero_iff.1 hn]
    exact ⟨_, rfl, OwnI.nil _ _, Below.refl _ _⟩
  · rw [Nat.mul_one] at ht
    refine (Tryz.slices_Compact_int g 0 cap l w (holds_of_blockI hh ht) hl hn).mono ?_
    rintro e w' ⟨rfl, q, rfl⟩
    have hcl : (Lib.compact l).length ≤ l.length := by
      unfold Lib.compact Lib.compactUpTo
      rw [List.length_map]
      exact Nat.le_trans (List.length_filter_le _ _) (by simp)
    refine ⟨_, rfl, ?_, Lib.below_putRow (Below.refl _ _) hg⟩
    have := Lib.ownsRow_putRow (enc := Value.int .i64) (q := q) (k := (Lib.compact l).length) (zs := l) (ys := Lib.compact l ++ List.replicate (l.length - (Lib.compact l).length) 0) h0 (by simp; omega) hcl
    unfold OwnI
    rw [List.take_left] at this
    exact this
theorem unionI_any (v0 v1 : Value) (a b : List Int) (w : World) (ha : RdI w v0 a) (hb : RdI w v1 b) (hl : a.length + b.length ≤ 100000) :
    Calls Tryz.prog 74 #[v0, v1] w fun e w' => ∃ v', e = .returned v' ∧ OwnI w' w.heap.size v' (Lib.compact ((a ++ b).mergeSort fun x y => decide (x ≤ y))) ∧ Below w.heap.size w w' := by
  obtain ⟨x0, y0, rfl, _⟩ := ha.form
  obtain ⟨x1, y1, rfl, _⟩ := hb.form
  obtain ⟨w1, hw1⟩ : ∃ w1, w1 = w.alloc (.cells #[.slice x0 a.length y0, .slice x1 b.length y1] 42 (0, 0)) := ⟨_, rfl⟩
  have hb1 : Below w.heap.size w w1 := by rw [hw1]; exact (Below.refl _ _).alloc (Nat.le_refl _) _
  have B1 := Lib.hid (show Blk w1 w.heap.size 42 #[.slice x0 a.length y0, .slice x1 b.length y1] by rw [hw1]; exact Blk.alloc_new _ _ _)
  have HA := Lib.hid (ha.below hb1)
  have HB := Lib.hid (hb.below hb1)
  have HE := Lib.hid hb1
  have HW := Lib.hid hw1
  have hss : ((a ++ b).mergeSort fun x y => decide (x ≤ y)).length ≤ 100000 := by rw [List.length_mergeSort, List.length_append]; exact hl
  have hl1 : (a ++ b).length < 4611686018427387904 := by rw [List.length_append]; omega
  clear ha hb hb1 hw1
  go_enter Tryz.func74, Tryz.ntmps74
  go_wp2_with fail
  rw [← HW.out]
  refine (concatI_any _ _ a b w.heap.size w1 B1.out HA.out HB.out hl).mono ?_
  rintro e w2 ⟨v2, rfl, ho2, hb2⟩
  have HO2 := Lib.hid (ho2.base (HE.out.size))
  have HE2 := Lib.hid (HE.out.trans (hb2.mono HE.out.size))
  clear ho2 hb2
  go_wp2_with fail
  refine (sortI_any w2 w.heap.size v2 _ HO2.out hl1 HE2.out.size).mono ?_
  rintro e w3 ⟨rfl, ho3, hb3⟩
  have HO3 := Lib.hid ho3
  have HE3 := Lib.hid (HE2.out.trans hb3)
  clear ho3 hb3
  go_wp2_with fail
  refine (compactI_any w3 w.heap.size v2 _ HO3.out (by omega) HE3.out.size).mono ?_
  rintro e w4 ⟨v4, rfl, ho4, hb4⟩
  have HO4 := Lib.hid ho4
  have HE4 := Lib.hid (HE3.out.trans hb4)
  clear ho4 hb4
  go_wp2_with fail
  go_ret
  exact ⟨_, rfl, HO4.out, HE4.out⟩
end Go.Proofs.YtcijhhnbhnaiaaaGreat
