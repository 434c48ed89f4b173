/- Go's slices.Insert and slices.Delete at tablets, walked. -/
import Derived.Test.YtcijhhnbhnaiaaaGreatEdClone
import Derived.Shelf.Spec.SlicesInsertGrow
import Derived.Shelf.Slices.Delete
namespace Go.Proofs.YtcijhhnbhnaiaaaGreat
set_option linter.unusedSimpArgs false
set_option linter.unusedVariables false
set_option maxRecDepth 100000
open Go.RowKit Go.Lib

theorem RowAt.take {w : World} {b : Nat} {vs : List Value} (h : RowAt w b vs) (k : Nat) : RowAt w b (vs.take k) :=
  ⟨h.lt, fun j hj => by rw [List.length_take] at hj; rw [List.getElem_take]; exact h.cell j (by omega), fun j hj => h.free j (by rw [List.length_take] at hj; omega)⟩
theorem RowAt.lay {w : World} {b : Nat} {vs : List Value} (h : RowAt w b vs) (o : Nat) (us : List Value) (hl : o + us.length ≤ vs.length) : RowAt (w.setCells b o us) b (vs.take o ++ us ++ vs.drop (o + us.length)) := by
  have hsz : ∀ (us : List Value) (o : Nat) (w : World), (w.setCells b o us).heap.size = w.heap.size := by
    intro us
    induction us with
    | nil => intro o w; rfl
    | cons u us ih => intro o w; rw [World.setCells, ih]; simp [World.setCell]
  have htl : (vs.take o).length = o := by rw [List.length_take]; omega
  refine ⟨by rw [hsz]; exact h.lt, fun j hj => ?_, fun j hj => ?_⟩
  · have hj' : j < vs.length := by simp only [List.length_append, List.length_take, List.length_drop] at hj; omega
    by_cases h1 : o ≤ j ∧ j < o + us.length
    · have := World.cell?_setCells_in b us o w (fun i hi => by rw [h.cell (o + i) (by omega)]; rfl) (j - o) (by omega)
      rw [show o + (j - o) = j by omega] at this
      rw [this, List.getElem_append_left (by rw [List.length_append]; omega), List.getElem_append_right (by omega)]
      simp only [htl]
    · rw [World.cell?_setCells_out b us o w ⟨b, j, none⟩ (fun _ _ => by show j < o ∨ o + us.length ≤ j; omega), h.cell j hj']
      congr 1
      by_cases h2 : j < o
      · rw [List.getElem_append_left (by rw [List.length_append]; omega), List.getElem_append_left (by omega), List.getElem_take]
      · rw [List.getElem_append_right (by rw [List.length_append]; omega), List.getElem_drop]
        congr 1
        rw [List.length_append]; omega
  · rw [World.frozen?_setCells]
    simp only [List.length_append, List.length_take, List.length_drop] at hj
    exact h.free j (by omega)
theorem cellsT_one {raw : List (ByteArray × Value)} (h : ∀ (j : Nat) (hj : j < raw.length), raw[j].2.oneCell' = true) : ∀ v ∈ cellsT raw, v.oneCell' = true := by
  intro v hv
  obtain ⟨x, hx, hv⟩ := List.mem_flatMap.1 hv
  simp at hv
  obtain ⟨j, hj, rfl⟩ := List.mem_iff_getElem.1 hx
  rcases hv with rfl | rfl
  · rfl
  · exact h j hj
theorem RowAt.get {w : World} {b : Nat} {vs : List Value} (h : RowAt w b vs) : ∀ j u, vs[j]? = some u → w.cell? ⟨b, j, none⟩ = some u := fun j u hj => by
  obtain ⟨hl, e⟩ := List.getElem?_eq_some_iff.1 hj
  rw [h.cell j hl, e]
theorem add_zero_addr (b j : Nat) : (⟨b, 0, none⟩ : Addr).add j = ⟨b, j, none⟩ := by unfold Addr.add; split <;> simp_all
set_option maxHeartbeats 4000000 in
theorem insertT_any (tb n i vb : Nat) (raw : List (ByteArray × Value)) (x : ByteArray × Value) (w : World) (hrow : RowAt w tb (cellsT raw)) (hlen : raw.length = n) (hi : i ≤ n) (hn0 : 0 < n) (hn : n ≤ 1000)
    (h1 : ∀ (j : Nat) (hj : j < raw.length), raw[j].2.oneCell' = true) (hx1 : x.2.oneCell' = true) (hv : RowAt w vb (cellsT [x])) :
    Calls Tryz.prog 73 #[.slice (some ⟨tb, 0, none⟩) n n, .int .i64 i, .slice (some ⟨vb, 0, none⟩) 1 1] w fun e w' =>
      ∃ g c, w.heap.size ≤ g ∧ e = .returned (.slice (some ⟨g, 0, none⟩) (n + 1) c) ∧ RowAt w' g (cellsT (raw.take i ++ x :: raw.drop i)) ∧ Below w.heap.size w w' := by
  obtain ⟨i0, hi0, hz0, hz1, hz2⟩ := info_parts Tryz.info_tablet
  have hcl := cellsT_length raw
  by_cases hin : i = n
  · subst hin
    have hrun : ∀ ty, (Builtin.append_ #[26, 26] ty #[.slice (some ⟨tb, 0, none⟩) i i, .slice (some ⟨vb, 0, none⟩) 1 1]).run Tryz.prog w = _ := fun ty =>
      run_append_grow w 26 ty 65 i0 _ under_tablets hi0 hz0 ⟨tb, 0, none⟩ i i (cellsT raw) (by rw [hcl, hlen, hz1]) (fun j v hj => by rw [add_zero_addr]; exact hrow.get j v hj)
        ⟨vb, 0, none⟩ 1 1 (cellsT [x]) (by rw [hz1]; rfl) (fun j v hj => by rw [add_zero_addr]; exact hv.get j v hj) (by omega) (by omega) (by rw [hz2]; exact growslice_fits (by omega) (by omega))
    have hge := grownCap_ge w (i + 1) i 65
    obtain ⟨G, hG⟩ : ∃ G, G = grownCap w (i + 1) i 65 := ⟨_, rfl⟩
    rw [← hG] at hrun
    obtain ⟨W1, hW1⟩ : ∃ W1, W1 = w.drew.alloc (.cells ((cellsT raw).toArray ++ (cellsT [x]).toArray ++ Builtin.zeroCells (Value.agg #[.string ⟨#[]⟩, .slice none 0 0]).cells (G - (i + 1))) 65) := ⟨_, rfl⟩
    rw [← hW1] at hrun
    have Hrun := Lib.hid hrun
    have HR := Lib.hid (show RowAt W1 w.heap.size (cellsT (raw.take i ++ x :: raw.drop i)) by
      have h2 : RowAt W1 w.heap.size ((cellsT raw).toArray ++ (cellsT [x]).toArray ++ Builtin.zeroCells (Value.agg #[.string ⟨#[]⟩, .slice none 0 0]).cells (G - (i + 1))).toList := by
        rw [hW1]; exact RowAt.of_blk (Blk.alloc_new w.drew 65 _)
      have h3 := h2.take (cellsT (raw ++ [x])).length
      rw [List.take_of_length_le (by omega : raw.length ≤ i), List.drop_of_length_le (by omega : raw.length ≤ i)]
      have e : ((cellsT raw).toArray ++ (cellsT [x]).toArray ++ Builtin.zeroCells (Value.agg #[.string ⟨#[]⟩, .slice none 0 0]).cells (G - (i + 1))).toList.take (cellsT (raw ++ [x])).length = cellsT (raw ++ [x]) := by
        rw [Array.toList_append, Array.toList_append, cellsT_append]
        exact List.take_left
      rw [e] at h3
      exact h3)
    have HB := Lib.hid (show Below w.heap.size w W1 by rw [hW1]; exact ((Below.refl _ _).drew).alloc (Nat.le_refl _) _)
    have hz : ((1 : Int)) ≠ 0 := by omega
    clear hrun hW1 hG hge hrow hv hi0 hz0 hz1 hz2 h1 hx1
    go_enter Tryz.func73, Tryz.ntmps73
    go_wp2_with (at_builtin; refine Lib.wpList_append_run _ rfl _ _ _ _ rfl _ _ rfl rfl _ _ (Hrun.out _) ?_)
    all_goals
      go_ret
      exact ⟨_, _, Nat.le_refl _, rfl, HR.out, HB.out⟩
  · have hlt : i < n := by omega
    have hrz : ∀ ty, (Builtin.append_ #[26, 3] ty #[.slice (some ⟨tb, 0, none⟩) i n, .int .i64 ((n : Int) + 1 - (i : Int))]).run Tryz.prog w =
        .ok (.slice (some ⟨w.heap.size, 0, none⟩) (n + 1) (grownCap w (n + 1) n 65)) (w.drew.alloc (.cells ((cellsT (raw.take i)).toArray ++ Builtin.zeroCells (Value.agg #[.string ⟨#[]⟩, .slice none 0 0]).cells (n + 1 - i) ++ Builtin.zeroCells (Value.agg #[.string ⟨#[]⟩, .slice none 0 0]).cells (grownCap w (n + 1) n 65 - (n + 1))) 65)) := fun ty => by
      have hold : (Builtin.firstCells i0.size i (.slice (some ⟨tb, 0, none⟩) i n)).run Tryz.prog w.drew = .ok (cellsT (raw.take i)).toArray w.drew := by
        rw [hz1]
        exact run_firstCells_some w.drew 2 i ⟨tb, 0, none⟩ i n (cellsT (raw.take i)) (by rw [cellsT_length, List.length_take]; omega) (fun j v hj => by
          rw [add_zero_addr]
          rw [← cellsT_take, List.getElem?_take] at hj
          split at hj
          · exact hrow.get j v hj
          · cases hj)
      have h := Lib.run_append_grow_zeros w 26 3 ty 65 i0 _ .i64 .i64 under_tablets (by kernel_rfl) hi0 hz0 (some ⟨tb, 0, none⟩) i n (cellsT (raw.take i)) hold (n + 1 - i) (by omega) (by omega) (by omega) (by omega) (by rw [hz2]; omega) (by rw [hz2, show i + (n + 1 - i) = n + 1 by omega]; exact growslice_fits (by omega) (by omega))
      rw [show i + (n + 1 - i) = n + 1 by omega] at h
      rw [show (n : Int) + 1 - (i : Int) = ((n + 1 - i : Nat) : Int) by omega]
      exact h
    have hge := grownCap_ge w (n + 1) n 65
    have hle := grownCap_le_maxLen w (n + 1) n 65 (by unfold maxLen; omega)
    obtain ⟨G, hG⟩ : ∃ G, G = grownCap w (n + 1) n 65 := ⟨_, rfl⟩
    rw [← hG] at hrz hge hle
    obtain ⟨Z, hZ⟩ : ∃ Z : Array Value, Z = Builtin.zeroCells (Value.agg #[.string ⟨#[]⟩, .slice none 0 0]).cells (n + 1 - i) ++ Builtin.zeroCells (Value.agg #[.string ⟨#[]⟩, .slice none 0 0]).cells (G - (n + 1)) := ⟨_, rfl⟩
    have hZl : (n + 1 - i) * 2 ≤ Z.size := by
      rw [hZ, Array.size_append]
      simp only [Builtin.zeroCells, Array.size_map, Array.size_range]
      show _ ≤ (n + 1 - i) * 2 + _
      omega
    obtain ⟨W1, hW1⟩ : ∃ W1, W1 = w.drew.alloc (.cells ((cellsT (raw.take i)).toArray ++ Z) 65) := ⟨_, rfl⟩
    have hrz2 : ∀ ty, (Builtin.append_ #[26, 3] ty #[.slice (some ⟨tb, 0, none⟩) i n, .int .i64 ((n : Int) + 1 - (i : Int))]).run Tryz.prog w = .ok (.slice (some ⟨w.heap.size, 0, none⟩) (n + 1) G) W1 := fun ty => by
      rw [hrz ty, hW1, hZ, Array.append_assoc]
    have hb1 : Below w.heap.size w W1 := by rw [hW1]; exact ((Below.refl _ _).drew).alloc (Nat.le_refl _) _
    have hti : (cellsT (raw.take i)).length = i * 2 := by rw [cellsT_length, List.length_take]; omega
    have hR1 : RowAt W1 w.heap.size (cellsT (raw.take i) ++ Z.toList.take ((n + 1 - i) * 2)) := by
      have h2 : RowAt W1 w.heap.size ((cellsT (raw.take i)).toArray ++ Z).toList := by
        rw [hW1]; exact RowAt.of_blk (Blk.alloc_new w.drew 65 _)
      have h3 := h2.take ((n + 1) * 2)
      rw [Array.toList_append, List.take_append, hti, show (n + 1) * 2 - i * 2 = (n + 1 - i) * 2 by omega, List.take_of_length_le (by show (cellsT (raw.take i)).length ≤ _; omega)] at h3
      exact h3
    obtain ⟨Z2, hZ2⟩ : ∃ Z2, Z2 = Z.toList.take ((n + 1 - i) * 2) := ⟨_, rfl⟩
    have hZ2l : Z2.length = (n + 1 - i) * 2 := by rw [hZ2, List.length_take, Array.length_toList]; omega
    rw [← hZ2] at hR1
    have hxl : (cellsT [x]).length = 2 := rfl
    have hv1 := hv.below hb1
    have hcA : ∀ ty dc, (Builtin.copy_ #[26, 26] ty #[.slice (some ⟨w.heap.size, i * 2, none⟩) (n + 1 - i) dc, .slice (some ⟨vb, 0, none⟩) 1 1]).run Tryz.prog W1 = .ok (goInt 1) (W1.setCells w.heap.size (i * 2) (cellsT [x])) := fun ty dc => by
      have := run_copy_two (P := Tryz.prog) W1 26 26 ty 65 w.heap.size (i * 2) (n + 1 - i) dc ⟨vb, 0, none⟩ 1 1 (cellsT [x]) under_tablets (by rw [hi0]; exact congrArg some hz1) (by rw [hxl, show Nat.min 1 (n + 1 - i) = 1 from Nat.min_eq_left (by omega)])
        (fun j v hj => by rw [add_zero_addr]; exact hv1.get j v hj) (fun j hj => by rw [hR1.cell (i * 2 + j) (by rw [List.length_append]; omega)]; rfl) (fun j hj => hR1.free (i * 2 + j) (by rw [List.length_append]; omega))
        (cellsT_one fun j hj => by simp at hj; subst hj; exact hx1)
      rw [show Nat.min 1 (n + 1 - i) = 1 from Nat.min_eq_left (by omega)] at this
      exact this
    obtain ⟨W2, hW2⟩ : ∃ W2, W2 = W1.setCells w.heap.size (i * 2) (cellsT [x]) := ⟨_, rfl⟩
    rw [← hW2] at hcA
    have hb2 : Below w.heap.size w W2 := by rw [hW2]; exact below_setCells (Nat.le_refl _) _ _ _ hb1
    have hR2 : RowAt W2 w.heap.size (cellsT (raw.take i) ++ cellsT [x] ++ Z2.drop 2) := by
      have h2 := hR1.lay (i * 2) (cellsT [x]) (by rw [List.length_append]; omega)
      rw [← hW2, List.take_append, hti, Nat.sub_self, List.take_zero, List.append_nil, List.take_of_length_le (by omega), List.drop_append, hti, hxl, List.drop_of_length_le (by omega), List.nil_append, show i * 2 + 2 - i * 2 = 2 by omega] at h2
      exact h2
    have hdl : (cellsT (raw.drop i)).length = (n - i) * 2 := by rw [cellsT_length, List.length_drop, hlen]
    have hrow2 := hrow.below hb2
    have hmin : Nat.min (n - i) (n + 1 - (i + 1)) = n - i := by rw [show n + 1 - (i + 1) = n - i by omega]; exact Nat.min_self _
    have hcB : ∀ ty dc sc, (Builtin.copy_ #[26, 26] ty #[.slice (some ⟨w.heap.size, (i + 1) * 2, none⟩) (n + 1 - (i + 1)) dc, .slice (some ⟨tb, i * 2, none⟩) (n - i) sc]).run Tryz.prog W2.drew = .ok (goInt ((n - i : Nat) : Int)) (W2.drew.setCells w.heap.size ((i + 1) * 2) (cellsT (raw.drop i))) := fun ty dc sc => by
      have := run_copy_two (P := Tryz.prog) W2.drew 26 26 ty 65 w.heap.size ((i + 1) * 2) (n + 1 - (i + 1)) dc ⟨tb, i * 2, none⟩ (n - i) sc (cellsT (raw.drop i)) under_tablets (by rw [hi0]; exact congrArg some hz1) (by rw [hdl, hmin])
        (fun j v hj => by
          rw [show (⟨tb, i * 2, none⟩ : Addr).add j = ⟨tb, i * 2 + j, none⟩ by unfold Addr.add; split <;> simp_all]
          rw [← cellsT_drop, List.getElem?_drop] at hj
          exact hrow2.get _ v hj) (fun j hj => by show (W2.cell? _).isSome = true; rw [hR2.cell ((i + 1) * 2 + j) (by simp only [List.length_append, List.length_drop]; omega)]; rfl) (fun j hj => hR2.free ((i + 1) * 2 + j) (by simp only [List.length_append, List.length_drop]; omega))
        (cellsT_one fun j hj => by rw [List.getElem_drop]; exact h1 _ _)
      rw [hmin] at this
      exact this
    obtain ⟨W3, hW3⟩ : ∃ W3, W3 = W2.drew.setCells w.heap.size ((i + 1) * 2) (cellsT (raw.drop i)) := ⟨_, rfl⟩
    rw [← hW3] at hcB
    have HB := Lib.hid (show Below w.heap.size w W3 by rw [hW3]; exact below_setCells (Nat.le_refl _) _ _ _ hb2.drew)
    have HR := Lib.hid (show RowAt W3 w.heap.size (cellsT (raw.take i ++ x :: raw.drop i)) by
      have h2 := hR2.drew.lay ((i + 1) * 2) (cellsT (raw.drop i)) (by simp only [List.length_append, List.length_drop]; omega)
      have hl2 : (cellsT (raw.take i) ++ cellsT [x]).length = (i + 1) * 2 := by rw [List.length_append]; omega
      have e1 : (cellsT (raw.take i) ++ cellsT [x] ++ Z2.drop 2).take ((i + 1) * 2) = cellsT (raw.take i) ++ cellsT [x] := by rw [← hl2]; exact List.take_left
      have e2 : (cellsT (raw.take i) ++ cellsT [x] ++ Z2.drop 2).drop ((i + 1) * 2 + (cellsT (raw.drop i)).length) = [] := List.drop_of_length_le (by simp only [List.length_append, List.length_drop]; omega)
      rw [← hW3, e1, e2, List.append_nil] at h2
      rw [show raw.take i ++ x :: raw.drop i = raw.take i ++ [x] ++ raw.drop i by simp, cellsT_append, cellsT_append]
      exact h2)
    have mixed : Tryz.prog.follows .mixedOrders = true := by kernel_rfl
    have Hrz := Lib.hid hrz2
    have HA := Lib.hid hcA
    have HBB := Lib.hid hcB
    have hGi : ¬ (G = i) := by omega
    have hGi1 : ¬ (G = i + 1) := by omega
    have hni : ¬ (n = i) := by omega
    have hnI : ¬ ((i : Int) = (n : Int)) := by omega
    have hw1 : IntKind.i64.wrap ((i : Int) + 1) = (i : Int) + 1 := by rw [IntKind.wrap_i64]; omega
    have hbd1 : (0 : Int) ≤ (i : Int) + 1 := by omega
    have htn : ((i : Int) + 1).toNat = i + 1 := by omega
    have hb3 : (i : Int) ≤ (n : Int) := by omega
    have hg63 : G ≤ 9223372036854775807 := by unfold maxLen at hle; omega
    clear hrz hge hle hG hZ hZl hW1 hrz2 hb1 hti hR1 hZ2 hZ2l hxl hv1 hcA hW2 hb2 hR2 hdl hrow2 hmin hcB hW3 hrow hv hi0 hz0 hz1 hz2 h1 hx1 hcl hin
    go_enter Tryz.func73, Tryz.ntmps73
    go_wp2_with (first
      | (at_builtin; refine Lib.wpList_append_run _ rfl _ _ _ _ rfl _ _ rfl rfl _ _ (Hrz.out _) ?_)
      | (refine wpList_copy_two _ rfl _ _ 26 26 rfl _ _ rfl rfl (HA.out _ _) ?_))
    go_region_law_o (refine step_copy_runI rfl _ _ 26 26 rfl (.slice (some ⟨w.heap.size, (i + 1) * 2, none⟩) (n + 1 - (i + 1)) (G - (i + 1))) (.slice (some ⟨tb, i * 2, none⟩) (n - i) (n - i)) (by simp [Act.eval, Act.put]) (by simp [Act.eval, Act.put]) (HBB.out 3 (G - (i + 1)) (n - i)) ?_)
    go_wp2
    go_ret
    exact ⟨_, _, Nat.le_refl _, rfl, HR.out, HB.out⟩
set_option maxHeartbeats 4000000 in
theorem deleteT_any (tb n i : Nat) (raw : List (ByteArray × Value)) (w : World) (hrow : RowAt w tb (cellsT raw)) (hlen : raw.length = n) (hi : i + 1 ≤ n) (hn : n ≤ 1000)
    (h1 : ∀ (j : Nat) (hj : j < raw.length), raw[j].2.oneCell' = true) :
    Calls Tryz.prog 75 #[.slice (some ⟨tb, 0, none⟩) n n, .int .i64 i, .int .i64 ((i : Int) + 1)] w fun e w' =>
      e = .returned (.slice (some ⟨tb, 0, none⟩) (n - 1) n) ∧ RowAt w' tb (cellsT (raw.take i ++ raw.drop (i + 1))) ∧ Chg (fun g => g = tb) w w' := by
  obtain ⟨i0, hi0, hz0, hz1, hz2⟩ := info_parts Tryz.info_tablet
  have hcl := cellsT_length raw
  have hdl : (cellsT (raw.drop (i + 1))).length = (n - (i + 1)) * 2 := by rw [cellsT_length, List.length_drop, hlen]
  obtain ⟨A, hA, hsrc⟩ : ∃ A : Addr, (if n = i + 1 then some (⟨tb, 0, none⟩ : Addr) else some ⟨tb, (i + 1) * 2, none⟩) = some A ∧ Hid (∀ t u, (cellsT (raw.drop (i + 1)))[t]? = some u → w.drew.cell? (A.add t) = some u) := by
    by_cases h : n = i + 1
    · refine ⟨⟨tb, 0, none⟩, by simp [h], Lib.hid fun t u hu => ?_⟩
      have h0 : (cellsT (raw.drop (i + 1))).length = 0 := by rw [hdl]; omega
      rw [List.length_eq_zero_iff.1 h0] at hu
      simp at hu
    · refine ⟨⟨tb, (i + 1) * 2, none⟩, by simp [h], Lib.hid fun t u hu => ?_⟩
      rw [show (⟨tb, (i + 1) * 2, none⟩ : Addr).add t = ⟨tb, (i + 1) * 2 + t, none⟩ by unfold Addr.add; split <;> simp_all]
      rw [← cellsT_drop, List.getElem?_drop] at hu
      exact hrow.get _ u hu
  have s1 := Lib.hid (show (cellsT (raw.drop (i + 1))).length = (n - (i + 1)) * 2 from hdl)
  have s2 := Lib.hid (show ∀ u ∈ cellsT (raw.drop (i + 1)), u.oneCell' = true from cellsT_one fun j hj => by rw [List.getElem_drop]; exact h1 _ _)
  have s3 := Lib.hid (show ∀ t, t < (cellsT (raw.drop (i + 1))).length → (w.drew.cell? ⟨tb, 0 + i * 2 + t, none⟩).isSome = true ∧ w.drew.frozen? ⟨tb, 0 + i * 2 + t, none⟩ = false from fun t ht => by
    rw [hdl] at ht
    rw [Nat.zero_add]
    exact ⟨by show (w.cell? _).isSome = true; rw [hrow.cell (i * 2 + t) (by omega)]; rfl, hrow.free (i * 2 + t) (by omega)⟩)
  obtain ⟨W1, hW1⟩ : ∃ W1, W1 = w.drew.setCells tb (0 + i * 2) (cellsT (raw.drop (i + 1))) := ⟨_, rfl⟩
  have hR1 : RowAt W1 tb ((cellsT raw).take (i * 2) ++ cellsT (raw.drop (i + 1)) ++ (cellsT raw).drop ((n - 1) * 2)) := by
    have h2 := hrow.drew.lay (i * 2) (cellsT (raw.drop (i + 1))) (by omega)
    rw [hdl, show i * 2 + (n - (i + 1)) * 2 = (n - 1) * 2 by omega] at h2
    rw [hW1, Nat.zero_add]; exact h2
  have hl1 : ((cellsT raw).take (i * 2) ++ cellsT (raw.drop (i + 1))).length = (n - 1) * 2 := by rw [List.length_append, List.length_take]; omega
  have hl2 : ((cellsT raw).drop ((n - 1) * 2)).length = 2 := by rw [List.length_drop]; omega
  have hclr : ∀ ty c, (Builtin.clear_ #[26] ty #[.slice (some ⟨tb, (n - 1) * 2, none⟩) (n - (n - 1)) c]).run Tryz.prog W1 = .ok (.tuple #[]) (W1.setCells tb ((n - 1) * 2) [.string ⟨#[]⟩, .slice none 0 0]) := fun ty c => by
    have hst := run_storeCells_cells (P := Tryz.prog) tb ((n - 1) * 2) [.string ⟨#[]⟩, .slice none 0 0] 0 W1 (fun j hj => by rw [Nat.add_zero, hR1.cell ((n - 1) * 2 + j) (by rw [List.length_append, hl1, hl2]; simp at hj; omega)]; rfl)
      (fun j hj => by rw [Nat.add_zero]; exact hR1.free ((n - 1) * 2 + j) (by rw [List.length_append, hl1, hl2]; simp at hj; omega)) (by intro v hv; simp at hv; rcases hv with rfl | rfl <;> rfl)
    rw [Nat.add_zero] at hst
    rw [show n - (n - 1) = 1 by omega]
    have hzc : (Builtin.zeroCells (Value.agg #[.string ⟨#[]⟩, .slice none 0 0]).cells 1).toList = [.string ⟨#[]⟩, .slice none 0 0] := by kernel_rfl
    simp [Builtin.clear_, run_underlying under_tablets, zeroValue, typeInfo, hi0, hz0, hzc, hst]
  obtain ⟨W2, hW2⟩ : ∃ W2, W2 = W1.setCells tb ((n - 1) * 2) [.string ⟨#[]⟩, .slice none 0 0] := ⟨_, rfl⟩
  rw [← hW2] at hclr
  have HR := Lib.hid (show RowAt W2 tb (cellsT (raw.take i ++ raw.drop (i + 1))) by
    have h2 := (hR1.lay ((n - 1) * 2) [.string ⟨#[]⟩, .slice none 0 0] (by rw [List.length_append, hl1, hl2]; simp)).take ((n - 1) * 2)
    have e1 : ((cellsT raw).take (i * 2) ++ cellsT (raw.drop (i + 1)) ++ (cellsT raw).drop ((n - 1) * 2)).take ((n - 1) * 2) = (cellsT raw).take (i * 2) ++ cellsT (raw.drop (i + 1)) := by rw [← hl1]; exact List.take_left
    rw [e1, List.append_assoc, List.take_append, hl1, Nat.sub_self, List.take_zero, List.append_nil, List.take_of_length_le (Nat.le_of_eq hl1), cellsT_take, ← cellsT_append, ← hW2] at h2
    exact h2)
  have HC := Lib.hid (show Chg (fun g => g = tb) w W2 by
    rw [hW2]
    refine chg_setCells (S := fun g => g = tb) rfl _ _ _ ?_
    rw [hW1]
    exact chg_setCells (S := fun g => g = tb) rfl _ _ _ (Chg.refl _ _).drew)
  have hW := Lib.hid hW1
  have mixed : Tryz.prog.follows .mixedOrders = true := by kernel_rfl
  have hin : (n : Int) - 1 = ((n - 1 : Nat) : Int) := by omega
  have hne : ¬ ((i : Int) = (i : Int) + 1) := by omega
  have hin1 : i + (n - (i + 1)) = n - 1 := by omega
  have hni : ¬ (n = n - 1) := by omega
  have hw1 : IntKind.i64.wrap ((i : Int) + 1) = (i : Int) + 1 := by rw [IntKind.wrap_i64]; omega
  have htn : ((i : Int) + 1).toNat = i + 1 := by omega
  have hbd1 : (0 : Int) ≤ (i : Int) + 1 := by omega
  have hb3 : (i : Int) + 1 ≤ (n : Int) := by omega
  have hic : i ≤ n := by omega
  have U := under_tablets
  have HI := Lib.hid hi0
  have HZ1 := Lib.hid hz1
  clear hW1 hW2 hR1 hl1 hl2 hrow hdl hcl hi0 hz0 hz1 hz2 h1
  go_enter Tryz.func75, Tryz.ntmps75
  go_wp2_with fail
  go_region_law_o (refine step_append_room rfl (.tmp 22) (.tmp 25) 26 rfl 65 i0 2 U HI.out HZ1.out tb 0 i n (by simp [Act.eval, Act.put]) A (n - (i + 1)) (n - (i + 1)) (cellsT (raw.drop (i + 1))) (by simp [Act.eval, Act.put]) s1.out hsrc.out s2.out (by omega) s3.out ?_; rw [← hW.out])
  go_wp2
  go_ret
  exact ⟨rfl, HR.out, HC.out⟩
end Go.Proofs.YtcijhhnbhnaiaaaGreat
