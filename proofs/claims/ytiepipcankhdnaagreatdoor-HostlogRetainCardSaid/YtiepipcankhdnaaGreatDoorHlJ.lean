/- A host's log: how many records of a segment are sure: walked. -/
import Derived.Test.YtiepipcankhdnaaGreatDoorHlI
namespace Go.Proofs.YtiepipcankhdnaaGreatDoor
set_option linter.unusedSimpArgs false
set_option linter.unusedVariables false
set_option maxRecDepth 100000
open Go.RowKit Go.Maps
open Dsk

theorem count_rise (x : Int) : ∀ (l : List Int), l.Pairwise (· < ·) → l.countP (fun e => decide (e ≤ x)) = l.countP (fun e => decide (e < x)) + (if l.contains x then 1 else 0)
  | [], _ => by simp
  | a :: l, h => by
    obtain ⟨h1, h2⟩ := List.pairwise_cons.1 h
    have ih := count_rise x l h2
    rw [List.countP_cons, List.countP_cons, ih, List.contains_cons]
    by_cases e : x = a
    · subst e
      have hz : l.contains x = false := by
        rw [List.contains_eq_mem]
        exact decide_eq_false fun hm => by have := h1 x hm; omega
      rw [hz]
      simp
    · have e1 : (x == a) = false := beq_eq_false_iff_ne.2 e
      rw [e1, Bool.false_or]
      by_cases hlt : a < x
      · have p1 : decide (a ≤ x) = true := decide_eq_true (by omega)
        have p2 : decide (a < x) = true := decide_eq_true hlt
        rw [p1, p2]
        simp only [if_true]
        omega
      · have p1 : decide (a ≤ x) = false := decide_eq_false (by omega)
        have p2 : decide (a < x) = false := decide_eq_false hlt
        rw [p1, p2]
        simp only [Bool.false_eq_true, if_false]
        omega
theorem sgEnds_rise (l : List Sp.Span) (hm : ∀ x ∈ l, Sp.May x) : (sgEnds l).Pairwise (· < ·) := by
  rw [List.pairwise_iff_getElem]
  intro i k hi hk hik
  rw [sgEnds_get, sgEnds_get]
  rw [sgEnds_length] at hi hk
  have h1 := sg_take_len l k hk
  have h2 := sgT_take_mono l (show i + 1 ≤ k by omega)
  omega
section
variable {w0 w w' : World} {X H S : Nat → Prop} {v lv : Value} {d d' : Dk} {j B : Nat} {h : Hl} {vs : List SegV} {l : List Sg}
theorem search_ends {ev : Value} {zs : List Int} (hev : OwnI w B ev zs) (hr : zs.Pairwise (· < ·)) (hl : zs.length ≤ 1000000) (x : Int) :
    Calls Tryz.prog 103 #[ev, .int .i64 x] w fun e w' => e = .returned (.tuple #[.int .i64 (zs.countP (fun e => decide (e < x)) : Nat), .bool (zs.contains x)]) ∧ Below w.heap.size w w' := by
  obtain ⟨ex, ec, rfl, hel⟩ := hev.each
  by_cases h0 : zs.length = 0
  · obtain rfl := List.length_eq_zero_iff.1 h0
    refine (Tryz.slices_BinarySearch_int_empty ex ec x w).mono ?_
    rintro e w' ⟨rfl, rfl⟩
    exact ⟨rfl, Below.refl _ _⟩
  · obtain ⟨b, hb, _⟩ := hel 0 (by omega)
    subst hb
    have hle : zs.Pairwise (· ≤ ·) := hr.imp fun h => Int.le_of_lt h
    refine (Tryz.slices_BinarySearch_int b 0 zs.length ec zs x w (Nat.le_refl _) (by omega) (fun k hk => ?_) (by rw [List.take_length]; exact hle)).mono ?_
    · obtain ⟨b2, e2, _, _, hc⟩ := hel k hk
      injection e2 with e2
      injection e2 with e2 _ _
      subst e2
      rw [Nat.zero_add, hc]
      simp [List.getD, hk]
    · rintro e w' ⟨rfl, q, rfl⟩
      rw [List.take_length]
      exact ⟨rfl, belowD _ _⟩
set_option maxHeartbeats 4000000 in
theorem hsafe_any (h0 : HS w0 X H w v d j h) (he : LEnv w) {a : Sg} {sx ex : Option Addr} {sc ec : Nat} (hev : OwnI w B (.slice ex a.spans.length ec) (sgEnds a.spans)) (hm : ∀ x ∈ a.spans, Sp.May x) (hn : a.first ≤ 999999999) (hl : a.spans.length ≤ 1000000) :
    Calls Tryz.prog 54 #[.pointer (some ⟨j, 0, none⟩), segVal a.first (.slice sx a.spans.length sc) (.slice ex a.spans.length ec)] w fun e w' => e = .returned (.int .i64 (sureN a.spans (d.synced (ln a.first)))) ∧ Below w.heap.size w w' := by
  obtain ⟨bd, rfl⟩ := h0.ptr
  obtain ⟨lv, vs, hb, _⟩ := h0.mem
  obtain ⟨fn, hfn⟩ : ∃ fn, fn = a.first := ⟨_, rfl⟩
  obtain ⟨sn, hsn⟩ : ∃ sn, sn = a.spans.length := ⟨_, rfl⟩
  obtain ⟨sy, hsy⟩ : ∃ sy, sy = d.synced (ln a.first) := ⟨_, rfl⟩
  rw [← hsy]
  rw [← hfn] at hn hsy ⊢
  rw [← hsn] at hev ⊢
  have hcr := count_rise (sy : Int) (sgEnds a.spans) (sgEnds_rise a.spans hm)
  obtain ⟨cn, hcn⟩ : ∃ cn, cn = (sgEnds a.spans).countP (fun e => decide (e < (sy : Int))) := ⟨_, rfl⟩
  obtain ⟨cb, hcb⟩ : ∃ cb, cb = (sgEnds a.spans).contains (sy : Int) := ⟨_, rfl⟩
  have hle : cn ≤ 1000000 := by
    have := List.countP_le_length (p := fun e : Int => decide (e < (sy : Int))) (l := sgEnds a.spans)
    rw [sgEnds_length] at this
    omega
  have HSE := Lib.hid (fun (W : World) (hW : Below w.heap.size w W) => by
    have := search_ends (hev.kept hW) (sgEnds_rise a.spans hm) (by rw [sgEnds_length]; exact hl) (sy : Int)
    rw [← hcn, ← hcb] at this
    exact this)
  have hres : sureN a.spans sy = cn + (if cb then 1 else 0) := by unfold sureN; rw [hcr, ← hcn, ← hcb]
  obtain ⟨R, hR⟩ : ∃ R, R = sureN a.spans sy := ⟨_, rfl⟩
  rw [← hR] at hres ⊢
  have HRES := Lib.hid hres
  have HNM := Lib.hid (fun (W : World) (hW : Below w.heap.size w W) => segName_any (he.below hW) hn sx ex sn sc sn ec)
  unfold segVal at HNM ⊢
  have HSY := Lib.hid (fun (W : World) (hW : Below w.heap.size w W) => (h0.live.keep hW).synced (lnB fn) (by have := lnB_size hn; unfold maxLen; omega))
  rw [lnB_data, ← hsy] at HSY
  obtain ⟨w1, hw1⟩ : ∃ w1, w1 = w.alloc (.cells #[.int .i64 fn, .slice sx sn sc, .slice ex sn ec] 92 (0, 0)) := ⟨_, rfl⟩
  have hb1 : Below w.heap.size w w1 := by rw [hw1]; exact (Below.refl _ _).alloc (Nat.le_refl _) _
  have hk1 : Blk w1 w.heap.size 92 #[.int .i64 fn, .slice sx sn sc, .slice ex sn ec] := by rw [hw1]; exact Blk.alloc_new w _ _
  obtain ⟨q, hq⟩ : ∃ q, q = w.heap.size := ⟨_, rfl⟩
  have HTC := Lib.hid (fun (W : World) (hW : Below w1.heap.size w1 W) => show W.cell? ⟨q, 0, none⟩ = some (.int .i64 fn) ∧ W.cell? ⟨q, 1, none⟩ = some (.slice sx sn sc) ∧ W.cell? ⟨q, 2, none⟩ = some (.slice ex sn ec) ∧ W.cell? ⟨j, 0, none⟩ = some (.pointer (some ⟨bd, 0, none⟩)) from by
    have hk := hk1.below hW
    rw [← hq] at hk
    have c0 := (hb.below hb1).below hW
    exact ⟨hk.cell 0, hk.cell 1, hk.cell 2, c0.cell 0⟩)
  have HB1 := Lib.hid hb1
  have HW1 := Lib.hid hw1
  have HBW := Lib.hid (fun (W : World) (hW : Below w1.heap.size w1 W) => show Below w.heap.size w W from hb1.trans (hW.mono hb1.size))
  clear h0 he hev hb hfn hsn hsy hcr hcn hcb hres hR hb1 hk1 hw1 hm hl
  go_enter Tryz.func54, Tryz.ntmps54
  go_wp2_with fail
  rw [← HW1.out, ← hq]
  clear hq
  refine wp_region_two (T := fun W => W.cell? ⟨q, 0, none⟩ = some (.int .i64 fn) ∧ W.cell? ⟨q, 1, none⟩ = some (.slice sx sn sc) ∧ W.cell? ⟨q, 2, none⟩ = some (.slice ex sn ec) ∧ W.cell? ⟨j, 0, none⟩ = some (.pointer (some ⟨bd, 0, none⟩))) (S := fun _ => True) (n := 99) (by kernel_rfl) ?_
  obtain ⟨y1, hy1⟩ : ∃ y1, y1 = w1.drew := ⟨_, rfl⟩
  rw [← hy1]
  have hby : Below w1.heap.size w1 y1 := by rw [hy1]; exact (Below.refl _ _).drew
  have HY1 := Lib.hid hby
  have hS : True := trivial
  have hT := HTC.out y1 HY1.out
  clear hy1 hby
  refine two_takeT 0 (some 8) (v := ?_) rfl rfl (by kernel_rfl) (by kernel_rfl) (by kernel_rfl) (by decide) (fun _ _ _ h => h) (Or.inl ⟨by rfl, ?hy0⟩) hT hS ?_
  case hy0 => (intro w' hT'; (try unfold T8 at hT'); (try unfold T9 at hT'); (try unfold S8 at hT'); go_simp; (try with_reducible rfl))
  try simp only [Act.put, List.setIfInBounds_toArray, List.set_cons_zero, List.set_cons_succ]
  refine two_takeT 1 (some 9) (v := ?_) rfl rfl (by kernel_rfl) (by kernel_rfl) (by kernel_rfl) (by decide) (fun _ _ _ h => h) (Or.inl ⟨by rfl, ?hy1⟩) hT hS ?_
  case hy1 => (intro w' hT'; (try unfold T8 at hT'); (try unfold T9 at hT'); (try unfold S8 at hT'); go_simp; (try with_reducible rfl))
  try simp only [Act.put, List.setIfInBounds_toArray, List.set_cons_zero, List.set_cons_succ]
  refine two_takeT 2 (some 10) (v := ?_) rfl rfl (by kernel_rfl) (by kernel_rfl) (by kernel_rfl) (by decide) (fun _ _ _ h => h) (Or.inl ⟨by rfl, ?hy2⟩) hT hS ?_
  case hy2 => (intro w' hT'; (try unfold T8 at hT'); (try unfold T9 at hT'); (try unfold S8 at hT'); go_simp; (try with_reducible rfl))
  try simp only [Act.put, List.setIfInBounds_toArray, List.set_cons_zero, List.set_cons_succ]
  refine two_takeT 3 (some 11) (v := ?_) rfl rfl (by kernel_rfl) (by kernel_rfl) (by kernel_rfl) (by decide) (fun _ _ _ h => h) (Or.inl ⟨by rfl, ?hy3⟩) hT hS ?_
  case hy3 => (intro w' hT'; (try unfold T8 at hT'); (try unfold T9 at hT'); (try unfold S8 at hT'); go_simp; (try with_reducible rfl))
  try simp only [Act.put, List.setIfInBounds_toArray, List.set_cons_zero, List.set_cons_succ]
  refine two_takeT 4 (some 12) (v := ?_) rfl rfl (by kernel_rfl) (by kernel_rfl) (by kernel_rfl) (by decide) (fun _ _ _ h => h) (Or.inl ⟨by rfl, ?hy4⟩) hT hS ?_
  case hy4 => (intro w' hT'; (try unfold T8 at hT'); (try unfold T9 at hT'); (try unfold S8 at hT'); go_simp; (try with_reducible rfl))
  try simp only [Act.put, List.setIfInBounds_toArray, List.set_cons_zero, List.set_cons_succ]
  refine two_takeT 5 (some 13) (v := ?_) rfl rfl (by kernel_rfl) (by kernel_rfl) (by kernel_rfl) (by decide) (fun _ _ _ h => h) (Or.inl ⟨by rfl, ?hy5⟩) hT hS ?_
  case hy5 => (intro w' hT'; (try unfold T8 at hT'); (try unfold T9 at hT'); (try unfold S8 at hT'); go_simp; (try with_reducible rfl))
  try simp only [Act.put, List.setIfInBounds_toArray, List.set_cons_zero, List.set_cons_succ]
  refine two_takeT 6 (some 14) (v := ?_) rfl rfl (by kernel_rfl) (by kernel_rfl) (by kernel_rfl) (by decide) (fun _ _ _ h => h) (Or.inl ⟨by rfl, ?hy6⟩) hT hS ?_
  case hy6 => (intro w' hT'; (try unfold T8 at hT'); (try unfold T9 at hT'); (try unfold S8 at hT'); go_simp; (try with_reducible rfl))
  try simp only [Act.put, List.setIfInBounds_toArray, List.set_cons_zero, List.set_cons_succ]
  refine two_one 7 rfl (by kernel_rfl) ?_
  intro K hK
  go_simp
  refine (HNM.out y1 (HBW.out _ HY1.out)).mono ?_
  rintro e y2 ⟨rfl, hbz⟩
  have HBy2 := Lib.hid (Below.trans HY1.out (hbz.mono HY1.out.size))
  have hT1 := HTC.out y2 HBy2.out
  refine hK.out _ _ hT1 (fun _ _ => hS) ?_
  clear hK K hT hbz
  have hT := hT1
  clear hT1
  try simp only [Act.put, List.setIfInBounds_toArray, List.set_cons_zero, List.set_cons_succ]
  refine two_one 8 rfl (by kernel_rfl) ?_
  intro K hK
  go_simp
  refine (HSY.out y2 (HBW.out _ HBy2.out)).mono ?_
  rintro e y3 ⟨rfl, rfl⟩
  refine hK.out _ _ hT (fun _ _ => hS) ?_
  clear hK K
  try simp only [Act.put, List.setIfInBounds_toArray, List.set_cons_zero, List.set_cons_succ]
  refine two_one 9 rfl (by kernel_rfl) ?_
  intro K hK
  go_simp
  refine (HSE.out y2 (HBW.out _ HBy2.out)).mono ?_
  rintro e y4 ⟨rfl, hbz⟩
  have HBy4 := Lib.hid (Below.trans HBy2.out (hbz.mono HBy2.out.size))
  have hT1 := HTC.out y4 HBy4.out
  refine hK.out _ _ hT1 (fun _ _ => hS) ?_
  clear hK K hT hbz
  have hT := hT1
  clear hT1
  try simp only [Act.put, List.setIfInBounds_toArray, List.set_cons_zero, List.set_cons_succ]
  refine two_takeT 10 (some 7) (v := ?_) rfl rfl (by kernel_rfl) (by kernel_rfl) (by kernel_rfl) (by decide) (fun _ _ _ h => h) (Or.inl ⟨by rfl, ?hy10⟩) hT hS ?_
  case hy10 => (intro w' hT'; (try unfold T8 at hT'); (try unfold T9 at hT'); (try unfold S8 at hT'); go_simp; (try with_reducible rfl))
  try simp only [Act.put, List.setIfInBounds_toArray, List.set_cons_zero, List.set_cons_succ]
  refine two_takeT 11 (some 18) (v := ?_) rfl rfl (by kernel_rfl) (by kernel_rfl) (by kernel_rfl) (by decide) (fun _ _ _ h => h) (Or.inl ⟨by rfl, ?hy11⟩) hT hS ?_
  case hy11 => (intro w' hT'; (try unfold T8 at hT'); (try unfold T9 at hT'); (try unfold S8 at hT'); go_simp; (try with_reducible rfl))
  try simp only [Act.put, List.setIfInBounds_toArray, List.set_cons_zero, List.set_cons_succ]
  refine two_takeT 12 (some 19) (v := ?_) rfl rfl (by kernel_rfl) (by kernel_rfl) (by kernel_rfl) (by decide) (fun _ _ _ h => h) (Or.inl ⟨by rfl, ?hy12⟩) hT hS ?_
  case hy12 => (intro w' hT'; (try unfold T8 at hT'); (try unfold T9 at hT'); (try unfold S8 at hT'); go_simp; (try with_reducible rfl))
  try simp only [Act.put, List.setIfInBounds_toArray, List.set_cons_zero, List.set_cons_succ]
  refine two_takeT 13 (some 5) (v := ?_) rfl rfl (by kernel_rfl) (by kernel_rfl) (by kernel_rfl) (by decide) (fun _ _ _ h => h) (Or.inl ⟨by rfl, ?hy13⟩) hT hS ?_
  case hy13 => (intro w' hT'; (try unfold T8 at hT'); (try unfold T9 at hT'); (try unfold S8 at hT'); go_simp; (try with_reducible rfl))
  try simp only [Act.put, List.setIfInBounds_toArray, List.set_cons_zero, List.set_cons_succ]
  refine two_takeT 14 (some 6) (v := ?_) rfl rfl (by kernel_rfl) (by kernel_rfl) (by kernel_rfl) (by decide) (fun _ _ _ h => h) (Or.inl ⟨by rfl, ?hy14⟩) hT hS ?_
  case hy14 => (intro w' hT'; (try unfold T8 at hT'); (try unfold T9 at hT'); (try unfold S8 at hT'); go_simp; (try with_reducible rfl))
  try simp only [Act.put, List.setIfInBounds_toArray, List.set_cons_zero, List.set_cons_succ]
  refine two_done (by kernel_rfl) ?_ _
  clear hT hS
  cases cb with
  | true =>
    have hr1 : R = cn + 1 := HRES.out
    have hsum : (cn : Int) + 1 = (R : Int) := by omega
    have hw : IntKind.i64.wrap (R : Int) = R := by rw [IntKind.wrap_i64]; omega
    clear hr1
    go_wp2_with fail
    go_ret
    exact ⟨rfl, HBW.out _ HBy4.out⟩
  | false =>
    have hr1 : R = cn := HRES.out
    subst hr1
    go_wp2_with fail
    go_ret
    exact ⟨rfl, HBW.out _ HBy4.out⟩
end
end Go.Proofs.YtiepipcankhdnaaGreatDoor
