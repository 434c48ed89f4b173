/- A batch as bytes, by the document: walked. -/
import Derived.Test.YtcijhhnbhnaiaaaGreatDoorJouB
import Derived.Test.YtcijhhnbhnaiaaaGreatDoorVarRef
namespace Go.Proofs.YtcijhhnbhnaiaaaGreatDoor
set_option linter.unusedSimpArgs false
set_option linter.unusedVariables false
set_option maxRecDepth 100000
open Go.RowKit

theorem refCellMay (c : Jou.Cell) (w : World) : Calls Tryz.prog 74 #[celV c] w fun e w' => e = .returned (.bool (decide (Jou.May c))) ∧ Below w.heap.size w w' := by
  obtain ⟨w1, hw1⟩ : ∃ w1, w1 = w.alloc (.cells #[.string c.key, .int .i64 c.seq, .string c.val] 81 (0, 0)) := ⟨_, rfl⟩
  have hb1 : Below w.heap.size w w1 := by rw [hw1]; exact (Below.refl _ _).alloc (Nat.le_refl _) _
  have hk1 : Blk w1 w.heap.size 81 #[.string c.key, .int .i64 c.seq, .string c.val] := by rw [hw1]; exact Blk.alloc_new w _ _
  obtain ⟨c0, c1, c2, _⟩ := cblk hk1
  rw [hw1] at c0 c1 c2
  obtain ⟨key, seq, val⟩ := c
  obtain ⟨r, hr⟩ : ∃ r, r = decide (Jou.May ⟨key, seq, val⟩) := ⟨_, rfl⟩
  rw [← hr]
  have HR := Lib.hid hr
  have HB := Lib.hid (show Below w.heap.size w (w.alloc (.cells #[.string key, .int .i64 seq, .string val] 81 (0, 0))) by rw [← hw1]; exact hb1)
  unfold celV
  clear hw1 hb1 hk1 hr
  simp only at c0 c1 c2 ⊢
  by_cases h0 : 1 ≤ key.size
  all_goals by_cases h1 : key.size ≤ 64
  all_goals by_cases h2 : 0 ≤ seq
  all_goals by_cases h3 : val.size ≤ 128
  all_goals
    first | (have g0 : (1 : Int) ≤ key.size := by omega) | (have g0 : ¬ (1 : Int) ≤ key.size := by omega)
    first | (have g4 : 0 < key.size := by omega) | (have g4 : ¬ 0 < key.size := by omega)
    first | (have g5 : (0 : Int) < key.size := by omega) | (have g5 : ¬ (0 : Int) < key.size := by omega)
    first | (have g1 : (key.size : Int) ≤ 64 := by omega) | (have g1 : ¬ (key.size : Int) ≤ 64 := by omega)
    first | (have g3 : (val.size : Int) ≤ 128 := by omega) | (have g3 : ¬ (val.size : Int) ≤ 128 := by omega)
    first
      | (have hr2 : r = true := HR.out.trans (decide_eq_true (show Jou.May ⟨key, seq, val⟩ from ⟨by show key.size ≠ 0; omega, h1, h2, h3⟩)))
      | (have hr2 : r = false := HR.out.trans (decide_eq_false (show ¬ Jou.May ⟨key, seq, val⟩ from fun h => by first | exact h1 h.2.1 | exact h2 h.2.2.1 | exact h3 h.2.2.2 | exact h0 (by have h4 : key.size ≠ 0 := h.1; omega))))
    subst hr2
    clear h1 h3
    go_enter Tryz.func74, Tryz.ntmps74
    go_wp2_with fail
    all_goals first | (go_ret; exact ⟨rfl, HB.out⟩) | (exfalso; omega)
theorem refCheck_c (c : Jou.Cell) (w : World) : Calls Tryz.prog 49 #[celV c] w fun e w' => e = .returned (.int .i64 (if Jou.May c then 0 else 2)) ∧ Below w.heap.size w w' := by
  obtain ⟨w1, hw1⟩ : ∃ w1, w1 = w.alloc (.cells #[.string c.key, .int .i64 c.seq, .string c.val] 81 (0, 0)) := ⟨_, rfl⟩
  have hb1 : Below w.heap.size w w1 := by rw [hw1]; exact (Below.refl _ _).alloc (Nat.le_refl _) _
  have hk1 : Blk w1 w.heap.size 81 #[.string c.key, .int .i64 c.seq, .string c.val] := by rw [hw1]; exact Blk.alloc_new w _ _
  obtain ⟨c0, c1, c2, _⟩ := cblk hk1
  rw [hw1] at c0 c1 c2
  have HM := Lib.hid (refCellMay c w1)
  unfold celV at HM ⊢
  have HB := Lib.hid hb1
  have HW1 := Lib.hid hw1
  clear hw1 hb1 hk1
  by_cases hm : Jou.May c
  all_goals
    first | (rw [decide_eq_true hm] at HM; rw [if_pos hm]) | (rw [decide_eq_false hm] at HM; rw [if_neg hm])
    clear hm
    go_enter Tryz.func49, Tryz.ntmps49
    go_wp2_with fail
    rw [← HW1.out]
    refine HM.out.mono ?_
    rintro e w2 ⟨rfl, hb⟩
    have HB2 := Lib.hid (HB.out.trans (hb.mono HB.out.size))
    clear hb c0 c1 c2
    go_wp2_with fail
    go_ret
    exact ⟨rfl, HB2.out⟩
theorem refPutP (n : Int) (w : World) (h0 : 0 ≤ n) (h : n < 9223372036854775808) :
    Calls Tryz.prog 51 #[.int .i64 n] w fun e w' => e = .returned (.string (pnB n)) ∧ Below w.heap.size w w' := by
  have e : Ed.pn n = Var.putI n := by unfold Ed.pn; rw [Int.max_eq_left h0]
  unfold pnB
  rw [e]
  exact refPut_any n w ⟨by omega, by omega⟩
theorem refPutText (t : ByteArray) (w : World) (ht : t.size ≤ 1000000) :
    Calls Tryz.prog 50 #[.string t] w fun e w' => e = .returned (.string (encTB t)) ∧ Below w.heap.size w w' := by
  have hp := refPutP t.size w (by omega) (by omega)
  have hs := pnB_size (n := t.size) (by omega)
  have he : pnB t.size ++ t = encTB t := by
    unfold pnB encTB Ed.encT
    rw [cat_r, list_len']
  obtain ⟨P, hP⟩ : ∃ P, P = pnB t.size := ⟨_, rfl⟩
  rw [← hP] at hp hs he
  have HP := Lib.hid hp
  have HE := Lib.hid he
  clear hp hP he
  go_enter Tryz.func50, Tryz.ntmps50
  go_wp2_with fail
  refine HP.out.mono ?_
  rintro e w1 ⟨rfl, hb⟩
  go_wp2_with fail
  go_ret
  rw [HE.out]
  exact ⟨rfl, hb⟩
set_option maxHeartbeats 4000000 in
theorem refEncode_c (v : Value) (l : List Jou.Cell) (w : World) (h : RdC w v l) (hl : l.length ≤ 100000) (hs : ∀ c ∈ l, c.seq < 9223372036854775808) :
    Calls Tryz.prog 25 #[v] w fun e w' => e = .returned (.tuple #[.string ⟨(encQ l).1.toArray⟩, .int .i64 (encQ l).2]) ∧ Below w.heap.size w w' := by
  obtain ⟨x, c, rfl, hcap, hx⟩ := h
  have Hx := Lib.hid hx
  have HS := Lib.hid hs
  obtain ⟨n, hn⟩ : ∃ n, n = l.length := ⟨_, rfl⟩
  rw [← hn] at hl ⊢
  have Hn := Lib.hid hn
  clear hx hs hn hcap
  go_enter Tryz.func25, Tryz.ntmps25
  go_wp2_with fail
  go_loopw [4, 5, 6] (fun v4 v5 _ wr => ∃ k : Nat, v5 = .int .i64 k ∧ k ≤ n ∧ Below w.heap.size w wr ∧ v4 = .string ⟨(Jou.enc (l.take k)).toArray⟩ ∧ ∀ (j : Nat) (hj : j < l.length), j < k → Jou.May l[j]) (fun _ v5 _ _ => n - (intOf v5).toNat)
  case atStart => exact ⟨0, rfl, by omega, Below.refl _ _, rfl, fun j _ hj => absurd hj (by omega)⟩
  case round =>
    obtain ⟨k, rfl, hk, hb, rfl, hm⟩ := hrel
    have HB := Lib.hid hb
    have HM := Lib.hid hm
    obtain ⟨A, hA⟩ : ∃ A : ByteArray, A = ⟨(Jou.enc (l.take k)).toArray⟩ := ⟨_, rfl⟩
    rw [← hA]
    have HA := Lib.hid hA
    have hAz : A.size ≤ 300 * k := by
      have := enc_take_size l HS.out k (by have := Hn.out; omega) HM.out
      rw [hA, size_l]; exact this
    clear hb hm hA
    by_cases hlt : k < n
    · have hkl : k < l.length := by rw [← Hn.out]; exact hlt
      have hlt2 : (k : Int) < n := by omega
      obtain ⟨xb, off, rfl, hxb, hcs⟩ := Hx.out k hkl
      obtain ⟨cc, hcc⟩ : ∃ cc, cc = l[k] := ⟨_, rfl⟩
      rw [← hcc] at hcs
      obtain ⟨e0, e1, e2⟩ := hcs
      have g0 := (HB.out.cell (p := ⟨xb, off + k * 3, none⟩) hxb).trans e0
      have g1 := (HB.out.cell (p := ⟨xb, off + k * 3 + 1, none⟩) hxb).trans e1
      have g2 := (HB.out.cell (p := ⟨xb, off + k * 3 + 2, none⟩) hxb).trans e2
      have HTC := Lib.hid (fun (W : World) (hW : Below w.heap.size w W) => show W.cell? ⟨xb, off + k * 3, none⟩ = some (.string cc.key) ∧ W.cell? ⟨xb, off + k * 3 + 1, none⟩ = some (.int .i64 cc.seq) ∧ W.cell? ⟨xb, off + k * 3 + 2, none⟩ = some (.string cc.val) from
        ⟨(hW.cell (p := ⟨xb, off + k * 3, none⟩) hxb).trans e0, (hW.cell (p := ⟨xb, off + k * 3 + 1, none⟩) hxb).trans e1, (hW.cell (p := ⟨xb, off + k * 3 + 2, none⟩) hxb).trans e2⟩)
      have HCC := Lib.hid hcc
      have HCH := Lib.hid (refCheck_c cc wr)
      have hsq : cc.seq < 9223372036854775808 := by rw [hcc]; exact HS.out _ (List.getElem_mem _)
      clear hcc e0 e1 e2
      unfold celV at HCH
      by_cases hmay : Jou.May cc
      case neg =>
        rw [if_neg hmay] at HCH
        have HNO := Lib.hid hmay
        clear hmay
        go_wp2_with fail
        refine HCH.out.mono ?_
        rintro e w3 ⟨rfl, hb3⟩
        have HB3 := Lib.hid (HB.out.trans (hb3.mono HB.out.size))
        clear hb3 g0 g1 g2
        go_wp2_with fail
        go_ret2
        have hq : encQ l = ([], 2) := by
          unfold encQ
          exact if_neg (fun h => HNO.out (by rw [HCC.out]; exact h _ (List.getElem_mem _)))
        rw [hq]
        exact ⟨rfl, HB3.out⟩
      case pos =>
        rw [if_pos hmay] at HCH
        have HY := Lib.hid hmay
        have hk64 := hmay.2.1
        have hv128 := hmay.2.2.2
        have hs0 := hmay.2.2.1
        have z1 := encT_len cc.key (by omega)
        have z2 := pnB_size hsq
        have z3 := encT_len cc.val (by omega)
        have HP1 := Lib.hid (fun W => refPutText cc.key W (by omega))
        have HP2 := Lib.hid (fun W => refPutP cc.seq W hs0 hsq)
        have HP3 := Lib.hid (fun W => refPutText cc.val W (by omega))
        obtain ⟨E1, hE1⟩ : ∃ E, E = encTB cc.key := ⟨_, rfl⟩
        obtain ⟨E2, hE2⟩ : ∃ E, E = pnB cc.seq := ⟨_, rfl⟩
        obtain ⟨E3, hE3⟩ : ∃ E, E = encTB cc.val := ⟨_, rfl⟩
        rw [← hE1] at HP1 z1
        rw [← hE2] at HP2 z2
        rw [← hE3] at HP3 z3
        have hcat : A ++ E1 ++ E2 ++ E3 = ⟨(Jou.enc (l.take (k + 1))).toArray⟩ := by
          have h1 : E1 ++ E2 ++ E3 = ⟨(Jou.encC cc).toArray⟩ := by rw [hE1, hE2, hE3]; exact encC_cat cc
          rw [ByteArray.append_assoc, ByteArray.append_assoc, ← ByteArray.append_assoc (a := E1), h1, HA.out, cat_l, enc_snoc l k hkl, ← HCC.out]
        have HCAT := Lib.hid hcat
        have y1 : (A ++ E1).size = A.size + E1.size := ByteArray.size_append
        have y2 : (A ++ E1 ++ E2).size = A.size + E1.size + E2.size := by rw [ByteArray.size_append, y1]
        have nz1 : ¬ 9223372036854775807 < A.size + E1.size := by omega
        have nz2 : ¬ 9223372036854775807 < (A ++ E1).size + E2.size := by omega
        have nz3 : ¬ 9223372036854775807 < (A ++ E1 ++ E2).size + E3.size := by omega
        have nz4 : ¬ 9223372036854775807 < A.size + E1.size + E2.size := by omega
        have nz5 : ¬ 9223372036854775807 < A.size + E1.size + E2.size + E3.size := by omega
        clear hmay hE1 hE2 hE3 hcat y1 y2
        go_wp2_with fail
        refine HCH.out.mono ?_
        rintro e w3 ⟨rfl, hb3⟩
        have HB3 := Lib.hid (HB.out.trans (hb3.mono HB.out.size))
        clear hb3 g0 g1 g2
        go_wp2_with fail
        refine wp_region_two (T := fun W => W.cell? ⟨xb, off + k * 3, none⟩ = some (.string cc.key) ∧ W.cell? ⟨xb, off + k * 3 + 1, none⟩ = some (.int .i64 cc.seq) ∧ W.cell? ⟨xb, off + k * 3 + 2, none⟩ = some (.string cc.val)) (S := fun _ => True) (n := 99) (by kernel_rfl) ?_
        obtain ⟨y1, hy1⟩ : ∃ y1, y1 = w3.drew := ⟨_, rfl⟩
        rw [← hy1]
        have hby : Below w3.heap.size w3 y1 := by rw [hy1]; exact (Below.refl _ _).drew
        have HY1 := Lib.hid (HB3.out.trans (hby.mono HB3.out.size))
        have hS : True := trivial
        have hT := HTC.out y1 HY1.out
        clear hy1 hby
        refine two_takeT 0 (some 21) (v := ?_) rfl rfl (by kernel_rfl) (by kernel_rfl) (by kernel_rfl) (by decide) (fun _ _ _ h => h) (Or.inl ⟨by rfl, ?hy0⟩) hT hS ?_
        case hy0 => (intro w' hT'; (try unfold T8 at hT'); (try unfold T9 at hT'); (try unfold S8 at hT'); go_simp; (try with_reducible rfl))
        try simp only [Act.put, List.setIfInBounds_toArray, List.set_cons_zero, List.set_cons_succ]
        refine two_takeT 1 (some 22) (v := ?_) rfl rfl (by kernel_rfl) (by kernel_rfl) (by kernel_rfl) (by decide) (fun _ _ _ h => h) (Or.inl ⟨by rfl, ?hy1⟩) hT hS ?_
        case hy1 => (intro w' hT'; (try unfold T8 at hT'); (try unfold T9 at hT'); (try unfold S8 at hT'); go_simp; (try with_reducible rfl))
        try simp only [Act.put, List.setIfInBounds_toArray, List.set_cons_zero, List.set_cons_succ]
        refine two_takeT 2 (some 23) (v := ?_) rfl rfl (by kernel_rfl) (by kernel_rfl) (by kernel_rfl) (by decide) (fun _ _ _ h => h) (Or.inl ⟨by rfl, ?hy2⟩) hT hS ?_
        case hy2 => (intro w' hT'; (try unfold T8 at hT'); (try unfold T9 at hT'); (try unfold S8 at hT'); go_simp; (try with_reducible rfl))
        try simp only [Act.put, List.setIfInBounds_toArray, List.set_cons_zero, List.set_cons_succ]
        refine two_takeT 3 (some 24) (v := ?_) rfl rfl (by kernel_rfl) (by kernel_rfl) (by kernel_rfl) (by decide) (fun _ _ _ h => h) (Or.inl ⟨by rfl, ?hy3⟩) hT hS ?_
        case hy3 => (intro w' hT'; (try unfold T8 at hT'); (try unfold T9 at hT'); (try unfold S8 at hT'); go_simp; (try with_reducible rfl))
        try simp only [Act.put, List.setIfInBounds_toArray, List.set_cons_zero, List.set_cons_succ]
        refine two_takeT 4 (some 25) (v := ?_) rfl rfl (by kernel_rfl) (by kernel_rfl) (by kernel_rfl) (by decide) (fun _ _ _ h => h) (Or.inl ⟨by rfl, ?hy4⟩) hT hS ?_
        case hy4 => (intro w' hT'; (try unfold T8 at hT'); (try unfold T9 at hT'); (try unfold S8 at hT'); go_simp; (try with_reducible rfl))
        try simp only [Act.put, List.setIfInBounds_toArray, List.set_cons_zero, List.set_cons_succ]
        refine two_takeT 5 (some 26) (v := ?_) rfl rfl (by kernel_rfl) (by kernel_rfl) (by kernel_rfl) (by decide) (fun _ _ _ h => h) (Or.inl ⟨by rfl, ?hy5⟩) hT hS ?_
        case hy5 => (intro w' hT'; (try unfold T8 at hT'); (try unfold T9 at hT'); (try unfold S8 at hT'); go_simp; (try with_reducible rfl))
        try simp only [Act.put, List.setIfInBounds_toArray, List.set_cons_zero, List.set_cons_succ]
        refine two_takeT 8 (some 29) (v := ?_) rfl rfl (by kernel_rfl) (by kernel_rfl) (by kernel_rfl) (by decide) (fun _ _ _ h => h) (Or.inl ⟨by rfl, ?hy8⟩) hT hS ?_
        case hy8 => (intro w' hT'; (try unfold T8 at hT'); (try unfold T9 at hT'); (try unfold S8 at hT'); go_simp; (try with_reducible rfl))
        try simp only [Act.put, List.setIfInBounds_toArray, List.set_cons_zero, List.set_cons_succ]
        refine two_takeT 9 (some 30) (v := ?_) rfl rfl (by kernel_rfl) (by kernel_rfl) (by kernel_rfl) (by decide) (fun _ _ _ h => h) (Or.inl ⟨by rfl, ?hy9⟩) hT hS ?_
        case hy9 => (intro w' hT'; (try unfold T8 at hT'); (try unfold T9 at hT'); (try unfold S8 at hT'); go_simp; (try with_reducible rfl))
        try simp only [Act.put, List.setIfInBounds_toArray, List.set_cons_zero, List.set_cons_succ]
        refine two_takeT 10 (some 31) (v := ?_) rfl rfl (by kernel_rfl) (by kernel_rfl) (by kernel_rfl) (by decide) (fun _ _ _ h => h) (Or.inl ⟨by rfl, ?hy10⟩) hT hS ?_
        case hy10 => (intro w' hT'; (try unfold T8 at hT'); (try unfold T9 at hT'); (try unfold S8 at hT'); go_simp; (try with_reducible rfl))
        try simp only [Act.put, List.setIfInBounds_toArray, List.set_cons_zero, List.set_cons_succ]
        refine two_takeT 11 (some 32) (v := ?_) rfl rfl (by kernel_rfl) (by kernel_rfl) (by kernel_rfl) (by decide) (fun _ _ _ h => h) (Or.inl ⟨by rfl, ?hy11⟩) hT hS ?_
        case hy11 => (intro w' hT'; (try unfold T8 at hT'); (try unfold T9 at hT'); (try unfold S8 at hT'); go_simp; (try with_reducible rfl))
        try simp only [Act.put, List.setIfInBounds_toArray, List.set_cons_zero, List.set_cons_succ]
        refine two_takeT 12 (some 33) (v := ?_) rfl rfl (by kernel_rfl) (by kernel_rfl) (by kernel_rfl) (by decide) (fun _ _ _ h => h) (Or.inl ⟨by rfl, ?hy12⟩) hT hS ?_
        case hy12 => (intro w' hT'; (try unfold T8 at hT'); (try unfold T9 at hT'); (try unfold S8 at hT'); go_simp; (try with_reducible rfl))
        try simp only [Act.put, List.setIfInBounds_toArray, List.set_cons_zero, List.set_cons_succ]
        refine two_takeT 15 (some 36) (v := ?_) rfl rfl (by kernel_rfl) (by kernel_rfl) (by kernel_rfl) (by decide) (fun _ _ _ h => h) (Or.inl ⟨by rfl, ?hy15⟩) hT hS ?_
        case hy15 => (intro w' hT'; (try unfold T8 at hT'); (try unfold T9 at hT'); (try unfold S8 at hT'); go_simp; (try with_reducible rfl))
        try simp only [Act.put, List.setIfInBounds_toArray, List.set_cons_zero, List.set_cons_succ]
        refine two_takeT 16 (some 37) (v := ?_) rfl rfl (by kernel_rfl) (by kernel_rfl) (by kernel_rfl) (by decide) (fun _ _ _ h => h) (Or.inl ⟨by rfl, ?hy16⟩) hT hS ?_
        case hy16 => (intro w' hT'; (try unfold T8 at hT'); (try unfold T9 at hT'); (try unfold S8 at hT'); go_simp; (try with_reducible rfl))
        try simp only [Act.put, List.setIfInBounds_toArray, List.set_cons_zero, List.set_cons_succ]
        refine two_takeT 17 (some 38) (v := ?_) rfl rfl (by kernel_rfl) (by kernel_rfl) (by kernel_rfl) (by decide) (fun _ _ _ h => h) (Or.inl ⟨by rfl, ?hy17⟩) hT hS ?_
        case hy17 => (intro w' hT'; (try unfold T8 at hT'); (try unfold T9 at hT'); (try unfold S8 at hT'); go_simp; (try with_reducible rfl))
        try simp only [Act.put, List.setIfInBounds_toArray, List.set_cons_zero, List.set_cons_succ]
        refine two_takeT 18 (some 39) (v := ?_) rfl rfl (by kernel_rfl) (by kernel_rfl) (by kernel_rfl) (by decide) (fun _ _ _ h => h) (Or.inl ⟨by rfl, ?hy18⟩) hT hS ?_
        case hy18 => (intro w' hT'; (try unfold T8 at hT'); (try unfold T9 at hT'); (try unfold S8 at hT'); go_simp; (try with_reducible rfl))
        try simp only [Act.put, List.setIfInBounds_toArray, List.set_cons_zero, List.set_cons_succ]
        refine two_takeT 19 (some 40) (v := ?_) rfl rfl (by kernel_rfl) (by kernel_rfl) (by kernel_rfl) (by decide) (fun _ _ _ h => h) (Or.inl ⟨by rfl, ?hy19⟩) hT hS ?_
        case hy19 => (intro w' hT'; (try unfold T8 at hT'); (try unfold T9 at hT'); (try unfold S8 at hT'); go_simp; (try with_reducible rfl))
        try simp only [Act.put, List.setIfInBounds_toArray, List.set_cons_zero, List.set_cons_succ]
        refine two_one 6 rfl (by kernel_rfl) ?_
        intro K hK
        go_simp
        refine (HP1.out y1).mono ?_
        rintro e y2 ⟨rfl, hbz⟩
        have HBy2 := Lib.hid (Below.trans HY1.out (hbz.mono HY1.out.size))
        have hT1 := HTC.out y2 HBy2.out
        refine hK.out _ _ hT1 (fun _ _ => hS) ?_
        clear hK K hT hbz
        have hT := hT1
        clear hT1
        try simp only [Act.put, List.setIfInBounds_toArray, List.set_cons_zero, List.set_cons_succ]
        refine two_takeT 7 (some 28) (v := ?_) rfl rfl (by kernel_rfl) (by kernel_rfl) (by kernel_rfl) (by decide) (fun _ _ _ h => h) (Or.inl ⟨by rfl, ?hy7⟩) hT hS ?_
        case hy7 => (intro w' hT'; (try unfold T8 at hT'); (try unfold T9 at hT'); (try unfold S8 at hT'); go_simp; (try with_reducible rfl))
        try simp only [Act.put, List.setIfInBounds_toArray, List.set_cons_zero, List.set_cons_succ]
        refine two_one 13 rfl (by kernel_rfl) ?_
        intro K hK
        go_simp
        refine (HP2.out y2).mono ?_
        rintro e y3 ⟨rfl, hbz⟩
        have HBy3 := Lib.hid (Below.trans HBy2.out (hbz.mono HBy2.out.size))
        have hT1 := HTC.out y3 HBy3.out
        refine hK.out _ _ hT1 (fun _ _ => hS) ?_
        clear hK K hT hbz
        have hT := hT1
        clear hT1
        try simp only [Act.put, List.setIfInBounds_toArray, List.set_cons_zero, List.set_cons_succ]
        refine two_takeT 14 (some 35) (v := ?_) rfl rfl (by kernel_rfl) (by kernel_rfl) (by kernel_rfl) (by decide) (fun _ _ _ h => h) (Or.inl ⟨by rfl, ?hy14⟩) hT hS ?_
        case hy14 => (intro w' hT'; (try unfold T8 at hT'); (try unfold T9 at hT'); (try unfold S8 at hT'); go_simp; (try with_reducible rfl))
        try simp only [Act.put, List.setIfInBounds_toArray, List.set_cons_zero, List.set_cons_succ]
        refine two_one 20 rfl (by kernel_rfl) ?_
        intro K hK
        go_simp
        refine (HP3.out y3).mono ?_
        rintro e y4 ⟨rfl, hbz⟩
        have HBy4 := Lib.hid (Below.trans HBy3.out (hbz.mono HBy3.out.size))
        have hT1 := HTC.out y4 HBy4.out
        refine hK.out _ _ hT1 (fun _ _ => hS) ?_
        clear hK K hT hbz
        have hT := hT1
        clear hT1
        try simp only [Act.put, List.setIfInBounds_toArray, List.set_cons_zero, List.set_cons_succ]
        refine two_takeT 21 (some 42) (v := ?_) rfl rfl (by kernel_rfl) (by kernel_rfl) (by kernel_rfl) (by decide) (fun _ _ _ h => h) (Or.inl ⟨by rfl, ?hy21⟩) hT hS ?_
        case hy21 => (intro w' hT'; (try unfold T8 at hT'); (try unfold T9 at hT'); (try unfold S8 at hT'); go_simp; (try with_reducible rfl))
        try simp only [Act.put, List.setIfInBounds_toArray, List.set_cons_zero, List.set_cons_succ]
        refine two_takeT 22 (some 4) (v := ?_) rfl rfl (by kernel_rfl) (by kernel_rfl) (by kernel_rfl) (by decide) (fun _ _ _ h => h) (Or.inl ⟨by rfl, ?hy22⟩) hT hS ?_
        case hy22 => (intro w' hT'; (try unfold T8 at hT'); (try unfold T9 at hT'); (try unfold S8 at hT'); go_simp; (try with_reducible rfl))
        try simp only [Act.put, List.setIfInBounds_toArray, List.set_cons_zero, List.set_cons_succ]
        refine two_done (by kernel_rfl) ?_ _
        clear hT hS
        go_wp2_with fail
        go_roundw
        case rel => exact ⟨k + 1, by go_num, by omega, HBy4.out, by rw [← HCAT.out], fun j hj hjk => (by
          by_cases e : j < k
          · exact HM.out j hj e
          · obtain rfl : j = k := by omega
            rw [← HCC.out]; exact HY.out)⟩
        case measure => simp [intOf]; omega
    · have hge : ¬ (k : Int) < n := by omega
      have hkn : k = l.length := by rw [← Hn.out]; omega
      have hq : encQ l = (Jou.enc (l.take k), 0) := by
        unfold encQ
        rw [hkn, List.take_length]
        exact if_pos (fun c hc => by
          obtain ⟨j, hj, rfl⟩ := List.mem_iff_getElem.1 hc
          exact HM.out j hj (by omega))
      have HQ := Lib.hid hq
      clear hkn hq
      go_wp2_with fail
      go_ret2
      rw [HQ.out, HA.out]
      exact ⟨rfl, HB.out⟩
end Go.Proofs.YtcijhhnbhnaiaaaGreatDoor
