/- The document's journal in memory: Begin, Last, Cells, walked. Numbers beyond 99. -/
import Derived.Test.YtcijhhnbhnaiaaaGreatDoorJouX
import Derived.Lib.LaidTab
import Derived.MakeChecks
import Derived.Stop.LaidErr
import Derived.Lib.AppendIntMem
namespace Go.Proofs.YtcijhhnbhnaiaaaGreatDoor
set_option linter.unusedSimpArgs false
set_option linter.unusedVariables false
set_option maxRecDepth 100000
open Go.RowKit Go.Maps
open Dsk

section
variable {w w' : World} {B q : Nat} {num : Int} {u : Value} {vals : List Value} {ls : List (List Jou.Cell)} {S : Nat → Prop}
theorem refBegin_bad (h : RefJ B w q num u vals ls) (nw : Int) (hn : nw ≤ num) :
    Calls Tryz.prog 13 #[.pointer (some ⟨q, 0, none⟩), .int .i64 nw] w fun e w' => e = .returned (.int .i64 2) ∧ w = w' := by
  have c0 := h.blk.cell 0
  simp at c0
  clear h
  go_enter Tryz.func13, Tryz.ntmps13
  go_wp2_with fail
  go_ret
  exact ⟨rfl, rfl⟩
set_option maxHeartbeats 2000000 in
theorem refBegin_ok (h : RefJ B w q num u vals ls) (nw : Int) (hn : num < nw) (hm : nw ≤ 2147483647) (hlen : vals.length ≤ 1000) :
    Calls Tryz.prog 13 #[.pointer (some ⟨q, 0, none⟩), .int .i64 nw] w fun e w' => e = .returned (.int .i64 0) ∧ RefJ B w' q nw (.slice none 0 0) [] [] ∧ Chg (fun k => k = q) w w' := by
  have H := Lib.hid h
  obtain ⟨ux, uc, hu⟩ := h.form
  obtain ⟨un, hun⟩ : ∃ un, un = vals.length := ⟨_, rfl⟩
  rw [← hun] at hu hlen
  subst hu
  have HUN := Lib.hid hun
  have c0 := h.blk.cell 0
  have f0 := h.blk.free 0
  simp at c0
  obtain ⟨w1, hw1⟩ : ∃ w1, w1 = w.setCell ⟨q, 0, none⟩ (.int .i64 nw) := ⟨_, rfl⟩
  have HB1 := Lib.hid (show Blk w1 q 36 #[.int .i64 nw, .slice ux un uc] by rw [hw1]; exact h.blk.set 0 _)
  have HCH := Lib.hid (show Chg (fun k => k = q) w w1 by rw [hw1]; exact put_wr w q 0 _)
  have HW := Lib.hid hw1
  have HG := Lib.hid (show ∀ (i : Nat), i < un → ∃ g c, ux = some ⟨g, 0, none⟩ ∧ w1.cell? ⟨g, i * 2, none⟩ = some (.int .i64 num) from fun i hi => by
    obtain ⟨g, c, x, e1, e2, _⟩ := h.get i (by rw [← hun]; exact hi)
    injection e1 with e1 _ _
    refine ⟨g, c, e1, ?_⟩
    have hg : g < w.heap.size := by
      apply Classical.byContradiction
      intro hge
      simp [World.cell?, Array.getElem?_eq_none (by omega : w.heap.size ≤ g)] at e2
    exact (HCH.out.cell (p := ⟨g, i * 2, none⟩) hg (fun e => h.uq (by rw [e1, ← (show g = q from e)]; rfl))).trans e2)
  have HQB := Lib.hid h.qB
  have hnn : ¬ nw ≤ num := by omega
  have hmm : ¬ (2147483647 : Int) < nw := by omega
  have hge : ¬ nw ≤ num := hnn
  clear h hun hw1
  go_enter Tryz.func13, Tryz.ntmps13
  go_wp2_with fail
  rw [← HW.out]
  have d1 := HB1.out.cell 1
  have g1 := HB1.out.free 1
  simp at d1
  clear c0 f0
  go_wp2_with fail
  go_loop [5, 6] (fun v5 v6 => v5 = .slice none 0 0 ∧ ∃ k : Nat, v6 = .int .i64 k ∧ k ≤ un) (fun _ v6 => un - (intOf v6).toNat)
  case atStart => exact ⟨rfl, 0, rfl, Nat.zero_le _⟩
  case round =>
    obtain ⟨rfl, k, rfl, hk⟩ := hrel
    by_cases hlt : k < un
    · obtain ⟨g, c, rfl, hc⟩ := HG.out k hlt
      go_wp2_with fail
      go_round
      case rel => exact ⟨rfl, k + 1, by go_num, by omega⟩
      case measure => simp [intOf]; omega
    · obtain rfl : k = un := by omega
      go_wp2_with fail
      go_ret
      have hch2 := put_wr w1 q 1 (.slice none 0 0)
      exact ⟨rfl, ⟨HB1.out.set 1 _, World.ownsRow_nil _ _ _ _, rfl, fun i hi => absurd hi (by simp), by simp [Value.ownBlock], fun i hi => absurd hi (by simp), HQB.out⟩, HCH.out.trans hch2⟩
set_option maxHeartbeats 2000000 in
theorem refLast_any (h : RefJ B w q num u vals ls) (hlen : vals.length ≤ 1000) (hnum : 0 ≤ num ∧ num ≤ 2147483647) :
    Calls Tryz.prog 17 #[.pointer (some ⟨q, 0, none⟩), .int .i64 num] w fun e w' => e = .returned (.int .i64 num) ∧ w = w' := by
  obtain ⟨ux, uc, hu⟩ := h.form
  obtain ⟨un, hun⟩ : ∃ un, un = vals.length := ⟨_, rfl⟩
  rw [← hun] at hu hlen
  subst hu
  have c1 := h.blk.cell 1
  simp at c1
  have HG := Lib.hid (show ∀ (i : Nat), i < un → ∃ g c, ux = some ⟨g, 0, none⟩ ∧ w.cell? ⟨g, i * 2, none⟩ = some (.int .i64 num) from fun i hi => by
    obtain ⟨g, c, x, e1, e2, _⟩ := h.get i (by rw [← hun]; exact hi)
    injection e1 with e1 _ _
    exact ⟨g, c, e1, e2⟩)
  clear h hun
  go_enter Tryz.func17, Tryz.ntmps17
  go_wp2_with fail
  go_loop [1, 5] (fun v1 v5 => v1 = .int .i64 num ∧ ∃ k : Nat, v5 = .int .i64 k ∧ k ≤ un) (fun _ v5 => un - (intOf v5).toNat)
  case atStart => exact ⟨rfl, 0, rfl, Nat.zero_le _⟩
  case round =>
    obtain ⟨rfl, k, rfl, hk⟩ := hrel
    by_cases hlt : k < un
    · obtain ⟨g, c, rfl, hc⟩ := HG.out k hlt
      go_wp2_with fail
      go_round
      case rel => exact ⟨by simp, k + 1, by go_num, by omega⟩
      case measure => simp [intOf]; omega
    · obtain rfl : k = un := by omega
      go_wp2_with fail
      go_ret
      exact ⟨rfl, rfl⟩
theorem flat_le {ls : List (List Jou.Cell)} {m : Nat} (h : ls.flatten.length ≤ m) (k : Nat) : (ls.take k).flatten.length ≤ m := Nat.le_trans (flat_take ls k) h
set_option maxHeartbeats 4000000 in
theorem refCells_any (h : RefJ B w q num u vals ls) (hlen : vals.length ≤ 1000) (hfl : ls.flatten.length ≤ 100000) :
    Calls Tryz.prog 19 #[.pointer (some ⟨q, 0, none⟩), .int .i64 num] w fun e w' => ∃ v, e = .returned v ∧ OwnC w' w.heap.size v ls.flatten ∧ Below w.heap.size w w' := by
  have H := Lib.hid h
  obtain ⟨ux, uc, hu⟩ := h.form
  obtain ⟨un, hun⟩ : ∃ un, un = vals.length := ⟨_, rfl⟩
  rw [← hun] at hu hlen
  subst hu
  have HUN := Lib.hid hun
  have HFL := Lib.hid hfl
  clear h hun hfl
  go_enter Tryz.func19, Tryz.ntmps19
  go_wp2_with fail
  go_loopw [5, 6] (fun v5 v6 wr => ∃ k : Nat, v6 = .int .i64 k ∧ k ≤ un ∧ OwnC wr w.heap.size v5 (ls.take k).flatten ∧ Below w.heap.size w wr) (fun _ v6 _ => un - (intOf v6).toNat)
  case atStart => exact ⟨0, rfl, Nat.zero_le _, by simpa using OwnC.nil w w.heap.size, Below.refl _ _⟩
  case round =>
    obtain ⟨k, rfl, hk, ho, hb⟩ := hrel
    have HO := Lib.hid ho
    have HB := Lib.hid hb
    have HR := Lib.hid (H.out.below hb)
    have c1 := HR.out.blk.cell 1
    simp at c1
    obtain ⟨vx, vc, hv⟩ := ho.rd.form
    obtain ⟨vn, hvn⟩ : ∃ vn, vn = (ls.take k).flatten.length := ⟨_, rfl⟩
    rw [← hvn] at hv
    subst hv
    clear ho hb hvn
    by_cases hlt : k < un
    · obtain ⟨g, c, x, e1, e2, e3, _, hkl, hrx⟩ := HR.out.get k (by rw [← HUN.out]; exact hlt)
      injection e1 with e1 _ _
      subst e1
      obtain ⟨x1, x2, hxf⟩ := hrx.form
      obtain ⟨xn, hxn⟩ : ∃ xn, xn = ls[k].length := ⟨_, rfl⟩
      rw [← hxn] at hxf
      subst hxf
      have HRX := Lib.hid hrx
      have HKL := Lib.hid hkl
      have HT := Lib.hid (show (ls.take (k + 1)).flatten = (ls.take k).flatten ++ ls[k] by rw [List.take_succ_eq_append_getElem hkl, List.flatten_append, List.flatten_cons, List.flatten_nil, List.append_nil]; rfl)
      have HLE := Lib.hid (show (ls.take k).flatten.length + ls[k].length ≤ 100000 by
        have h1 := flat_le HFL.out (k + 1)
        rw [HT.out, List.length_append] at h1
        exact h1)
      clear hrx hxn
      go_wp2_with (at_builtin; refine wpList_append_cells rfl (.tmp 26) (.tmp 34) rfl w.heap.size _ (ls.take k).flatten rfl HO.out _ ls[k] rfl HRX.out (by have := HLE.out; omega) HB.out.size ?_; intro v7 w7 hown7 hbel7; have HO7 := Lib.hid hown7; have HB7 := Lib.hid (HB.out.trans hbel7); clear hown7 hbel7)
      go_roundw
      case rel => exact ⟨k + 1, by go_num, by omega, by rw [HT.out]; exact HO7.out, HB7.out⟩
      case measure => simp [intOf]; omega
    · obtain rfl : k = un := by omega
      go_wp2_with fail
      go_ret
      have h1 := HO.out
      rw [List.take_of_length_le (by rw [HUN.out, H.out.len]; exact Nat.le_refl _)] at h1
      exact ⟨_, rfl, h1, HB.out⟩
end
/-! ### numbers -/
abbrev PowTab (w : World) : Prop := Lib.TabIs Tryz.prog w "internal/strconv.uint64pow10" .u64 Lib.pow10Tab
theorem PowTab.below {w w' : World} (h : PowTab w) (x : Below w.heap.size w w') : PowTab w' := by
  have hg : Tryz.prog.globalNamed "internal/strconv.uint64pow10" = some 2 := by kernel_rfl
  unfold PowTab Lib.TabIs World.var? at h ⊢
  rw [hg] at h ⊢
  simp only [Option.bind_some] at h ⊢
  have hlt : 2 < w.heap.size := by
    apply Classical.byContradiction
    intro hge
    rw [Array.getElem?_eq_none (by omega)] at h
    cases h
  rw [x.block _ hlt]
  exact h
theorem numOk_tab {w : World} (h : PowTab w) {n : Nat} (h1 : 1 ≤ n) (h2 : n ≤ 2147483647) : NumOk w n := by
  refine ⟨fun W hW => ?_, h1, h2⟩
  refine (Tryz.strconv_Itoa n (by omega) (by omega) W (h.below hW)).mono ?_
  rintro e w' ⟨rfl, k, os, rfl⟩
  refine ⟨?_, Lib.below_grow _ _ (Nat.le_refl _) k os⟩
  have e : Lib.itoa (n : Int) = Lib.decDigits n := by
    unfold Lib.itoa
    rw [if_neg (by omega)]
    congr 1
  rw [e]
  rfl
end Go.Proofs.YtcijhhnbhnaiaaaGreatDoor
