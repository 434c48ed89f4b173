/- Two lists held against each other: texts, numbers. -/
import Derived.Test.YtenbgfejonokdaaTexts
import Derived.Test.YtenbgfejonokdaaInts
import Derived.Deep.QuietTactic
namespace Go.Proofs.Ytenbgfejonokdaa
set_option maxRecDepth 100000
open Go.RowKit

theorem below_drewN {B : Nat} {a w : World} (h : Below B a w) (n : Nat) : Below B a (w.drewN n) := ⟨h.os, h.tape, h.output, h.size, h.block⟩
theorem RdS.form {w : World} {v : Value} {l : List ByteArray} (h : RdS w v l) : ∃ x c, v = .slice x l.length c := by
  rcases h with ⟨c, rfl, rfl⟩ | ⟨b, off, c, rfl, _⟩
  · exact ⟨_, _, rfl⟩
  · exact ⟨_, _, rfl⟩
theorem take_eq_succ (la lb : List ByteArray) (i : Nat) (ha : i < la.length) (hb : i < lb.length) (h : la.take i = lb.take i) (e : la[i] = lb[i]) : la.take (i + 1) = lb.take (i + 1) := by
  rw [List.take_succ_eq_append_getElem ha, List.take_succ_eq_append_getElem hb, h, e]
theorem text_beq (a b : ByteArray) : (a.toList == b.toList) = decide (a = b) := by
  rw [ByteArray.toList_eq, ByteArray.toList_eq]
  by_cases h : a = b
  · subst h; simp
  · rw [decide_eq_false h, beq_eq_false_iff_ne]
    exact fun e => h (bytes_ext e)

set_option maxHeartbeats 1000000 in
theorem sameTexts_any (va vb : Value) (la lb : List ByteArray) (w : World) (ha : RdS w va la) (hb : RdS w vb lb) (hm : la.length ≤ 9223372036854775807) (hm2 : lb.length ≤ 9223372036854775807) :
    Calls Try.prog 66 #[va, vb] w fun e w' => e = .returned (.bool (decide (la = lb))) ∧ Below w.heap.size w w' := by
  by_cases hl : la.length = lb.length
  · by_cases h0 : la.length = 0
    · obtain ⟨xa, ca, rfl⟩ := ha.form
      obtain ⟨xb, cb, rfl⟩ := hb.form
      have hd := Lib.hid (show decide (la = lb) = true by
        rw [List.length_eq_zero_iff.1 h0, List.length_eq_zero_iff.1 (show lb.length = 0 by omega)]; simp)
      rw [← hl, h0]
      clear ha hb hl
      go_enter Try.func66, Try.ntmps66
      go_wp2_with fail
      go_loop [5] (fun i => i = .int .i64 0) (fun _ => 0)
      case atStart => rfl
      case round =>
        subst hrel
        go_wp2_with fail
        go_ret
        exact ⟨by rw [hd.out]; rfl, Below.refl _ _⟩
    · obtain ⟨ba, oa, ca, rfl, _, hca⟩ : ∃ b off c, va = .slice (some ⟨b, off, none⟩) la.length c ∧ b < w.heap.size ∧ ∀ j (hj : j < la.length), w.cell? ⟨b, off + j, none⟩ = some (.string la[j]) := by
        rcases ha with ⟨c, _, h⟩ | h
        · rw [h] at h0; exact absurd rfl h0
        · exact h
      obtain ⟨bb, ob, cb, rfl, _, hcb⟩ : ∃ b off c, vb = .slice (some ⟨b, off, none⟩) lb.length c ∧ b < w.heap.size ∧ ∀ j (hj : j < lb.length), w.cell? ⟨b, off + j, none⟩ = some (.string lb[j]) := by
        rcases hb with ⟨c, _, h⟩ | h
        · rw [h] at hl; exact absurd hl h0
        · exact h
      have Hl := Lib.hid hl
      have Hca := Lib.hid hca
      have Hcb := Lib.hid hcb
      rw [← hl]
      clear hca hcb hl
      go_enter Try.func66, Try.ntmps66
      go_wp2_with fail
      go_loopw [5] (fun i wr => ∃ k : Nat, i = .int .i64 k ∧ k ≤ la.length ∧ la.take k = lb.take k ∧ ∃ n, wr = w.drewN n) (fun i _ => la.length - (intOf i).toNat)
      case atStart => exact ⟨0, rfl, Nat.zero_le _, by simp, 0, rfl⟩
      case round =>
        obtain ⟨k, rfl, hk, htk, nd, rfl⟩ := hrel
        have Htk := Lib.hid htk
        clear htk
        by_cases hlt : k < la.length
        · have c1 := Hca.out k hlt
          have c2 := Hcb.out k (by rw [← Hl.out]; exact hlt)
          have i1 : (k : Int) < la.length := by omega
          by_cases heq : la[k] = lb[k]'(by rw [← Hl.out]; exact hlt)
          · have hq := text_beq la[k] (lb[k]'(by rw [← Hl.out]; exact hlt))
            rw [decide_eq_true heq] at hq
            have Heq := Lib.hid heq
            clear heq
            go_wp2_with fail
            go_quiet (fail)
            go_wp2_with fail
            go_roundw
            case rel => exact ⟨k + 1, by go_num, by omega, take_eq_succ la lb k hlt (by rw [← Hl.out]; exact hlt) Htk.out Heq.out, nd + nq, rfl⟩
            case measure => simp [intOf]; omega
          · have hq := text_beq la[k] (lb[k]'(by rw [← Hl.out]; exact hlt))
            rw [decide_eq_false heq] at hq
            have hd := Lib.hid (show decide (la = lb) = false by
              rw [decide_eq_false]
              intro h
              exact heq (by simp only [h]))
            clear heq
            go_wp2_with fail
            go_quiet (fail)
            go_wp2_with fail
            go_ret
            exact ⟨by rw [hd.out]; rfl, below_drewN (below_drewN (Below.refl _ _) _) _⟩
        · have hd := Lib.hid (show decide (la = lb) = true by
            rw [decide_eq_true]
            have h := Htk.out
            rwa [List.take_of_length_le (by omega), List.take_of_length_le (by rw [← Hl.out]; omega)] at h)
          go_wp2_with fail
          go_ret
          exact ⟨by rw [hd.out]; rfl, below_drewN (Below.refl _ _) _⟩
  · obtain ⟨xa, ca, rfl⟩ := ha.form
    obtain ⟨xb, cb, rfl⟩ := hb.form
    have hd := Lib.hid (show decide (la = lb) = false by
      rw [decide_eq_false]; rintro rfl; exact hl rfl)
    have hne : ((la.length : Int) != lb.length) = true := by rw [bne_iff_ne]; omega
    clear ha hb hl
    go_enter Try.func66, Try.ntmps66
    go_wp2_with fail
    go_ret
    exact ⟨by rw [hd.out]; rfl, Below.refl _ _⟩
theorem take_eq_succI (la lb : List Int) (i : Nat) (ha : i < la.length) (hb : i < lb.length) (h : la.take i = lb.take i) (e : la[i] = lb[i]) : la.take (i + 1) = lb.take (i + 1) := by
  rw [List.take_succ_eq_append_getElem ha, List.take_succ_eq_append_getElem hb, h, e]
theorem RdI.form {w : World} {v : Value} {l : List Int} (h : RdI w v l) : ∃ x c, v = .slice x l.length c := by
  rcases h with ⟨c, rfl, rfl⟩ | ⟨b, off, c, rfl, _⟩
  · exact ⟨_, _, rfl⟩
  · exact ⟨_, _, rfl⟩
set_option maxHeartbeats 1000000 in
theorem sameInts_any (va vb : Value) (la lb : List Int) (w : World) (ha : RdI w va la) (hb : RdI w vb lb) (hm : la.length ≤ 9223372036854775807) (hm2 : lb.length ≤ 9223372036854775807) :
    Calls Try.prog 91 #[va, vb] w fun e w' => e = .returned (.bool (decide (la = lb))) ∧ Below w.heap.size w w' := by
  by_cases hl : la.length = lb.length
  · by_cases h0 : la.length = 0
    · obtain ⟨xa, ca, rfl⟩ := ha.form
      obtain ⟨xb, cb, rfl⟩ := hb.form
      have hd := Lib.hid (show decide (la = lb) = true by
        rw [List.length_eq_zero_iff.1 h0, List.length_eq_zero_iff.1 (show lb.length = 0 by omega)]; simp)
      rw [← hl, h0]
      clear ha hb hl
      go_enter Try.func91, Try.ntmps91
      go_wp2_with fail
      go_loop [5] (fun i => i = .int .i64 0) (fun _ => 0)
      case atStart => rfl
      case round =>
        subst hrel
        go_wp2_with fail
        go_ret
        exact ⟨by rw [hd.out]; rfl, Below.refl _ _⟩
    · obtain ⟨ba, oa, ca, rfl, _, hca⟩ : ∃ b off c, va = .slice (some ⟨b, off, none⟩) la.length c ∧ b < w.heap.size ∧ ∀ j (hj : j < la.length), w.cell? ⟨b, off + j, none⟩ = some (.int .i64 la[j]) := by
        rcases ha with ⟨c, _, h⟩ | h
        · rw [h] at h0; exact absurd rfl h0
        · exact h
      obtain ⟨bb, ob, cb, rfl, _, hcb⟩ : ∃ b off c, vb = .slice (some ⟨b, off, none⟩) lb.length c ∧ b < w.heap.size ∧ ∀ j (hj : j < lb.length), w.cell? ⟨b, off + j, none⟩ = some (.int .i64 lb[j]) := by
        rcases hb with ⟨c, _, h⟩ | h
        · rw [h] at hl; exact absurd hl h0
        · exact h
      have Hl := Lib.hid hl
      have Hca := Lib.hid hca
      have Hcb := Lib.hid hcb
      rw [← hl]
      clear hca hcb hl
      go_enter Try.func91, Try.ntmps91
      go_wp2_with fail
      go_loopw [5] (fun i wr => ∃ k : Nat, i = .int .i64 k ∧ k ≤ la.length ∧ la.take k = lb.take k ∧ ∃ n, wr = w.drewN n) (fun i _ => la.length - (intOf i).toNat)
      case atStart => exact ⟨0, rfl, Nat.zero_le _, by simp, 0, rfl⟩
      case round =>
        obtain ⟨k, rfl, hk, htk, nd, rfl⟩ := hrel
        have Htk := Lib.hid htk
        clear htk
        by_cases hlt : k < la.length
        · have c1 := Hca.out k hlt
          have c2 := Hcb.out k (by rw [← Hl.out]; exact hlt)
          have i1 : (k : Int) < la.length := by omega
          by_cases heq : la[k] = lb[k]'(by rw [← Hl.out]; exact hlt)
          · have hq : (la[k] == lb[k]'(by rw [← Hl.out]; exact hlt)) = true := by rw [beq_iff_eq]; exact heq
            have hq2 : (la[k] != lb[k]'(by rw [← Hl.out]; exact hlt)) = false := by rw [bne_eq_false_iff_eq]; exact heq
            have Heq := Lib.hid heq
            clear heq
            go_wp2_with fail
            go_quiet (fail)
            go_wp2_with fail
            go_roundw
            case rel => exact ⟨k + 1, by go_num, by omega, take_eq_succI la lb k hlt (by rw [← Hl.out]; exact hlt) Htk.out Heq.out, nd + nq, rfl⟩
            case measure => simp [intOf]; omega
          · have hq : (la[k] == lb[k]'(by rw [← Hl.out]; exact hlt)) = false := by rw [beq_eq_false_iff_ne]; exact heq
            have hq2 : (la[k] != lb[k]'(by rw [← Hl.out]; exact hlt)) = true := by rw [bne_iff_ne]; exact heq
            have hd := Lib.hid (show decide (la = lb) = false by
              rw [decide_eq_false]
              intro h
              exact heq (by simp only [h]))
            clear heq
            go_wp2_with fail
            go_quiet (fail)
            go_wp2_with fail
            go_ret
            exact ⟨by rw [hd.out]; rfl, below_drewN (below_drewN (Below.refl _ _) _) _⟩
        · have hd := Lib.hid (show decide (la = lb) = true by
            rw [decide_eq_true]
            have h := Htk.out
            rwa [List.take_of_length_le (by omega), List.take_of_length_le (by rw [← Hl.out]; omega)] at h)
          go_wp2_with fail
          go_ret
          exact ⟨by rw [hd.out]; rfl, below_drewN (Below.refl _ _) _⟩
  · obtain ⟨xa, ca, rfl⟩ := ha.form
    obtain ⟨xb, cb, rfl⟩ := hb.form
    have hd := Lib.hid (show decide (la = lb) = false by
      rw [decide_eq_false]; rintro rfl; exact hl rfl)
    have hne : ((la.length : Int) != lb.length) = true := by rw [bne_iff_ne]; omega
    clear ha hb hl
    go_enter Try.func91, Try.ntmps91
    go_wp2_with fail
    go_ret
    exact ⟨by rw [hd.out]; rfl, Below.refl _ _⟩
end Go.Proofs.Ytenbgfejonokdaa
