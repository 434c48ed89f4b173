/- Edits in memory: what reads as a state, as an edit; files that rise; is a state one? Walked, by the program and by the document. -/
import Derived.Test.YtcijhhnbhnaiaaaGreatEdPlain
import Derived.Test.YtcijhhnbhnaiaaaGreatInts
import Derived.Test.YtcijhhnbhnaiaaaGreatTexts
import Derived.Deep.QuietTactic
import Derived.BigQuiet
namespace Go.Proofs.YtcijhhnbhnaiaaaGreat
set_option linter.unusedSimpArgs false
set_option linter.unusedVariables false
set_option maxRecDepth 100000
open Go.RowKit

theorem RdI.form {w : World} {v : Value} {l : List Int} (h : RdI w v l) : ∃ x c, v = .slice x l.length c ∧ ∀ (j : Nat) (hj : j < l.length), ∃ b off, x = some ⟨b, off, none⟩ ∧ b < w.heap.size ∧ w.cell? ⟨b, off + j, none⟩ = some (.int .i64 l[j]) := by
  rcases h with ⟨x, c, rfl, rfl⟩ | ⟨b, off, c, rfl, hb, hc⟩
  · exact ⟨x, c, rfl, fun j hj => absurd hj (by simp)⟩
  · exact ⟨_, c, rfl, fun j hj => ⟨b, off, rfl, hb, hc j hj⟩⟩
set_option maxHeartbeats 1000000 in
theorem rising_any (v : Value) (l : List Int) (below : Int) (w : World) (h : RdI w v l) (hl : l.length ≤ maxLen) :
    Calls Tryz.prog 56 #[v, .int .i64 below] w fun e w' => e = .returned (.bool (Ed.risingB l below)) ∧ w = w' := by
  obtain ⟨x, c, rfl, hel⟩ := h.form
  have Hel := Lib.hid hel
  unfold maxLen at hl
  clear hel h
  go_enter Tryz.func56, Tryz.ntmps56
  go_wp2_with fail
  go_loop [5, 6, 9] (fun _ _ v9 => ∃ (k : Nat), v9 = .int .i64 k ∧ k ≤ l.length ∧ ∀ (j : Nat) (hj : j < l.length), j < k → 1 ≤ l[j] ∧ l[j] < below ∧ (∀ h : 0 < j, l[j - 1] < l[j])) (fun _ _ v9 => l.length - (intOf v9).toNat)
  case atStart => exact ⟨0, rfl, Nat.zero_le _, fun j _ hj => absurd hj (by omega)⟩
  case round =>
    obtain ⟨k, rfl, hk, hsm⟩ := hrel
    have Hsm := Lib.hid hsm
    clear hsm
    by_cases hlt : k < l.length
    · obtain ⟨b, off, rfl, _, c0⟩ := Hel.out k hlt
      obtain ⟨n, hn⟩ : ∃ n, n = l[k] := ⟨_, rfl⟩
      rw [← hn] at c0
      have Hn := Lib.hid hn
      clear hn
      by_cases hpos : 0 < k
      case neg =>
        have hz2 : ¬ (0 : Int) < k := by omega
        go_wp2_with fail
        all_goals first
          | (go_ret
             rw [Ed.risingB_false fun h => (by have := h k hlt; rw [← Hn.out] at this; omega)]
             exact ⟨rfl, rfl⟩)
          | (go_round
             case rel => exact ⟨k + 1, by go_num, by omega, fun j hj hjk => (by
               obtain rfl : j = k := by omega
               rw [← Hn.out]; exact ⟨by omega, by omega, fun h => absurd h (by omega)⟩)⟩
             case measure => simp [intOf]; omega)
      case pos =>
        obtain ⟨b', off', e, _, c1⟩ := Hel.out (k - 1) (by omega)
        cases e
        obtain ⟨m, hm⟩ : ∃ m, m = l[k - 1] := ⟨_, rfl⟩
        rw [← hm] at c1
        have Hm := Lib.hid hm
        have hk1 : (0 : Int) < k := by omega
        obtain ⟨k', rfl⟩ : ∃ k', k = k' + 1 := ⟨k - 1, by omega⟩
        clear hm
        simp only [Nat.add_sub_cancel] at c1
        go_wp2_with fail
        all_goals first
          | (go_ret
             rw [Ed.risingB_false fun h => (by
               have h1 := h (k' + 1) hlt
               have h2 : l[k'] < l[k' + 1] := h1.2.2 (by omega)
               rw [← Hn.out] at h2
               have h3 : m = l[k'] := Hm.out
               rw [← h3] at h2
               rw [← Hn.out] at h1
               omega)]
             exact ⟨rfl, rfl⟩)
          | (go_round
             case rel => exact ⟨k' + 2, by go_num, by omega, fun j hj hjk => (by
               by_cases e : j < k' + 1
               · exact Hsm.out j hj e
               · obtain rfl : j = k' + 1 := by omega
                 rw [← Hn.out]; exact ⟨by omega, by omega, fun h => by rw [← Hm.out]; omega⟩)⟩
             case measure => simp [intOf]; omega)
    · have hge : ¬ (k : Int) < l.length := by omega
      obtain rfl : k = l.length := by omega
      go_wp2_with fail
      go_ret
      rw [Ed.risingB_true fun j hj => Hsm.out j hj hj]
      exact ⟨rfl, rfl⟩

/-- A state's value. -/
def stV (v : Value) (log next : Int) : Value := .agg #[v, .int .i64 log, .int .i64 next]
/-- A slice that reads as these tablets. -/
def RdT (w : World) (v : Value) (l : List Ed.Tab) : Prop :=
  ∃ x c, v = .slice x l.length c ∧ ∀ (j : Nat) (hj : j < l.length), ∃ b off tv, x = some ⟨b, off, none⟩ ∧ b < w.heap.size ∧ w.cell? ⟨b, off + j * 2, none⟩ = some (.string l[j].frm) ∧ w.cell? ⟨b, off + j * 2 + 1, none⟩ = some tv ∧ RdI w tv l[j].tabs
theorem RdT.below {w w' : World} {v : Value} {l : List Ed.Tab} (h : RdT w v l) (x : Below w.heap.size w w') : RdT w' v l := by
  obtain ⟨a, c, rfl, h⟩ := h
  refine ⟨a, c, rfl, fun j hj => ?_⟩
  obtain ⟨b, off, tv, e, hb, h1, h2, h3⟩ := h j hj
  exact ⟨b, off, tv, e, Nat.lt_of_lt_of_le hb x.size, (x.cell (p := ⟨b, _, none⟩) hb).trans h1, (x.cell (p := ⟨b, _, none⟩) hb).trans h2, h3.below x⟩
/-- No row of a state is longer than rows are. -/
structure Fits (l : List Ed.Tab) : Prop where
  len : l.length ≤ maxLen
  each : ∀ (j : Nat) (hj : j < l.length), l[j].frm.size ≤ maxLen ∧ l[j].tabs.length ≤ maxLen
theorem bytes_empty {s : ByteArray} (h : s.size = 0) : s = ⟨#[]⟩ := by
  apply bytes_ext
  have : s.data.toList.length = 0 := by simpa using h
  rw [List.length_eq_zero_iff.1 this]
end Go.Proofs.YtcijhhnbhnaiaaaGreat
