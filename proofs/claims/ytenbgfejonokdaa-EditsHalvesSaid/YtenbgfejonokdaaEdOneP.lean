/- Edits never turn a state's numbers back; each key has one place. -/
import Derived.Test.YtenbgfejonokdaaEdBehind
namespace Go.Proofs.Ytenbgfejonokdaa
set_option linter.unusedSimpArgs false
set_option linter.unusedVariables false
set_option maxRecDepth 100000
open Go.RowKit

theorem apply_out {s s' : Ed.St} {e : Ed.Edit} (h : Ed.applyP s e = some s') : Ed.Valid s ∧ Ed.doesP s e = some s' ∧ Ed.Valid s' := by
  unfold Ed.applyP at h
  by_cases hc : Ed.Valid s ∧ 0 ≤ e.file ∧ e.file < 2147483647
  case neg => rw [if_neg hc] at h; cases h
  rw [if_pos hc] at h
  cases hd : Ed.doesP s e with
  | none => rw [hd] at h; cases h
  | some t =>
    rw [hd] at h
    simp only at h
    by_cases hv : Ed.Valid t
    case neg => rw [if_neg hv] at h; cases h
    rw [if_pos hv] at h
    cases h
    exact ⟨hc.1, rfl, hv⟩
theorem does_up {s s' : Ed.St} {e : Ed.Edit} (hv : Ed.Valid s) (h : Ed.doesP s e = some s') : s.next ≤ s'.next ∧ s.log ≤ s'.log := by
  have hl := hv.logn
  unfold Ed.doesP at h
  split at h
  · split at h
    · cases h; exact ⟨by show _ ≤ e.file + 1; omega, by show _ ≤ e.file; omega⟩
    · cases h
  · split at h
    · split at h
      · split at h
        · cases h; exact ⟨by show _ ≤ e.file + 1; omega, Int.le_refl _⟩
        · cases h
      · split at h
        · split at h
          · cases h
            refine ⟨?_, Int.le_refl _⟩
            show s.next ≤ (match e.files.getLast? with | none => s.next | some k => max s.next (wrap64 (k + 1)))
            split
            · exact Int.le_refl _
            · exact Int.le_max_left _ _
          · cases h
        · split at h
          · cases h; exact ⟨Int.le_refl _, Int.le_refl _⟩
          · split at h
            · split at h
              · cases h; exact ⟨Int.le_refl _, Int.le_refl _⟩
              · cases h
            · cases h
    · cases h
theorem lt_nil (x : ByteArray) : Ed.lt x ⟨#[]⟩ = false := by
  unfold Ed.lt
  have : (⟨#[]⟩ : ByteArray).toList = [] := by rw [ByteArray.toList_eq]
  rw [this]
  cases x.toList <;> rfl
/-- Each key has a place. -/
theorem findAt_some {s : Ed.St} (hv : Ed.Valid s) (key : ByteArray) : ∃ r, FindAt s.l key r := by
  have key0 : ∀ n, n < s.l.length → ∀ (hn : n < s.l.length), Ed.lt key s.l[n].frm = false → ∃ r, FindAt s.l key r := by
    intro n
    obtain ⟨d, hd⟩ : ∃ d, d = s.l.length - n := ⟨_, rfl⟩
    induction d generalizing n with
    | zero => intro h; omega
    | succ d ih =>
      intro h hn hl
      by_cases h2 : n + 1 < s.l.length
      · cases hq : Ed.lt key s.l[n + 1].frm with
        | true => exact ⟨n, hn, hl, fun _ => hq⟩
        | false => exact ih (n + 1) (by omega) h2 h2 hq
      · exact ⟨n, hn, hl, fun h => absurd h h2⟩
  refine key0 0 hv.some hv.some ?_
  rw [bytes_empty hv.first]
  exact lt_nil key
/-- A key lies in a tablet's stretch. -/
theorem stretch_find {s : Ed.St} (hv : Ed.Valid s) (key : ByteArray) (k : Nat) (hk : k < s.l.length) :
    (Ed.lt key (stretchS s k).1 = false ∧ ((stretchS s k).2.1 = ⟨#[]⟩ ∨ Ed.lt key (stretchS s k).2.1 = true)) ↔ FindAt s.l key k := by
  unfold stretchS
  rw [if_pos (Ed.validB_true hv)]
  unfold stretchP
  rw [dif_pos (by omega)]
  simp only [Int.toNat_natCast]
  by_cases h2 : k + 1 < s.l.length
  · rw [dif_pos h2]
    have hne : s.l[k + 1].frm ≠ ⟨#[]⟩ := fun e => by
      have := valid_mono hv 0 (k + 1) (by omega) h2 (by omega)
      rw [e, lt_nil] at this; cases this
    exact ⟨fun ⟨a, b⟩ => ⟨hk, a, fun _ => b.resolve_left hne⟩, fun ⟨_, a, b⟩ => ⟨a, .inr (b h2)⟩⟩
  · rw [dif_neg h2]
    exact ⟨fun ⟨a, _⟩ => ⟨hk, a, fun h => absurd h h2⟩, fun ⟨_, a, _⟩ => ⟨a, .inl rfl⟩⟩
theorem stretch_in {s : Ed.St} (hv : Ed.Valid s) (k : Nat) (hk : k < s.l.length) : (stretchS s k).1 = s.l[k].frm ∧ (stretchS s k).2.2 = true := by
  unfold stretchS
  rw [if_pos (Ed.validB_true hv)]
  unfold stretchP
  rw [dif_pos (by omega)]
  exact ⟨by simp only [Int.toNat_natCast], rfl⟩
end Go.Proofs.Ytenbgfejonokdaa
