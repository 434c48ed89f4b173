/- A tablet parted, and made one again. -/
import Derived.Test.YtenbgfejonokdaaEdOne
namespace Go.Proofs.Ytenbgfejonokdaa
set_option linter.unusedSimpArgs false
set_option linter.unusedVariables false
set_option maxRecDepth 100000
open Go.RowKit

def spE (k : Nat) (key : ByteArray) : Ed.Edit := ⟨3, k, 0, [], key⟩
def mgE (k : Nat) : Ed.Edit := ⟨4, k, 0, [], ⟨#[]⟩⟩
theorem union_self {l : List Int} (h : l.Pairwise (· < ·)) : Ed.union l l = l :=
  Ed.sorted_ext _ _ (Ed.union_sorted l h) h fun x => by rw [Ed.union_mem]; simp
def spS (s : Ed.St) (k : Nat) (hk : k < s.l.length) (key : ByteArray) : Ed.St := ⟨s.l.take (k + 1) ++ ⟨key, s.l[k].tabs⟩ :: s.l.drop (k + 1), s.log, s.next⟩
theorem does_sp (s : Ed.St) (k : Nat) (hk : k < s.l.length) (key : ByteArray) : Ed.doesP s (spE k key) = some (spS s k hk key) := by
  unfold Ed.doesP spE
  rw [if_neg (by show ¬ (3 : Int) = 5; decide), dif_pos ⟨by show (0 : Int) ≤ k; omega, by show (k : Int) < _; omega⟩, if_neg (by show ¬ (3 : Int) = 1; decide), if_neg (by show ¬ (3 : Int) = 2; decide), if_pos rfl]
  rfl
theorem spS_len (s : Ed.St) (k : Nat) (hk : k < s.l.length) (key : ByteArray) : (spS s k hk key).l.length = s.l.length + 1 := by
  show (s.l.take (k + 1) ++ _ :: s.l.drop (k + 1)).length = _
  simp; omega
theorem spS_get (s : Ed.St) (k : Nat) (hk : k < s.l.length) (key : ByteArray) (j : Nat) (hj : j < (spS s k hk key).l.length) :
    (spS s k hk key).l[j] = if h : j ≤ k then s.l[j]'(by omega) else if h2 : j = k + 1 then ⟨key, s.l[k].tabs⟩ else s.l[j - 1]'(by rw [spS_len] at hj; omega) := by
  have hjl := hj
  rw [spS_len] at hjl
  have hlen : (s.l.take (k + 1)).length = k + 1 := by rw [List.length_take]; omega
  have hj' : j < (s.l.take (k + 1) ++ ⟨key, s.l[k].tabs⟩ :: s.l.drop (k + 1)).length := hj
  have e0 : (spS s k hk key).l[j] = (s.l.take (k + 1) ++ ⟨key, s.l[k].tabs⟩ :: s.l.drop (k + 1))[j]'hj' := rfl
  refine e0.trans ?_
  by_cases h : j ≤ k
  · rw [dif_pos h, List.getElem_append_left (by omega), List.getElem_take]
  · rw [dif_neg h, List.getElem_append_right (by omega)]
    by_cases h2 : j = k + 1
    · subst h2
      rw [dif_pos rfl]
      simp [hlen]
    · rw [dif_neg h2]
      obtain ⟨d, rfl⟩ : ∃ d, j = k + 1 + 1 + d := ⟨j - (k + 2), by omega⟩
      have e : k + 1 + 1 + d - (s.l.take (k + 1)).length = d + 1 := by omega
      have e3 : k + 1 + 1 + d - 1 = k + 1 + d := by omega
      simp only [e, e3, List.getElem_cons_succ, List.getElem_drop]
theorem spS_valid {s : Ed.St} (hv : Ed.Valid s) (k : Nat) (hk : k < s.l.length) (key : ByteArray) (hks : key.size ≤ 64) (h16 : s.l.length < 16) (h1 : Ed.lt s.l[k].frm key = true) (h2 : ∀ h : k + 1 < s.l.length, Ed.lt key s.l[k + 1].frm = true) :
    Ed.Valid (spS s k hk key) := by
  refine ⟨by rw [spS_len]; omega, by rw [spS_len]; omega, ?_, hv.log, hv.logn, hv.next, fun j hj => ?_⟩
  · rw [spS_get, dif_pos (Nat.zero_le _)]; exact hv.first
  · have hjl := hj
    rw [spS_len] at hjl
    rw [spS_get s k hk key j hj]
    by_cases h : j ≤ k
    · rw [dif_pos h]
      obtain ⟨e1, e2, e3, e4⟩ := hv.each j (by omega)
      refine ⟨e1, fun h0 => ?_, e3, e4⟩
      rw [spS_get s k hk key (j - 1) (by omega), dif_pos (by omega)]
      exact e2 h0
    · rw [dif_neg h]
      by_cases hj2 : j = k + 1
      · subst hj2
        rw [dif_pos rfl]
        obtain ⟨e1, e2, e3, e4⟩ := hv.each k hk
        refine ⟨hks, fun h0 => ?_, e3, e4⟩
        rw [spS_get s k hk key (k + 1 - 1) (by omega), dif_pos (by omega)]
        exact h1
      · rw [dif_neg hj2]
        obtain ⟨e1, e2, e3, e4⟩ := hv.each (j - 1) (by omega)
        refine ⟨e1, fun h0 => ?_, e3, e4⟩
        rw [spS_get s k hk key (j - 1) (by omega), dif_neg (by omega)]
        by_cases hj3 : j - 1 = k + 1
        · rw [dif_pos hj3]
          have := h2 (by omega)
          simp only [hj3]
          exact this
        · rw [dif_neg hj3]
          exact e2 (by omega)
theorem halves_none {s : Ed.St} (hv : Ed.Valid s) (k : Nat) (hk : k < s.l.length) (key : ByteArray) (hks : key.size ≤ 64) (h : Ed.applyP s (spE k key) = none) :
    ¬ Op.bytesLess s.l[k].frm.toList key.toList = true ∨ (¬ (stretchS s k).2.1.toList = [] ∧ ¬ Op.bytesLess key.toList (stretchS s k).2.1.toList = true) ∨ s.l.length = 16 := by
  by_cases h16 : s.l.length = 16
  · exact .inr (.inr h16)
  by_cases h1 : Ed.lt s.l[k].frm key = true
  case neg => exact .inl h1
  by_cases h2 : ∀ h : k + 1 < s.l.length, Ed.lt key s.l[k + 1].frm = true
  · have hf := hv.few
    have := apply_some hv (e := spE k key) (by show (0 : Int) ≤ 0 ∧ (0 : Int) < _; decide) (does_sp s k hk key) (spS_valid hv k hk key hks (by omega) h1 h2)
    rw [this] at h; cases h
  · obtain ⟨h3, h4⟩ := Classical.not_forall.1 h2
    refine .inr (.inl ?_)
    have e : (stretchS s k).2.1 = s.l[k + 1].frm := by
      unfold stretchS
      rw [if_pos (Ed.validB_true hv)]
      unfold stretchP
      rw [dif_pos (show 0 ≤ (k : Int) ∧ (k : Int) < s.l.length from ⟨Int.natCast_nonneg k, Int.ofNat_lt.2 hk⟩)]
      simp only [Int.toNat_natCast]
      rw [dif_pos h3]
    rw [e]
    refine ⟨fun e => ?_, h4⟩
    have := valid_mono hv 0 (k + 1) hv.some h3 (Nat.succ_pos k)
    rw [no_bytes e, lt_nil] at this; cases this
theorem halves_some {s A : Ed.St} (hv : Ed.Valid s) (k : Nat) (hk : k < s.l.length) (key : ByteArray) (h : Ed.applyP s (spE k key) = some A) : Ed.Valid A ∧ A.l.length = s.l.length + 1 ∧ Ed.applyP A (mgE k) = some s := by
  obtain ⟨_, h2, h3⟩ := apply_out h
  rw [does_sp s k hk key] at h2
  cases h2
  refine ⟨h3, spS_len s k hk key, apply_some h3 (by show (0 : Int) ≤ 0 ∧ (0 : Int) < _; decide) ?_ hv⟩
  have hl := spS_len s k hk key
  unfold Ed.doesP mgE
  rw [if_neg (by show ¬ (4 : Int) = 5; decide), dif_pos ⟨by show (0 : Int) ≤ k; omega, by show (k : Int) < _; omega⟩, if_neg (by show ¬ (4 : Int) = 1; decide), if_neg (by show ¬ (4 : Int) = 2; decide), if_neg (by show ¬ (4 : Int) = 3; decide), if_pos rfl, dif_pos (by show (k : Int).toNat + 1 < _; simp only [Int.toNat_natCast]; omega)]
  congr 1
  have e0 : (spS s k hk key).l[k]'(by omega) = s.l[k] := by rw [spS_get, dif_pos (Nat.le_refl _)]
  have e1 : (spS s k hk key).l[k + 1]'(by omega) = ⟨key, s.l[k].tabs⟩ := by rw [spS_get, dif_neg (by omega), dif_pos rfl]
  have hT : (spS s k hk key).l.take k = s.l.take k := by
    show (s.l.take (k + 1) ++ _).take k = _
    rw [List.take_append_of_le_length (by rw [List.length_take]; omega), List.take_take, Nat.min_eq_left (by omega)]
  have hD : (spS s k hk key).l.drop (k + 2) = s.l.drop (k + 1) := by
    show (s.l.take (k + 1) ++ ⟨key, s.l[k].tabs⟩ :: s.l.drop (k + 1)).drop (k + 2) = _
    have : (s.l.take (k + 1)).length = k + 1 := by rw [List.length_take]; omega
    rw [List.drop_append, this, List.drop_eq_nil_of_le (by omega)]
    have : k + 2 - (k + 1) = 1 := by omega
    rw [this]; rfl
  simp only [Int.toNat_natCast, e0, e1, hT, hD]
  rw [union_self ((Ed.rising_iff _ _).1 (hv.each k hk).2.2.1).2]
  have : s.l.take k ++ s.l[k] :: s.l.drop (k + 1) = s.l := by
    rw [← List.drop_eq_getElem_cons hk, List.take_append_drop]
  have e3 : (⟨s.l[k].frm, s.l[k].tabs⟩ : Ed.Tab) = s.l[k] := rfl
  rw [e3, this]
  rfl
end Go.Proofs.Ytenbgfejonokdaa
