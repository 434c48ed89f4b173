/- What is read from few bytes is small; a state that may be is read again. No program in sight. -/
import Derived.Test.YtenbgfejonokdaaEdDecS
import Derived.Test.YtenbgfejonokdaaEdBehind
namespace Go.Proofs.Ytenbgfejonokdaa
set_option linter.unusedSimpArgs false
set_option linter.unusedVariables false

theorem runL_fit (s : ByteArray) : ∀ (k p : Nat) (acc l : List Int) (e : Nat), Ed.runL s.data.toList k p acc = some (l, e) → p ≤ s.size → (∀ n ∈ acc, n < 9223372036854775808) → acc.length ≤ p → l.length ≤ e ∧ p ≤ e ∧ e ≤ s.size ∧ ∀ n ∈ l, n < 9223372036854775808
  | 0, p, acc, l, e, h, hp, ha, hl => by
    unfold Ed.runL at h
    injection h with h
    injection h with h1 h2
    subst h1 h2
    exact ⟨hl, Nat.le_refl _, hp, ha⟩
  | k + 1, p, acc, l, e, h, hp, ha, hl => by
    unfold Ed.runL at h
    split at h
    · cases h
    · rename_i n e1 hg
      obtain ⟨g1, g2, g3⟩ := get_le hg
      obtain ⟨r1, r2, r3, r4⟩ := runL_fit s k e1 _ l e h g1 (fun m hm => by
        rcases List.mem_append.1 hm with h | h
        · exact ha m h
        · obtain rfl : m = n := by simpa using h
          omega) (by rw [List.length_append]; simp; omega)
      exact ⟨r1, by omega, r3, r4⟩
theorem lst_fit {s : ByteArray} {p e : Nat} {l : List Int} (h : Ed.lst s.data.toList p = some (l, e)) : l.length ≤ e ∧ p ≤ e ∧ e ≤ s.size ∧ ∀ n ∈ l, n < 9223372036854775808 := by
  unfold Ed.lst at h
  split at h
  · cases h
  · rename_i n e1 hg
    obtain ⟨g1, g2, g3⟩ := get_le hg
    obtain ⟨r1, r2, r3, r4⟩ := runL_fit s n e1 [] l e h g1 (fun m hm => by cases hm) (Nat.zero_le _)
    exact ⟨r1, by omega, r3, r4⟩
theorem edt_fit {s : ByteArray} {p e : Nat} {x : Ed.Edit} (hs : s.size ≤ 300) (h : Ed.edt s.data.toList p = some (x, e)) : EncFit x ∧ p < e ∧ e ≤ s.size := by
  unfold Ed.edt at h
  split at h
  · cases h
  rename_i a pa ha
  split at h
  · cases h
  rename_i b pb hb
  split at h
  · cases h
  rename_i c pc hc
  split at h
  · cases h
  rename_i l pl hl
  split at h
  · cases h
  rename_i t pt ht
  injection h with h
  injection h with h1 h2
  subst h1 h2
  obtain ⟨a1, a2, a3⟩ := get_le ha
  obtain ⟨b1, b2, b3⟩ := get_le hb
  obtain ⟨c1, c2, c3⟩ := get_le hc
  obtain ⟨l1, l2, l3, l4⟩ := lst_fit hl
  obtain ⟨t1, t2, t3⟩ := txt_ends ht
  refine ⟨⟨by show (a : Int) < _; omega, by show (b : Int) < _; omega, by show (c : Int) < _; omega, by show l.length ≤ _; omega, l4, by show (⟨t.toArray⟩ : ByteArray).size ≤ _; rw [size_l]; omega⟩, by omega, t1⟩
theorem runE_fit (s : ByteArray) (hs : s.size ≤ 300) : ∀ (k p : Nat) (acc l : List Ed.Edit) (e : Nat), Ed.runE s.data.toList k p acc = some (l, e) → p ≤ s.size → (∀ x ∈ acc, EncFit x) → acc.length ≤ p → l.length ≤ e ∧ e ≤ s.size ∧ ∀ x ∈ l, EncFit x
  | 0, p, acc, l, e, h, hp, ha, hl => by
    unfold Ed.runE at h
    injection h with h
    injection h with h1 h2
    subst h1 h2
    exact ⟨hl, hp, ha⟩
  | k + 1, p, acc, l, e, h, hp, ha, hl => by
    unfold Ed.runE at h
    split at h
    · cases h
    · rename_i x e1 hg
      obtain ⟨g1, g2, g3⟩ := edt_fit hs hg
      exact runE_fit s hs k e1 _ l e h g3 (fun m hm => by
        rcases List.mem_append.1 hm with h | h
        · exact ha m h
        · obtain rfl : m = x := by simpa using h
          exact g1) (by rw [List.length_append]; simp; omega)
theorem decE_fit {s : ByteArray} (hs : s.size ≤ 300) (out : List Ed.Edit) (h : Ed.decE s.data.toList = some (out, s.size)) : out.length ≤ 1000 ∧ ∀ e ∈ out, EncFit e := by
  unfold Ed.decE at h
  split at h
  · cases h
  · rename_i k e hg
    obtain ⟨g1, g2, g3⟩ := get_le hg
    obtain ⟨r1, r2, r3⟩ := runE_fit s hs k e [] out s.size h g1 (fun m hm => by cases hm) (Nat.zero_le _)
    exact ⟨by omega, r3⟩
theorem valid_tabOk {s : Ed.St} (h : Ed.Valid s) : ∀ t ∈ s.l, Ed.TabOk t := by
  intro t ht
  obtain ⟨j, hj, rfl⟩ := List.mem_iff_getElem.1 ht
  obtain ⟨h1, _, h2, h3⟩ := h.each j hj
  refine ⟨fun n hn => ?_, by omega, by rw [list_len']; omega⟩
  have := ((Ed.rising_iff _ _).1 h2).1 n hn
  have := h.next
  omega
theorem encSB_list (s : Ed.St) : (encSB s).data.toList = Ed.encS s := rfl
theorem back_one {s : Ed.St} (h : Ed.Valid s) : Ed.decS (encSB s).data.toList = some (s, (encSB s).size) := by
  have h1 := Ed.decS_enc s [] (valid_tabOk h) (by have := h.few; omega) ⟨by have := h.log; omega, by have := h.logn; have := h.next; omega⟩ ⟨by have := h.log; have := h.logn; omega, by have := h.next; omega⟩
  rw [List.append_nil] at h1
  rw [encSB_list, h1, ← list_len', encSB_list]
theorem back_two {s : Ed.St} (h : Ed.Valid s) (X : ByteArray) (hX : X = encSB s ++ ⟨#[0]⟩) : ¬ ∃ t, Ed.decS X.data.toList = some (t, X.size) ∧ Ed.Valid t ∧ encSB t = X := by
  have h1 := Ed.decS_enc s [0] (valid_tabOk h) (by have := h.few; omega) ⟨by have := h.log; omega, by have := h.logn; have := h.next; omega⟩ ⟨by have := h.log; have := h.logn; omega, by have := h.next; omega⟩
  rintro ⟨t, g, _⟩
  have hl : X.data.toList = Ed.encS s ++ [0] := by rw [hX, ByteArray.data_append, Array.toList_append, encSB_list]
  rw [hl, h1] at g
  injection g with g
  injection g with _ g
  rw [← list_len', hl, List.length_append] at g
  simp at g
theorem encRes_valid {s : Ed.St} (h : Ed.Valid s) : encRes s = (encSB s, 0) := by unfold encRes; rw [Ed.validB_true h]; rfl
theorem encSB_size {s : Ed.St} (h : Ed.Valid s) : (encSB s).size ≤ 400000 := by
  have h1 := encbs_len s.l (valid_tabFit h)
  have h2 := pn_len (n := s.log) (by have := h.logn; have := h.next; omega)
  have h3 := pn_len (n := s.next) (by have := h.next; omega)
  have h4 := pn_len (n := (s.l.length : Int)) (by have := h.few; omega)
  have := h.few
  rw [← list_len', encSB_list]
  unfold Ed.encS
  simp only [List.length_append]
  omega
end Go.Proofs.Ytenbgfejonokdaa
