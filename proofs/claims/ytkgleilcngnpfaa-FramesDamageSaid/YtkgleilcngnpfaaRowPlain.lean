/- What a row of frames has at each place: plain. -/
import Derived.Test.YtkgleilcngnpfaaRowWalk
namespace Go.Proofs.Ytkgleilcngnpfaa
open Go.RowKit

theorem rowT_cons (p : ByteArray) (l : List ByteArray) : rowT (p :: l) = Frm.frame p.data.toList ++ rowT l := rfl
theorem rowT_app (a b : List ByteArray) : rowT (a ++ b) = rowT a ++ rowT b := by unfold rowT; rw [List.map_append, List.flatten_append]
/-- Where the frame of a number begins. -/
def rowB (l : List ByteArray) (i : Nat) : Nat := (rowT (l.take i)).length
theorem rowB_succ (l : List ByteArray) (k : Nat) (hk : k < l.length) : rowB l (k + 1) = rowB l k + (l[k].size + 8) := by
  unfold rowB; rw [rowT_succ l k hk, List.length_append, Frm.frame_length, len_list]
theorem rowB_mono (l : List ByteArray) (i j : Nat) (h : i ≤ j) (hj : j ≤ l.length) : rowB l i ≤ rowB l j := by
  induction j with
  | zero => obtain rfl : i = 0 := by omega
            exact Nat.le_refl _
  | succ j ih =>
    by_cases e : i = j + 1
    · subst e; exact Nat.le_refl _
    · have := ih (by omega) (by omega)
      have h2 := rowB_succ l j (by omega)
      omega
theorem rowB_lt (l : List ByteArray) (i j : Nat) (h : i < j) (hj : j ≤ l.length) : rowB l i + 8 ≤ rowB l j := by
  have h1 := rowB_succ l i (by omega)
  have h2 := rowB_mono l (i + 1) j (by omega) hj
  omega
theorem rowB_end (l : List ByteArray) : rowB l l.length = (rowT l).length := by unfold rowB; rw [List.take_length]
theorem rowF_get (l : List ByteArray) (n i : Nat) (h : i < (rowF l n).length) : (rowF l n)[i] = (rowB l i : Int) := by
  simp [rowF, rowB]
/-- At a number's place its frame stands. -/
theorem row_drop (l : List ByteArray) (i : Nat) (hi : i < l.length) : (rowT l).drop (rowB l i) = Frm.frame l[i].data.toList ++ rowT (l.drop (i + 1)) := by
  have e : rowT l = rowT (l.take i) ++ (Frm.frame l[i].data.toList ++ rowT (l.drop (i + 1))) := by
    rw [← rowT_cons, ← rowT_app, List.getElem_cons_drop, List.take_append_drop]
  unfold rowB
  conv => lhs; arg 2; rw [e]
  exact List.drop_left' rfl
theorem row_stands (l : List ByteArray) (i : Nat) (hi : i < l.length) (hs : l[i].size ≤ 16384) : Frm.nextAt ((rowT l).drop (rowB l i)) = some l[i].data.toList := by
  rw [row_drop l i hi, Frm.nextAt_some]
  exact ⟨by rw [len_list]; exact hs, List.prefix_append _ _⟩
theorem twos_frame (p : List UInt8) : twosOf (Frm.frame p) = 1 + twosOf (UInt8.ofNat (p.length / 256) :: UInt8.ofNat (p.length % 256) :: (p ++ (Adl.four (Adl.sum p) ++ [3]))) := by
  unfold twosOf
  rw [Frm.frame_eq, List.count_cons_self]; omega
theorem row_count (l : List ByteArray) : l.length ≤ twosOf (rowT l) := by
  induction l with
  | nil => exact Nat.zero_le _
  | cons p l ih =>
    have h := twos_frame p.data.toList
    unfold twosOf at *
    rw [rowT_cons, List.count_append, List.length_cons]
    omega
/-- Where there are no bytes 2 but the frames' first ones, a byte 2 is one of those. -/
theorem row_two (l : List ByteArray) (h : twosOf (rowT l) = l.length) (j : Nat) (hj : (rowT l)[j]? = some 2) : ∃ i, i < l.length ∧ j = rowB l i := by
  induction l generalizing j with
  | nil => simp [rowT] at hj
  | cons p l ih =>
    have h1 := twos_frame p.data.toList
    have h2 := row_count l
    have h3 : twosOf (rowT (p :: l)) = twosOf (Frm.frame p.data.toList) + twosOf (rowT l) := by unfold twosOf; rw [rowT_cons, List.count_append]
    rw [h, List.length_cons] at h3
    by_cases hlt : j < (Frm.frame p.data.toList).length
    · rw [rowT_cons, List.getElem?_append_left hlt, Frm.frame_eq] at hj
      match j, hj with
      | 0, _ => exact ⟨0, by simp, by simp [rowB, rowT]⟩
      | j + 1, hj =>
        rw [List.getElem?_cons_succ] at hj
        have hm := List.mem_of_getElem? hj
        have h4 : 0 < twosOf (UInt8.ofNat (p.data.toList.length / 256) :: UInt8.ofNat (p.data.toList.length % 256) :: (p.data.toList ++ (Adl.four (Adl.sum p.data.toList) ++ [3]))) := List.count_pos_iff.2 hm
        omega
    · rw [rowT_cons, List.getElem?_append_right (by omega)] at hj
      obtain ⟨i, hi, e⟩ := ih (by omega) _ hj
      refine ⟨i + 1, by rw [List.length_cons]; omega, ?_⟩
      unfold rowB at *
      rw [List.take_succ_cons, rowT_cons, List.length_append]
      omega
/-- How far the search has come: what is the first place so far. -/
def NearInv (n : Nat) (c : Nat → Nat) (e k m want : Nat) : Prop :=
  (want = e ∧ ∀ i, m ≤ i → i < n → c i < k) ∨ ∃ i, m ≤ i ∧ i < n ∧ want = c i ∧ k ≤ c i ∧ ∀ j, m ≤ j → j < i → c j < k
theorem NearInv.start (n : Nat) (c : Nat → Nat) (e k : Nat) : NearInv n c e k n e := .inl ⟨rfl, fun i h1 h2 => absurd h2 (by omega)⟩
theorem NearInv.hit {n : Nat} {c : Nat → Nat} {e k m : Nat} (hm : m < n) (h : k ≤ c m) : NearInv n c e k m (c m) := .inr ⟨m, Nat.le_refl _, hm, rfl, h, fun j h1 h2 => absurd h2 (by omega)⟩
theorem NearInv.miss {n : Nat} {c : Nat → Nat} {e k m want : Nat} (hm : NearInv n c e k (m + 1) want) (h : c m < k) : NearInv n c e k m want := by
  rcases hm with ⟨h1, h2⟩ | ⟨i, h1, h2, h3, h4, h5⟩
  · refine .inl ⟨h1, fun i a b => ?_⟩
    by_cases e : i = m
    · subst e; exact h
    · exact h2 i (by omega) b
  · refine .inr ⟨i, by omega, h2, h3, h4, fun j a b => ?_⟩
    by_cases e : j = m
    · subst e; exact h
    · exact h5 j (by omega) b
theorem near_done (a : ByteArray) (l : List ByteArray) (hok : rowOk l) (h0 : twosOf a.data.toList = 0) (h : twosOf (rowT l) = l.length) (k want : Nat)
    (hw : NearInv l.length (fun i => a.size + rowB l i) (a.size + (rowT l).length) k 0 want) : Frm.resync (a.data.toList ++ rowT l) k = want := by
  have hal : a.data.toList.length = a.size := by simp
  have hst : ∀ i (hi : i < l.length), Frm.nextAt ((a.data.toList ++ rowT l).drop (a.size + rowB l i)) = some l[i].data.toList := fun i hi => by
    rw [← hal, List.drop_append, List.drop_of_length_le (by omega), List.nil_append, show a.data.toList.length + rowB l i - a.data.toList.length = rowB l i from by omega]
    exact row_stands l i hi (by have := hok.2 i hi; omega)
  have hno : ∀ j, (∀ i, i < l.length → j ≠ a.size + rowB l i) → Frm.nextAt ((a.data.toList ++ rowT l).drop j) = none := fun j hj => by
    refine Frm.nextAt_bare _ fun e => ?_
    rw [List.getElem?_drop, Nat.add_zero] at e
    by_cases hlt : j < a.size
    · rw [List.getElem?_append_left (by omega)] at e
      exact absurd (List.mem_of_getElem? e) (List.count_eq_zero.1 h0)
    · rw [List.getElem?_append_right (by omega), hal] at e
      obtain ⟨i, hi, e2⟩ := row_two l h _ e
      exact hj i hi (by omega)
  have hend : ∀ i, i < l.length → rowB l i + 8 ≤ (rowT l).length := fun i hi => by rw [← rowB_end]; exact rowB_lt l i _ hi (Nat.le_refl _)
  rcases hw with ⟨rfl, h2⟩ | ⟨i, _, hi, rfl, h4, h5⟩
  · rw [Frm.resync_of_none, List.length_append, hal]
    intro j h1 _
    refine hno j fun i hi e => ?_
    have := h2 i (Nat.zero_le _) hi
    simp only at this
    omega
  · simp only at h4 h5 ⊢
    refine Frm.resync_of_found _ _ _ h4 (by rw [List.length_append, hal]; have := hend i hi; omega) (by rw [hst i hi]; rfl) fun j h1 h2 => hno j fun i' hi' e => ?_
    by_cases hlt : i' < i
    · have := h5 i' (Nat.zero_le _) hlt
      omega
    · have := rowB_mono l i i' (by omega) (by omega)
      omega
end Go.Proofs.Ytkgleilcngnpfaa
