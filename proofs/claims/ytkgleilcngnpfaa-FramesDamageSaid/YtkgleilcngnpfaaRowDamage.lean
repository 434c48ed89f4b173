/- A row of frames of which one byte is another one: plain. -/
import Derived.Test.YtkgleilcngnpfaaRowPlain
namespace Go.Proofs.Ytkgleilcngnpfaa
open Go.RowKit

theorem ofNat_inj (a b : Nat) (ha : a < 256) (hb : b < 256) (h : UInt8.ofNat a = UInt8.ofNat b) : a = b := by
  have := congrArg UInt8.toNat h
  rw [UInt8.toNat_ofNat_of_lt' (by exact ha), UInt8.toNat_ofNat_of_lt' (by exact hb)] at this
  exact this
theorem four_inj (s t : Int) (hs : 0 ≤ s ∧ s < 4294967296) (ht : 0 ≤ t ∧ t < 4294967296) (h : Adl.four s = Adl.four t) : s = t := by
  unfold Adl.four at h
  simp only [List.cons.injEq] at h
  obtain ⟨h1, h2, h3, h4, _⟩ := h
  have e1 := ofNat_inj _ _ (by omega) (by omega) h1
  have e2 := ofNat_inj _ _ (by omega) (by omega) h2
  have e3 := ofNat_inj _ _ (by omega) (by omega) h3
  have e4 := ofNat_inj _ _ (by omega) (by omega) h4
  omega
theorem set_same {α : Type} (l : List α) (i : Nat) (c : α) (hi : i < l.length) (h : l = l.set i c) : c = l[i] := by
  have h2 : (l.set i c)[i]? = l[i]? := by rw [← h]
  rw [List.getElem?_set_self hi, List.getElem?_eq_getElem hi] at h2
  exact Option.some.inj h2
/-- A frame of which one byte of the payload, or of the sum, is another one, is none. -/
theorem damaged (p rest : List UInt8) (r : Nat) (c : UInt8) (hp : p.length ≤ 16384) (hr : r < p.length + 4) (hc : c ≠ (Frm.frame p)[3 + r]'(by rw [Frm.frame_length]; omega)) :
    Frm.nextAt ((Frm.frame p).set (3 + r) c ++ rest) = none := by
  rw [Frm.nextAt_none]
  intro q hq hpre
  have hfl := Frm.frame_length p
  have hl1 : Frm.len16 ((Frm.frame p).set (3 + r) c ++ rest) = p.length := by
    have e := Frm.len16_frame p rest hp
    unfold Frm.len16 at *
    rw [List.getElem?_append_left (by rw [List.length_set]; omega), List.getElem?_append_left (by rw [List.length_set]; omega), List.getElem?_set_ne (by omega), List.getElem?_set_ne (by omega)]
    rw [List.getElem?_append_left (by omega), List.getElem?_append_left (by omega)] at e
    exact e
  obtain ⟨t, ht⟩ := hpre
  have hl2 := Frm.len16_frame q t hq
  rw [ht, hl1] at hl2
  have hqe : Frm.frame q = (Frm.frame p).set (3 + r) c := (List.append_inj ht (by rw [Frm.frame_length, List.length_set, hfl, hl2])).1
  have hqs : q ++ (Adl.four (Adl.sum q) ++ [3]) = (p ++ (Adl.four (Adl.sum p) ++ [3])).set r c := by
    have e := hqe
    rw [Frm.frame_eq q, Frm.frame_eq p, Nat.add_comm 3 r] at e
    simp only [List.set_cons_succ, List.cons.injEq] at e
    exact e.2.2.2
  have hpq : q = p → False := fun e => by
    subst e
    exact hc (set_same _ _ _ (by omega) hqe)
  by_cases h : r < p.length
  · rw [List.set_append_left _ _ h] at hqs
    obtain ⟨e1, e2⟩ := List.append_inj hqs (by rw [List.length_set, hl2])
    have e3 := (List.append_inj e2 (by rw [Frm.four_length, Frm.four_length])).1
    have e4 := four_inj _ _ (Adl.sum_in q) (Adl.sum_in p) e3
    rw [e1] at e4
    have e5 := (Adl.sum_set p r c h).1 e4
    apply hc
    rw [e5]
    have : (Frm.frame p)[3 + r]? = p[r]? := by
      rw [Frm.frame_eq, Nat.add_comm 3 r, List.getElem?_cons_succ, List.getElem?_cons_succ, List.getElem?_cons_succ, List.getElem?_append_left h]
    rw [List.getElem?_eq_getElem h, List.getElem?_eq_getElem (by omega)] at this
    exact (Option.some.inj this).symm
  · rw [List.set_append_right _ _ (by omega)] at hqs
    exact hpq (List.append_inj hqs hl2.symm).1
/-- Where the byte stands. -/
theorem damage_at (l : List ByteArray) (k r : Nat) (hk : k < l.length) (hr : r < l[k].size + 4) : rowB l k + 3 + r < (rowT l).length := by
  have h1 := rowB_succ l k hk
  have h2 := rowB_mono l (k + 1) l.length (by omega) (Nat.le_refl _)
  rw [rowB_end] at h2
  omega
theorem damage_this (l : List ByteArray) (hok : rowOk l) (k r : Nat) (hk : k < l.length) (hr : r < l[k].size + 4) (c : UInt8) (hc : c ≠ (rowT l)[rowB l k + 3 + r]'(damage_at l k r hk hr)) :
    Frm.nextAt (((rowT l).set (rowB l k + 3 + r) c).drop (rowB l k)) = none := by
  have hpl : l[k].data.toList.length = l[k].size := by simp
  have hfl := Frm.frame_length l[k].data.toList
  rw [List.drop_set, if_neg (by omega), row_drop l k hk, show rowB l k + 3 + r - rowB l k = 3 + r from by omega, List.set_append_left _ _ (by omega)]
  refine damaged _ _ _ _ (by have := hok.2 k hk; omega) (by omega) fun e => hc ?_
  rw [e]
  have h1 : (rowT l)[rowB l k + 3 + r]? = ((rowT l).drop (rowB l k))[3 + r]? := by rw [List.getElem?_drop, Nat.add_assoc]
  rw [row_drop l k hk, List.getElem?_append_left (by omega), List.getElem?_eq_getElem (damage_at l k r hk hr), List.getElem?_eq_getElem (by omega)] at h1
  exact (Option.some.inj h1).symm
theorem damage_other (l : List ByteArray) (hok : rowOk l) (k r j : Nat) (hk : k < l.length) (hr : r < l[k].size + 4) (c : UInt8) (hj : j < l.length) (hne : j ≠ k) :
    Frm.nextAt (((rowT l).set (rowB l k + 3 + r) c).drop (rowB l j)) = some l[j].data.toList := by
  have hpl : l[j].data.toList.length = l[j].size := by simp
  have hs := hok.2 j hj
  have hfl := Frm.frame_length l[j].data.toList
  rw [List.drop_set]
  by_cases hlt : k < j
  · have h1 := rowB_succ l k hk
    have h2 := rowB_mono l (k + 1) j (by omega) (by omega)
    rw [if_pos (by omega)]
    exact row_stands l j hj (by omega)
  · have h1 := rowB_succ l j hj
    have h2 := rowB_mono l (j + 1) k (by omega) (by omega)
    rw [if_neg (by omega), row_drop l j hj, List.set_append_right _ _ (by omega), Frm.nextAt_some]
    exact ⟨by omega, List.prefix_append _ _⟩
end Go.Proofs.Ytkgleilcngnpfaa
