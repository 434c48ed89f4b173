/- A host's log of which segments were thrown away, plainly. No program in sight. -/
import Derived.Test.YtiepipcankhdnaaGreatDoorHlDp
namespace Go.Proofs.YtiepipcankhdnaaGreatDoor
set_option linter.unusedSimpArgs false
set_option linter.unusedVariables false
open Dsk

section
variable {d : Dk} {l : List Sg} {s k : Nat} {h : Hl} {rs : List Sp.Span}
theorem drop_first (hc : Chained l) (h0 : firstOf l = 0) (j : Nat) (hj : j < l.length) : firstOf (l.drop j) = (recs (l.take j)).length ∧ recs l = recs (l.take j) ++ recs (l.drop j) := by
  have e1 : recs l = recs (l.take j) ++ recs (l.drop j) := by
    unfold recs
    rw [← List.flatMap_append, List.take_append_drop]
  refine ⟨?_, e1⟩
  have e2 : l.take (j + 1) = l.take j ++ [l[j]] := List.take_succ_eq_append_getElem hj
  have hc2 : Chained (l.take j ++ [l[j]]) := by
    rw [← e2]
    refine chained_front _ (l.drop (j + 1)) ?_
    rw [List.take_append_drop]
    exact hc
  have h1 := first_recs _ _ hc2
  have h2 : firstOf (l.take j ++ [l[j]]) = 0 := by
    rw [← e2]
    cases l with
    | nil => simp at hj
    | cons a r => exact h0
  rw [h2, Nat.zero_add] at h1
  rw [List.drop_eq_getElem_cons hj]
  exact h1
theorem drop_recs (hc : Chained l) (h0 : firstOf l = 0) (j : Nat) (hj : j < l.length) : recs (l.drop j) = (recs l).drop (firstOf (l.drop j)) ∧ firstOf (l.drop j) + (recs (l.drop j)).length = (recs l).length := by
  obtain ⟨e1, e2⟩ := drop_first hc h0 j hj
  rw [e1, e2, List.drop_left, List.length_append]
  exact ⟨rfl, rfl⟩
/-- Behind a Retain of a log whose records are all sure. -/
structure Left (d : Dk) (h : Hl) (rs : List Sp.Span) (m f : Nat) : Prop where
  runs : h.runs d
  many : h.l.length = m
  first : firstOf h.l = f
  le : f ≤ rs.length
  recs : recs h.l = rs.drop f
  next : nextOf h.l = rs.length
  sure : sureL d h.l 0 = rs.length
  file : ∃ s, LSt d h.l [] s []
theorem Calmed.left (c : Calmed d h rs k) : Left d h rs h.l.length 0 := ⟨c.runs, rfl, c.first, Nat.zero_le _, c.recs, c.next, c.sure, _, c.all⟩
theorem Calmed.ret (c : Calmed d h rs k) (n : Int) (hn : 1 ≤ n) : (retP n d h).1 = 0 ∧ ∃ f, Left (retP n d h).2.2 (retP n d h).2.1 rs (min n.toNat h.l.length) f := by
  obtain ⟨d', e, ⟨e1, e2, e3, e4⟩, k2, _, k4⟩ := ret_calm (st := h.st) c.all c.off c.fail n hn
  rw [← c.hl] at e
  rw [e]
  obtain ⟨j, hj⟩ : ∃ j, j = h.l.length - n.toNat := ⟨_, rfl⟩
  rw [← hj] at k2 k4 ⊢
  have hsl := k2.sureL 0 (fun _ => rfl)
  rw [k4, sureOf_all c.all.sgs, c.next] at hsl
  refine ⟨rfl, firstOf (h.l.drop j), ⟨rfl, e1.trans c.off, e2.trans c.st⟩, by show (h.l.drop j).length = _; rw [List.length_drop]; omega, rfl, ?_, ?_, ?_, hsl, _, k2⟩
  · by_cases hjl : j < h.l.length
    · have := (drop_recs c.all.sgs.chain c.first j hjl).2
      rw [c.recs] at this
      omega
    · rw [List.drop_of_length_le (by omega)]; exact Nat.zero_le _
  · by_cases hjl : j < h.l.length
    · have := (drop_recs c.all.sgs.chain c.first j hjl).1
      rw [c.recs] at this
      exact this
    · have h0 : h.l = [] := List.length_eq_zero_iff.1 (by omega)
      have hr := c.recs
      rw [h0] at hr
      show recs (h.l.drop j) = rs.drop (firstOf (h.l.drop j))
      rw [h0, ← hr]
      simp [firstOf, Go.Proofs.YtiepipcankhdnaaGreatDoor.recs]
  · show nextOf (h.l.drop j) = rs.length
    by_cases hjl : j < h.l.length
    · have h1 := nextOf_recs k2.sgs.chain
      have h2 := (drop_recs c.all.sgs.chain c.first j hjl).2
      rw [c.recs] at h2
      omega
    · have h0 : h.l = [] := List.length_eq_zero_iff.1 (by omega)
      have hr := c.recs
      rw [h0] at hr
      rw [h0, ← hr]
      simp [nextOf, Go.Proofs.YtiepipcankhdnaaGreatDoor.recs]
theorem Left.read {m f : Nat} (c : Left d h rs m f) (hl : rs.length ≤ 100000) : readP d h f 100000 = (rs.drop f, (rs.length : Int), 0) := by
  obtain ⟨s, hs⟩ := c.file
  have hle := c.le
  unfold readP
  rw [if_neg (fun e => e c.runs), if_neg (by omega), c.sure, c.first, if_neg (by omega)]
  have e := rd_law (l := h.l) hs.sgs.chain f rs.length 100000 (by rw [c.first]; exact Nat.le_refl _)
  rw [c.first, c.recs, Nat.sub_self, List.drop_zero, List.take_of_length_le (l := rs.drop f) (i := rs.length - f) (by rw [List.length_drop]; omega), List.take_of_length_le (by rw [List.length_drop]; omega)] at e
  have e2 : rdL f ((rs.length : Nat) : Int) 100000 (numbered h.l) = rs.drop f := e
  rw [e2, List.length_drop]
  congr 2
  omega
theorem Left.read_ahead {m f : Nat} (c : Left d h rs m f) : readP d h ((f : Int) - 1) 1 = ([], 0, 4) := by
  unfold readP
  rw [if_neg (fun e => e c.runs), if_neg (by omega), c.first, if_pos (by omega)]
theorem Left.names {m f : Nat} (c : Left d h rs m f) : (Dsk.names d.files).length = m := by
  obtain ⟨s, hs⟩ := c.file
  have := hs.total.2
  rw [c.many] at this
  unfold Dsk.names
  rw [List.length_map]
  exact this
theorem Left.may {m f : Nat} (c : Left d h rs m f) : ∀ a ∈ h.l, ∀ x ∈ a.spans, Sp.May x := by
  obtain ⟨s, hs⟩ := c.file
  exact hs.sgs.may
theorem Left.firsts {m f : Nat} (c : Left d h rs m f) : ∀ a ∈ h.l, a.first ≤ rs.length := fun a ha => by
  obtain ⟨s, hs⟩ := c.file
  have h1 := (nextOf_above hs.sgs.chain).1 a ha
  rw [c.next] at h1
  exact h1
end
end Go.Proofs.YtiepipcankhdnaaGreatDoor
