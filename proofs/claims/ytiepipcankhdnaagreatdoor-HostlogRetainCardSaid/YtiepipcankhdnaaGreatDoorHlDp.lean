/- The chapter's log, plainly: what its example comes to. No program in sight. -/
import Derived.Test.YtiepipcankhdnaaGreatDoorHlCm
namespace Go.Proofs.YtiepipcankhdnaaGreatDoor
set_option linter.unusedSimpArgs false
set_option linter.unusedVariables false
open Dsk

section
variable {d : Dk} {l : List Sg} {s R : Nat} {h : Hl}
/-- A log that runs, on a disk with so much room that does not fail. -/
structure Cm (d : Dk) (h : Hl) (R : Nat) (l : List Sg) (s : Nat) : Prop where
  off : d.off = false
  fail : d.fail = none
  room : d.room = R
  st : d.starts = h.st
  lost : h.lost = false
  segs : h.l = l
  file : LSt d l [] s []
theorem Cm.runs (c : Cm d h R l s) : h.runs d := ⟨c.lost, c.off, c.st⟩
theorem Cm.hl (c : Cm d h R l s) : h = ⟨h.st, false, l⟩ := by
  obtain ⟨st, lost, l'⟩ := h
  have h1 := c.lost
  have h2 := c.segs
  simp only at h1 h2
  rw [h1, h2]
theorem Cm.app (c : Cm d h R l s) (x : Sp.Span) (hx : Sp.May x) (h1 : l.length < 1024) (h2 : (sgT (recs l)).length + 120 ≤ R) (h3 : nextOf l ≤ 999999999) : (appP d h x).1 = 0 ∧ ∃ s', Cm (appP d h x).2.2 (appP d h x).2.1 R (pushed l x) s' ∧ (s' = s ∨ s' = 0) := by
  obtain ⟨d', s', e, ⟨e1, e2, e3, e4⟩, k2, _, k4⟩ := app_calm (st := h.st) c.file c.off c.fail ⟨by show l.length + 0 < 1024; omega, by rw [c.room]; exact h2⟩ h3 x hx
  rw [← c.hl] at e
  rw [e]
  exact ⟨rfl, s', ⟨e1.trans c.off, e4 c.fail, e3.trans c.room, e2.trans c.st, rfl, rfl, k2⟩, k4⟩
theorem Cm.sync (c : Cm d h R l s) : (syncP d h).1 = 0 ∧ Cm (syncP d h).2.2 (syncP d h).2.1 R l (lastT l).length := by
  obtain ⟨d', e, ⟨e1, e2, e3, e4⟩, k2, _⟩ := sync_calm (st := h.st) c.file c.off c.fail
  rw [← c.hl] at e
  rw [e]
  exact ⟨rfl, e1.trans c.off, e4 c.fail, e3.trans c.room, e2.trans c.st, c.lost, c.segs, k2⟩
theorem Cm.rot (c : Cm d h R l s) (h1 : l.length < 1024) (h2 : (sgT (recs l)).length + 120 ≤ R) (h3 : nextOf l ≤ 999999999) : (rotP d h).1 = 0 ∧ ∃ s', Cm (rotP d h).2.2 (rotP d h).2.1 R (turned l) s' := by
  obtain ⟨d', s', e, ⟨e1, e2, e3, e4⟩, k2, _⟩ := rot_calm (st := h.st) c.file c.off c.fail ⟨by show l.length + 0 < 1024; omega, by rw [c.room]; exact h2⟩ h3
  rw [← c.hl] at e
  rw [e]
  exact ⟨rfl, s', ⟨e1.trans c.off, e4 c.fail, e3.trans c.room, e2.trans c.st, rfl, rfl, k2⟩⟩
theorem Cm.ret (c : Cm d h R l s) (n : Int) (hn : 1 ≤ n) : (retP n d h).1 = 0 ∧ Cm (retP n d h).2.2 (retP n d h).2.1 R (l.drop (l.length - n.toNat)) s := by
  obtain ⟨d', e, ⟨e1, e2, e3, e4⟩, k2, _⟩ := ret_calm (st := h.st) c.file c.off c.fail n hn
  rw [← c.hl] at e
  rw [e]
  exact ⟨rfl, ⟨e1.trans c.off, e4 c.fail, e3.trans c.room, e2.trans c.st, rfl, rfl, k2⟩⟩
theorem Cm.sure (c : Cm d h R l s) : sureL d h.l 0 = sureOf l s := by rw [c.segs]; exact c.file.sureL 0 fun _ => rfl
/-- Bounds of a log's segments. -/
theorem Cm.next_eq (c : Cm d h R l s) : nextOf l = firstOf l + (recs l).length := nextOf_recs c.file.sgs.chain
theorem cm_new {c : Nat} (h1 : 1 ≤ c) (h2 : c ≤ 1048576) : Cm (Dk.new c) ⟨0, false, []⟩ c [] 0 := ⟨rfl, rfl, rfl, rfl, rfl, rfl, LSt.new h1 h2⟩
theorem first_lsOf : ∀ n, firstOf (lsOf n) = 0
  | 0 => rfl
  | n + 1 => by
    show firstOf (pushed (lsOf n) (spanN n)) = 0
    rw [first_pushed]
    exact first_lsOf n
/-- Behind so many records. -/
theorem ex_app {n : Nat} (hn : n < 17) (c : Cm d h 5000 (lsOf n) 0) : (appP d h (spanN n)).1 = 0 ∧ Cm (appP d h (spanN n)).2.2 (appP d h (spanN n)).2.1 5000 (lsOf (n + 1)) 0 := by
  have h1 := recs_text (n := n) (by omega)
  have h2 := lsOf_len n
  have h3 := c.next_eq
  rw [first_lsOf, recs_lsOf, List.length_map, List.length_range] at h3
  obtain ⟨e, s', k1, k2⟩ := c.app (spanN n) (spanN_may (by omega)) (by omega) (by omega) (by omega)
  obtain rfl : s' = 0 := by omega
  exact ⟨e, k1⟩
theorem ex_names {s : Nat} {d : Dk} {h : Hl} (c : Cm d h 5000 (lsOf 17) s) : names d.files = [ln 0, ln 16] := by
  have := c.file
  rw [lsOf_17] at this
  exact names_two this (by decide +kernel)
theorem ex_sure (c : Cm d h 5000 (lsOf 17) 0) : sureL d h.l 0 = 16 := by
  rw [c.sure, lsOf_17]
  show (16 : Nat) + sureN [spanN 16] 0 = 16
  have : sureN [spanN 16] 0 = 0 := sureN_eq (Nat.zero_le _) (by simp [sgT]) (fun _ => by
    have := (frm_len (spanN_may (n := 16) (by omega))).1
    rw [show ([spanN 16] : List Sp.Span).take (0 + 1) = [spanN 16] from rfl, sgT_one]
    omega)
  omega
theorem ex_next : nextOf (lsOf 17) = 17 := by rw [lsOf_17]; rfl
theorem ex_read (c : Cm d h 5000 (lsOf 17) 0) : readP d h 15 9 = ([spanN 15], 16, 0) := by
  unfold readP
  rw [if_neg (fun e => e c.runs), if_neg (by omega), ex_sure c, c.segs, first_lsOf, if_neg (by omega)]
  have e := rd_law (l := lsOf 17) c.file.sgs.chain 15 16 9 (by rw [first_lsOf]; omega)
  rw [first_lsOf, recs_lsOf] at e
  have e2 : ((((List.range 17).map spanN).take (16 - 0)).drop (15 - 0)).take 9 = [spanN 15] := rfl
  rw [e2] at e
  have e3 : rdL 15 ((16 : Nat) : Int) 9 (numbered (lsOf 17)) = [spanN 15] := e
  rw [e3]
  rfl
theorem ex_read2 (c : Cm d h 5000 (lsOf 17) 0) : readP d h 17 1 = ([], 0, 4) := by
  unfold readP
  rw [if_neg (fun e => e c.runs), if_neg (by omega), ex_sure c, if_pos (by omega)]
/-- Synced, rotated twice, and two segments retained. -/
theorem ex_rot {s : Nat} (c : Cm d h 5000 (lsOf 17) s) : (rotP d h).1 = 0 ∧ ∃ s', Cm (rotP d h).2.2 (rotP d h).2.1 5000 (lsOf 17 ++ [⟨17, []⟩]) s' := by
  have h1 := recs_text (n := 17) (by omega)
  obtain ⟨e, s', k⟩ := c.rot (by rw [lsOf_17]; decide) (by omega) (by rw [ex_next]; omega)
  refine ⟨e, s', ?_⟩
  have e2 : turned (lsOf 17) = lsOf 17 ++ [⟨17, []⟩] := by rw [lsOf_17]; rfl
  rw [e2] at k
  exact k
theorem ex_rot2 {s : Nat} (c : Cm d h 5000 (lsOf 17 ++ [⟨17, []⟩]) s) : rotP d h = (0, h, d) := by
  unfold rotP
  rw [c.segs, getLast_snoc]
  rfl
theorem ex_ret {s : Nat} (c : Cm d h 5000 (lsOf 17 ++ [⟨17, []⟩]) s) : (retP 2 d h).1 = 0 ∧ ∃ s', Cm (retP 2 d h).2.2 (retP 2 d h).2.1 5000 [⟨16, [spanN 16]⟩, ⟨17, []⟩] s' := by
  obtain ⟨e, k⟩ := c.ret 2 (by omega)
  refine ⟨e, s, ?_⟩
  have e2 : (lsOf 17 ++ [(⟨17, []⟩ : Sg)]).drop ((lsOf 17 ++ [(⟨17, []⟩ : Sg)]).length - (2 : Int).toNat) = [⟨16, [spanN 16]⟩, ⟨17, []⟩] := by rw [lsOf_17]; rfl
  rw [e2] at k
  exact k
theorem ex_names2 {s : Nat} (c : Cm d h 5000 [⟨16, [spanN 16]⟩, ⟨17, []⟩] s) : names d.files = [ln 16, ln 17] := names_two c.file (by decide +kernel)
end
end Go.Proofs.YtiepipcankhdnaaGreatDoor
