/- A disk of a cursor's file and its draft: what a save comes to, wherever the disk fails. No program in sight. -/
import Derived.Test.YtenbgfejonokdaaSave
namespace Go.Proofs.Ytenbgfejonokdaa
open Dsk

/-- The cursor's file, all of it safe. -/
def cp : Option Str → Files
  | none => []
  | some E => [(curN, ⟨E, E.length⟩)]
/-- The draft. -/
def dp : Option Fl → Files
  | none => []
  | some f => [(draN, f)]
def tn (R : Nat) (s : Int) (off : Bool) (C : Option Str) (D : Option Fl) (fl : Option Int) (keep : List Int) : Dk := ⟨R, s, off, cp C ++ dp D, fl, keep⟩
theorem tn_new (R : Nat) : Dk.new R = tn R 0 false none none none [] := rfl
theorem cutF_safe (E : Str) (k : Option Int) : cutF ⟨E, E.length⟩ k = ⟨E, E.length⟩ := by
  have e : stays ⟨E, E.length⟩ k = E.length := by unfold stays; simp only; omega
  unfold cutF
  rw [e]
  simp
theorem tn_crashed (R : Nat) (s : Int) (off : Bool) (C : Option Str) (D : Option Fl) (fl : Option Int) (keep keep' : List Int) : ∃ D', (tn R s off C D fl keep).crashed keep' = tn R s true C D' none keep := by
  cases C with
  | none =>
    cases D with
    | none => exact ⟨none, rfl⟩
    | some f => exact ⟨some (cutF f keep'[0]?), rfl⟩
  | some E =>
    cases D with
    | none =>
      refine ⟨none, ?_⟩
      show Dk.mk R s true [(curN, cutF ⟨E, E.length⟩ keep'[0]?)] none keep = _
      rw [cutF_safe]; rfl
    | some f =>
      refine ⟨some (cutF f keep'[1]?), ?_⟩
      show Dk.mk R s true [(curN, cutF ⟨E, E.length⟩ keep'[0]?), (draN, cutF f keep'[1]?)] none keep = _
      rw [cutF_safe]; rfl
/-- What a change comes to. -/
theorem tn_change (R : Nat) (s : Int) (C C' : Option Str) (D D' : Option Fl) (fl : Option Int) (keep : List Int) :
    (∃ fl', (fl = none → fl' = none) ∧ (tn R s false C D fl keep).change (cp C' ++ dp D') = (0, tn R s false C' D' fl' keep)) ∨ (fl ≠ none ∧ ∃ D2, (tn R s false C D fl keep).change (cp C' ++ dp D') = (51, tn R s true C D2 none keep)) := by
  cases fl with
  | none => exact .inl ⟨none, fun _ => rfl, rfl⟩
  | some n =>
    by_cases hn : n ≤ 0
    · obtain ⟨D2, h⟩ := tn_crashed R s false C D (some n) keep keep
      refine .inr ⟨by simp, D2, ?_⟩
      show (if n ≤ 0 then _ else _) = _
      rw [if_pos hn]
      exact congrArg (fun x => ((51 : Int), x)) h
    · refine .inl ⟨some (n - 1), fun e => (by cases e), ?_⟩
      show (if n ≤ 0 then _ else _) = _
      rw [if_neg hn]; rfl
theorem tn_remove (R : Nat) (s : Int) (C : Option Str) (D : Option Fl) (fl : Option Int) (keep : List Int) :
    (∃ e fl', (e = 0 ∨ e = 4) ∧ (fl = none → fl' = none) ∧ (tn R s false C D fl keep).remove draN = (e, tn R s false C none fl' keep)) ∨ (fl ≠ none ∧ ∃ D2, (tn R s false C D fl keep).remove draN = (51, tn R s true C D2 none keep)) := by
  cases D with
  | none => exact .inl ⟨4, fl, .inr rfl, id, by cases C <;> rfl⟩
  | some f =>
    have e : (tn R s false C (some f) fl keep).remove draN = (tn R s false C (some f) fl keep).change (cp C ++ dp none) := by cases C <;> rfl
    rw [e]
    rcases tn_change R s C C (some f) none fl keep with ⟨fl', h1, h2⟩ | h
    · exact .inl ⟨0, fl', .inl rfl, h1, h2⟩
    · exact .inr h
theorem tn_append (R : Nat) (s : Int) (C : Option Str) (fl : Option Int) (keep : List Int) (E : Str) (hR : 100 ≤ R) (hC : ∀ x, C = some x → x.length ≤ 19) (hE : E.length ≤ 19) :
    (∃ fl', (fl = none → fl' = none) ∧ (tn R s false C none fl keep).append draN E = (0, tn R s false C (some ⟨E, 0⟩) fl' keep)) ∨ (fl ≠ none ∧ ∃ D2, (tn R s false C none fl keep).append draN E = (51, tn R s true C D2 none keep)) := by
  have e : (tn R s false C none fl keep).append draN E = (tn R s false C (some ⟨E, 0⟩) fl keep).change (cp C ++ dp (some ⟨E, 0⟩)) := by
    have hnf : ¬ ((get (tn R s false C none fl keep).files draN = none ∧ 1024 ≤ (tn R s false C none fl keep).files.length) ∨ (tn R s false C none fl keep).room < total (tn R s false C none fl keep).files + E.length) := by
      cases C with
      | none => show ¬ ((_ ∧ 1024 ≤ 0) ∨ R < 0 + E.length); omega
      | some x =>
        have := hC x rfl
        show ¬ ((_ ∧ 1024 ≤ 1) ∨ R < (x.length + 0) + E.length)
        omega
    unfold Dk.append
    rw [if_neg (show ¬ (tn R s false C none fl keep).off = true from fun e => by cases e), if_neg (show ¬ ¬ Named draN by decide), if_neg hnf]
    cases C <;> rfl
  rw [e]
  rcases tn_change R s C C (some ⟨E, 0⟩) (some ⟨E, 0⟩) fl keep with ⟨fl', h1, h2⟩ | h
  · exact .inl ⟨fl', h1, h2⟩
  · exact .inr h
theorem tn_sync (R : Nat) (s : Int) (C : Option Str) (fl : Option Int) (keep : List Int) (E : Str) :
    (∃ fl', (fl = none → fl' = none) ∧ (tn R s false C (some ⟨E, 0⟩) fl keep).sync draN = (0, tn R s false C (some ⟨E, E.length⟩) fl' keep)) ∨ (fl ≠ none ∧ ∃ D2, (tn R s false C (some ⟨E, 0⟩) fl keep).sync draN = (51, tn R s true C D2 none keep)) := by
  have e : (tn R s false C (some ⟨E, 0⟩) fl keep).sync draN = (tn R s false C (some ⟨E, 0⟩) fl keep).change (cp C ++ dp (some ⟨E, E.length⟩)) := by cases C <;> rfl
  rw [e]
  exact tn_change R s C C (some ⟨E, 0⟩) (some ⟨E, E.length⟩) fl keep
theorem tn_rename (R : Nat) (s : Int) (C : Option Str) (fl : Option Int) (keep : List Int) (E : Str) :
    (∃ fl', (fl = none → fl' = none) ∧ (tn R s false C (some ⟨E, E.length⟩) fl keep).rename draN curN = (0, tn R s false (some E) none fl' keep)) ∨ (fl ≠ none ∧ ∃ D2, (tn R s false C (some ⟨E, E.length⟩) fl keep).rename draN curN = (51, tn R s true C D2 none keep)) := by
  have e : (tn R s false C (some ⟨E, E.length⟩) fl keep).rename draN curN = (tn R s false C (some ⟨E, E.length⟩) fl keep).change (cp (some E) ++ dp none) := by cases C <;> rfl
  rw [e]
  exact tn_change R s C (some E) (some ⟨E, E.length⟩) none fl keep
/-- What a save comes to. -/
theorem tn_save (R : Nat) (s : Int) (C : Option Str) (D : Option Fl) (fl : Option Int) (keep : List Int) (a b : Int) (hR : 100 ≤ R) (hC : ∀ x, C = some x → x.length ≤ 19) (hm : Cur.May a b) :
    (∃ fl', (fl = none → fl' = none) ∧ saveD (tn R s false C D fl keep) a b = (0, tn R s false (some (Cur.enc a b).1) none fl' keep)) ∨ (fl ≠ none ∧ ∃ D2, saveD (tn R s false C D fl keep) a b = (51, tn R s true C D2 none keep)) := by
  have hE := Cur.enc_length a b
  unfold saveD
  rw [if_neg (show ¬ (tn R s false C D fl keep).off = true from fun e => by cases e), if_neg (show ¬ ¬ Cur.May a b from fun h => h hm)]
  rcases tn_remove R s C D fl keep with ⟨e0, f1, h0, hf1, h1⟩ | ⟨hf, D2, h1⟩
  · rw [h1]
    simp only
    rw [if_neg (show ¬ (e0 ≠ 0 ∧ e0 ≠ 4) by omega)]
    rcases tn_append R s C f1 keep (Cur.enc a b).1 hR hC hE with ⟨f2, hf2, h2⟩ | ⟨hf, D2, h2⟩
    · rw [h2]
      simp only
      rw [if_neg (show ¬ (0 : Int) ≠ 0 by omega)]
      rcases tn_sync R s C f2 keep (Cur.enc a b).1 with ⟨f3, hf3, h3⟩ | ⟨hf, D2, h3⟩
      · rw [h3]
        simp only
        rw [if_neg (show ¬ (0 : Int) ≠ 0 by omega)]
        rcases tn_rename R s C f3 keep (Cur.enc a b).1 with ⟨f4, hf4, h4⟩ | ⟨hf, D2, h4⟩
        · exact .inl ⟨f4, fun e => hf4 (hf3 (hf2 (hf1 e))), h4⟩
        · exact .inr ⟨fun e => hf (hf3 (hf2 (hf1 e))), D2, h4⟩
      · rw [h3]
        simp only
        rw [if_pos (show (51 : Int) ≠ 0 by omega)]
        exact .inr ⟨fun e => hf (hf2 (hf1 e)), D2, rfl⟩
    · rw [h2]
      simp only
      rw [if_pos (show (51 : Int) ≠ 0 by omega)]
      exact .inr ⟨fun e => hf (hf1 e), D2, rfl⟩
  · rw [h1]
    simp only
    rw [if_pos (show (51 : Int) ≠ 0 ∧ (51 : Int) ≠ 4 by omega)]
    exact .inr ⟨hf, D2, rfl⟩
theorem tn_save_not (R : Nat) (s : Int) (C : Option Str) (D : Option Fl) (fl : Option Int) (keep : List Int) (a b : Int) (hm : ¬ Cur.May a b) : saveD (tn R s false C D fl keep) a b = (2, tn R s false C D fl keep) := by
  unfold saveD
  rw [if_neg (show ¬ (tn R s false C D fl keep).off = true from fun e => by cases e), if_pos hm]
/-- Which cursor such a file has. -/
def CL (C : Option Str) (c : Int × Int) : Prop := match C with | none => c = (0, 0) | some E => E = (Cur.enc c.1 c.2).1 ∧ Cur.May c.1 c.2
theorem CL.len {C : Option Str} {c : Int × Int} (h : CL C c) : ∀ x, C = some x → x.length ≤ 19 := by
  intro x hx
  subst hx
  rw [show x = _ from h.1]
  exact Cur.enc_length _ _
theorem tn_load (R : Nat) (s : Int) (C : Option Str) (D : Option Fl) (fl : Option Int) (keep : List Int) (c : Int × Int) (h : CL C c) : loadD (tn R s false C D fl keep) = (c, 0) := by
  cases C with
  | none =>
    have e : (tn R s false none D fl keep).read curN = ([], 4) := by cases D <;> rfl
    unfold loadD
    rw [e]
    rw [show c = (0, 0) from h]
    rfl
  | some E =>
    have e : (tn R s false (some E) D fl keep).read curN = (E, 0) := by cases D <;> rfl
    unfold loadD
    rw [e]
    simp only
    rw [if_neg (show ¬ (0 : Int) = 4 by omega), show E = _ from h.1, Cur.dec_enc h.2]
    rfl
theorem tn_start (R : Nat) (s : Int) (C : Option Str) (D : Option Fl) (fl : Option Int) (keep : List Int) : (tn R s true C D fl keep).start = (0, tn R (IntKind.i64.wrap (s + 1)) false C D fl keep) := rfl
theorem tn_crash (R : Nat) (s : Int) (C : Option Str) (D : Option Fl) (fl : Option Int) (keep keep' : List Int) : ∃ D', (tn R s false C D fl keep).crash keep' = (0, tn R s true C D' none keep) := by
  obtain ⟨D', h⟩ := tn_crashed R s false C D fl keep keep'
  exact ⟨D', by rw [← h]; rfl⟩
theorem tn_fail (R : Nat) (s : Int) (C : Option Str) (D : Option Fl) (fl : Option Int) (keep keep' : List Int) (n : Int) : ∃ e fl' k', (tn R s false C D fl keep).failAt n keep' = (e, tn R s false C D fl' k') := by
  by_cases hn : n < 0
  · refine ⟨2, fl, keep, ?_⟩
    unfold Dk.failAt
    rw [if_neg (show ¬ (tn R s false C D fl keep).off = true from fun e => by cases e), if_pos hn]
  · refine ⟨0, some n, keep', ?_⟩
    unfold Dk.failAt
    rw [if_neg (show ¬ (tn R s false C D fl keep).off = true from fun e => by cases e), if_neg hn]
    rfl
end Go.Proofs.Ytenbgfejonokdaa
