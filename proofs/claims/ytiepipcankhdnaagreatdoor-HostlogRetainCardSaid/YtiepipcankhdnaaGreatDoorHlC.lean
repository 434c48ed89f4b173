/- A host's log on a disk that does not fail and has room; the chapter's log: plainly. No program in sight. -/
import Derived.Test.YtiepipcankhdnaaGreatDoorJ5
namespace Go.Proofs.YtiepipcankhdnaaGreatDoor
set_option linter.unusedSimpArgs false
set_option linter.unusedVariables false
open Dsk

section
variable {d : Dk} {l : List Sg} {s : Nat} {st : Int} {dr : Files}
/-- There is room for a record more. -/
def Room (d : Dk) (l : List Sg) (dr : Files) : Prop := l.length + dr.length < 1024 ∧ (sgT (recs l)).length + total dr + 120 ≤ d.room
theorem Room.not (h : Room d l dr) : ¬ NoRoom d l dr := by
  unfold Room at h
  unfold NoRoom
  omega
theorem app_calm (h : LSt d l [] s dr) (hoff : d.off = false) (hf : d.fail = none) (hr : Room d l dr) (hb : nextOf l ≤ 999999999) (x : Sp.Span) (hx : Sp.May x) :
    ∃ d' s', appP d ⟨st, false, l⟩ x = (0, ⟨st, false, pushed l x⟩, d') ∧ Kept d d' ∧ LSt d' (pushed l x) [] s' dr ∧ KR l s (pushed l x) s' ∧ (s' = s ∨ s' = 0) := by
  rcases app_out (st := st) h hoff hb x hx with ⟨_, _, _, _, _, _, e⟩ | e | ⟨_, _, e⟩
  · exact absurd e hr.not
  · exact e
  · exact absurd hf e.1
theorem sync_calm (h : LSt d l [] s dr) (hoff : d.off = false) (hf : d.fail = none) :
    ∃ d', syncP d ⟨st, false, l⟩ = (0, ⟨st, false, l⟩, d') ∧ Kept d d' ∧ LSt d' l [] (lastT l).length dr ∧ KR l s l (lastT l).length := by
  rcases sync_out (st := st) h hoff with e | ⟨_, _, e⟩
  · exact e
  · exact absurd hf e.1
theorem rot_calm (h : LSt d l [] s dr) (hoff : d.off = false) (hf : d.fail = none) (hr : Room d l dr) (hb : nextOf l ≤ 999999999) :
    ∃ d' s', rotP d ⟨st, false, l⟩ = (0, ⟨st, false, turned l⟩, d') ∧ Kept d d' ∧ LSt d' (turned l) [] s' dr ∧ KR l s (turned l) s' ∧ (s' = s ∨ s' = 0) := by
  rcases rot_out (st := st) h hoff hb with ⟨_, _, _, _, _, _, e⟩ | e | ⟨_, _, e⟩
  · exact absurd e hr.not
  · exact e
  · exact absurd hf e.1
theorem ret_calm (h : LSt d l [] s dr) (hoff : d.off = false) (hf : d.fail = none) (n : Int) (hn : 1 ≤ n) :
    ∃ d', retP n d ⟨st, false, l⟩ = (0, ⟨st, false, l.drop (l.length - n.toNat)⟩, d') ∧ Kept d d' ∧ LSt d' (l.drop (l.length - n.toNat)) [] s dr ∧ KR l s (l.drop (l.length - n.toNat)) s ∧ sureOf (l.drop (l.length - n.toNat)) s = sureOf l s := by
  rcases ret_out (st := st) h hoff n hn with e | ⟨_, _, _, e⟩
  · exact e
  · exact absurd hf e.1
theorem recs_turned (l : List Sg) : recs (turned l) = recs l ∧ firstOf (turned l) = firstOf l ∧ nextOf (turned l) = nextOf l ∧ (turned l).length ≤ l.length + 1 ∧ l.length ≤ (turned l).length := by
  unfold turned
  rcases List.eq_nil_or_concat l with rfl | ⟨init, a, rfl⟩
  · exact ⟨rfl, rfl, rfl, by simp, by simp⟩
  · rw [List.concat_eq_append, getLast_snoc]
    simp only
    split
    · exact ⟨rfl, rfl, rfl, by omega, by omega⟩
    · refine ⟨by rw [recs_snoc]; simp, by cases init <;> rfl, ?_, by simp, by simp⟩
      rw [nextOf_snoc, nextOf_snoc]
      simp [Sg.next]
theorem next_pushed {x : Sp.Span} (h : Chained l) (hp : Chained (pushed l x)) : nextOf (pushed l x) = nextOf l + 1 := by
  rw [nextOf_recs hp, nextOf_recs h, first_pushed, recs_pushed, List.length_append, List.length_singleton]
  omega
/-- The names of a log's files. -/
theorem rising_eq : ∀ {a b : Files}, Rising a → Rising b → a.Perm b → a = b
  | [], b, _, _, h => (List.nil_perm.1 h).symm
  | p :: a, [], _, _, h => absurd h.length_eq (by simp)
  | p :: a, q :: b, ha, hb, h => by
    obtain ⟨a1, a2⟩ := List.pairwise_cons.1 ha
    obtain ⟨b1, b2⟩ := List.pairwise_cons.1 hb
    have hpq : p = q := by
      rcases List.mem_cons.1 (h.mem_iff.1 (List.mem_cons_self (a := p) (l := a))) with e | e
      · exact e
      · rcases List.mem_cons.1 (h.mem_iff.2 (List.mem_cons_self (a := q) (l := b))) with e2 | e2
        · exact e2.symm
        · have h1 := b1 p e
          have h2 := a1 q e2
          have := before_trans h1 h2
          rw [before_irrefl] at this
          cases this
    subst hpq
    rw [rising_eq a2 b2 h.cons_inv]
theorem names_two {a b : Sg} (h : LSt d [a, b] [] s []) (hlt : bytesBefore (ln a.first) (ln b.first) = true) : names d.files = [ln a.first, ln b.first] := by
  have hp := h.perm (init := [a]) (a := b)
  have hr : Rising ([a].map full ++ lastF b [] s :: []) := List.pairwise_cons.2 ⟨fun q hq => by
    obtain rfl : q = lastF b [] s := by simpa using hq
    exact hlt, List.pairwise_singleton _ _⟩
  rw [rising_eq h.ok.rising hr hp]
  rfl
end
/-! ### the chapter's log -/
def spanN (n : Nat) : Sp.Span := ⟨1 + (n % 7 : Nat), 1 + (n : Nat), 0, ⟨#[115]⟩, ⟨#[104]⟩, n, 0, ⟨#[]⟩⟩
theorem spanN_may {n : Nat} (h : n ≤ 1000000) : Sp.May (spanN n) := by
  have h1 : Sp.NameOk ⟨#[115]⟩ := by decide
  have h2 : Sp.NameOk ⟨#[104]⟩ := by decide
  exact ⟨by simp only [spanN]; omega, by simp only [spanN]; omega, by simp only [spanN]; omega, by simp only [spanN]; omega, by simp only [spanN]; omega, h1, h2, by simp only [spanN]; decide⟩
def lsOf : Nat → List Sg
  | 0 => []
  | n + 1 => pushed (lsOf n) (spanN n)
theorem recs_lsOf : ∀ n, recs (lsOf n) = (List.range n).map spanN
  | 0 => rfl
  | n + 1 => by
    show recs (pushed (lsOf n) (spanN n)) = _
    rw [recs_pushed, recs_lsOf n, List.range_succ, List.map_append]
    rfl
theorem lsOf_len : ∀ n, (lsOf n).length ≤ n
  | 0 => Nat.le_refl _
  | n + 1 => Nat.le_trans (len_pushed (lsOf n) (spanN n)).1 (Nat.succ_le_succ (lsOf_len n))
theorem lsOf_17 : lsOf 17 = [⟨0, (List.range 16).map spanN⟩, ⟨16, [spanN 16]⟩] := by rfl
theorem recs_text {n : Nat} (h : n ≤ 1000) : (sgT (recs (lsOf n))).length ≤ 120 * n := by
  have := (sgT_len (recs (lsOf n)) fun x hx => by
    rw [recs_lsOf] at hx
    obtain ⟨i, hi, rfl⟩ := List.mem_map.1 hx
    exact spanN_may (by have := List.mem_range.1 hi; omega)).2
  rw [recs_lsOf, List.length_map, List.length_range] at this
  rw [recs_lsOf]
  exact this
end Go.Proofs.YtiepipcankhdnaaGreatDoor
