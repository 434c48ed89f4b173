/- The document's answer on edits, plainly: what differs from the program's. No program in sight. -/
import Derived.Test.YtenbgfejonokdaaEdPlain
namespace Go.Proofs.Ytenbgfejonokdaa.Ed
set_option linter.unusedSimpArgs false
set_option linter.unusedVariables false
open Go

/-- The next number behind a swap, file by file. -/
def nextR (next : Int) (files : List Int) : Int := files.foldl (fun m f => max m (RowKit.wrap64 (f + 1))) next
theorem wrap64_id {n : Int} (h : -9223372036854775808 ≤ n ∧ n ≤ 9223372036854775807) : RowKit.wrap64 n = n := by unfold RowKit.wrap64; omega
theorem nextR_ge : ∀ (files : List Int) (next : Int), next ≤ nextR next files
  | [], next => Int.le_refl _
  | f :: l, next => Int.le_trans (Int.le_max_left _ _) (nextR_ge l _)
theorem nextR_rising : ∀ (files : List Int) (next b : Int), b ≤ 2147483647 → (∀ n ∈ files, 1 ≤ n ∧ n < b) → files.Pairwise (· < ·) →
    nextR next files = match files.getLast? with | none => next | some k => max next (RowKit.wrap64 (k + 1))
  | [], _, _, _, _, _ => rfl
  | [f], next, b, _, _, _ => rfl
  | f :: g :: l, next, b, hb, h1, h2 => by
    have hf := h1 f List.mem_cons_self
    have hg := h1 g (List.mem_cons_of_mem _ List.mem_cons_self)
    have h2' := List.pairwise_cons.1 h2
    have hfg := h2'.1 g List.mem_cons_self
    show nextR (max next (RowKit.wrap64 (f + 1))) (g :: l) = _
    rw [nextR_rising (g :: l) _ b hb (fun n hn => h1 n (List.mem_cons_of_mem _ hn)) h2'.2]
    have e : (f :: g :: l).getLast? = (g :: l).getLast? := by simp [List.getLast?_cons]
    rw [e]
    cases hl : (g :: l).getLast? with
    | none => simp at hl
    | some k =>
      have hk : k ∈ g :: l := List.mem_of_getLast? hl
      have h3 := h2'.1 k hk
      have h4 := h1 k (List.mem_cons_of_mem _ hk)
      simp only
      rw [wrap64_id (by omega), wrap64_id (by omega)]
      omega
open Classical in
/-- What an edit makes of a state, by the document. -/
noncomputable def doesR (s : St) (e : Edit) : Option St :=
  if e.kind = 2 then (if h : 0 ≤ e.at_ ∧ e.at_ < s.l.length then if ∀ n ∈ e.files, n < s.next → n ∈ (s.l[e.at_.toNat]'(by omega)).tabs then some ⟨s.l.set e.at_.toNat ⟨(s.l[e.at_.toNat]'(by omega)).frm, e.files⟩, s.log, nextR s.next e.files⟩ else none else none)
  else doesP s e
theorem rising_of {l : List Tab} {i : Nat} (hi : i < l.length) {f : ByteArray} {files : List Int} {log next : Int} (h : Valid ⟨l.set i ⟨f, files⟩, log, next⟩) : next ≤ 2147483647 ∧ (∀ n ∈ files, 1 ≤ n ∧ n < next) ∧ files.Pairwise (· < ·) := by
  have h1 := (h.each i (by simpa using hi)).2.2.1
  simp only [List.getElem_set_self] at h1
  have h2 := (rising_iff _ _).1 h1
  exact ⟨h.next, h2.1, h2.2⟩
open Classical in
/-- If the outcome is looked at, it's the same. -/
theorem applyR (s : St) (e : Edit) : applyP s e = if Valid s ∧ 0 ≤ e.file ∧ e.file < 2147483647 then (match doesR s e with | some s' => if Valid s' then some s' else none | none => none) else none := by
  unfold applyP
  by_cases hv : Valid s ∧ 0 ≤ e.file ∧ e.file < 2147483647
  case neg => rw [if_neg hv, if_neg hv]
  rw [if_pos hv, if_pos hv]
  by_cases hk : e.kind = 2
  case neg => unfold doesR; rw [if_neg hk]; cases doesP s e <;> rfl
  by_cases hr : 0 ≤ e.at_ ∧ e.at_ < s.l.length
  case neg =>
    have e1 : doesP s e = none := by unfold doesP; rw [if_neg (by omega), dif_neg hr]
    have e2 : doesR s e = none := by unfold doesR; rw [if_pos hk, dif_neg hr]
    rw [e1, e2]
  have hi : e.at_.toNat < s.l.length := by omega
  by_cases hall : ∀ n ∈ e.files, n < s.next → n ∈ (s.l[e.at_.toNat]'hi).tabs
  case neg =>
    have e1 : doesP s e = none := by unfold doesP; rw [if_neg (by omega), dif_pos hr, if_neg (by omega), if_pos hk, if_neg hall]
    have e2 : doesR s e = none := by unfold doesR; rw [if_pos hk, dif_pos hr, if_neg hall]
    rw [e1, e2]
  have e1 : doesP s e = some ⟨s.l.set e.at_.toNat ⟨(s.l[e.at_.toNat]'hi).frm, e.files⟩, s.log, match e.files.getLast? with | none => s.next | some k => max s.next (RowKit.wrap64 (k + 1))⟩ := by
    unfold doesP; rw [if_neg (by omega), dif_pos hr, if_neg (by omega), if_pos hk, if_pos hall]; rfl
  have e2 : doesR s e = some ⟨s.l.set e.at_.toNat ⟨(s.l[e.at_.toNat]'hi).frm, e.files⟩, s.log, nextR s.next e.files⟩ := by
    unfold doesR; rw [if_pos hk, dif_pos hr, if_pos hall]
  rw [e1, e2]
  simp only
  obtain ⟨A, hA⟩ : ∃ A, A = (match e.files.getLast? with | none => s.next | some k => max s.next (RowKit.wrap64 (k + 1))) := ⟨_, rfl⟩
  rw [← hA]
  by_cases h1 : Valid ⟨s.l.set e.at_.toNat ⟨(s.l[e.at_.toNat]'hi).frm, e.files⟩, s.log, A⟩
  · obtain ⟨g1, g2, g3⟩ := rising_of hi h1
    have := nextR_rising e.files s.next A g1 g2 g3
    rw [this.trans hA.symm]
  · rw [if_neg h1]
    by_cases h2 : Valid ⟨s.l.set e.at_.toNat ⟨(s.l[e.at_.toNat]'hi).frm, e.files⟩, s.log, nextR s.next e.files⟩
    · obtain ⟨g1, g2, g3⟩ := rising_of hi h2
      have := nextR_rising e.files s.next _ g1 g2 g3
      rw [this.trans hA.symm] at h2
      exact absurd h2 h1
    · rw [if_neg h2]
end Go.Proofs.Ytenbgfejonokdaa.Ed
