/- What becomes of a host's log by acts on a disk that may fail, a crash at their end, and an opening behind it, plainly. No program in sight. -/
import Derived.Test.YtiepipcankhdnaaGreatDoorJ12
namespace Go.Proofs.YtiepipcankhdnaaGreatDoor
set_option linter.unusedSimpArgs false
set_option linter.unusedVariables false
open Dsk

section
variable {d d' : Dk} {l l' : List Sg} {t : Str} {s s' k : Nat} {h h' : Hl}
/-- Behind k acts: the log runs, or its disk fell. -/
structure TwP (d : Dk) (h : Hl) (k : Nat) : Prop where
  st : (∃ s, Run d h s ∧ nextOf h.l ≤ 65536 * k) ∨ (¬ h.runs d ∧ ∃ l' t', Flat d l' t' ∧ nextOf l' ≤ 65536 * k)
  ok : Ok d
  total : Dsk.total d.files ≤ 120 * k
  len : d.files.length ≤ k
  room : d.room = 1048576
  many : h.l.length ≤ k
theorem pushL_len : ∀ (l : List Sg) (x : Sp.Span), (pushL l x).length = l.length
  | [], _ => rfl
  | [_], _ => rfl
  | a :: b :: r, x => by show (pushL (b :: r) x).length + 1 = _; rw [pushL_len (b :: r) x]; rfl
theorem begin_len (d : Dk) (h : Hl) (b : Str) : (beginP d h b).2.1.l.length ≤ h.l.length + 1 := by
  unfold beginP
  have hy : ∀ y : Int × Dk, (if y.1 ≠ 0 then (y.1, h.told y.1, y.2) else
    let z := y.2.append (ln (nextOf h.l)) b
    if z.1 ≠ 0 then (z.1, h.told z.1, z.2) else (0, { h with l := h.l ++ [⟨nextOf h.l, []⟩] }, z.2)).2.1.l.length ≤ h.l.length + 1 := by
    intro y
    split
    · exact Nat.le_succ _
    · simp only
      split
      · exact Nat.le_succ _
      · simp
  simp only
  cases h.l.getLast? with
  | none => exact hy (0, d)
  | some a => exact hy (d.sync (ln a.first))
theorem app_len (d : Dk) (h : Hl) (x : Sp.Span) : (appP d h x).2.1.l.length ≤ h.l.length + 1 := by
  have hb := begin_len d h (frm x)
  unfold appP
  split
  · exact Nat.le_succ _
  · split
    · simp only
      split
      · exact hb
      · rw [pushL_len]; exact hb
    · split
      · simp only
        split
        · exact Nat.le_succ _
        · rw [pushL_len]; exact Nat.le_succ _
      · simp only
        split
        · exact hb
        · rw [pushL_len]; exact hb
theorem sync_len (d : Dk) (h : Hl) : (syncP d h).2.1.l.length ≤ h.l.length + 1 := by
  unfold syncP
  split <;> exact Nat.le_succ _
theorem rot_len (d : Dk) (h : Hl) : (rotP d h).2.1.l.length ≤ h.l.length + 1 := by
  unfold rotP
  split
  · exact Nat.le_succ _
  · split
    · exact Nat.le_succ _
    · exact begin_len d h []
theorem retL_len (n : Nat) : ∀ (l : List Sg) (d : Dk), (retL n d l).2.1.length ≤ l.length
  | [], d => Nat.le_refl _
  | a :: r, d => by
    unfold retL
    split
    · simp only
      split
      · exact Nat.le_refl _
      · exact Nat.le_trans (retL_len n r _) (Nat.le_succ _)
    · exact Nat.le_refl _
theorem ret_len (d : Dk) (h : Hl) (n : Int) : (retP n d h).2.1.l.length ≤ h.l.length + 1 := by
  unfold retP
  split
  · exact Nat.le_succ _
  · exact Nat.le_trans (retL_len _ _ _) (Nat.le_succ _)
theorem TwP.act (p : TwP d h k) (run : ∀ s, Run d h s → nextOf h.l ≤ 65536 * k → ActOut d h s d' h') (down : ¬ h.runs d → d' = d ∧ h' = h) (g : Grw d d' 120 1) (hl : h'.l.length ≤ h.l.length + 1) : TwP d' h' (k + 1) := by
  obtain ⟨st, ok, tot, len, room, many⟩ := p
  have h1 := g.total
  have h2 := g.len
  rcases st with ⟨s, r, hn⟩ | ⟨hr, l', t', f, hn⟩
  · rcases run s r hn with ⟨s', r', st'⟩ | ⟨l', t', f, st'⟩
    · have := st'.next r'.file
      exact ⟨.inl ⟨s', r', by omega⟩, r'.file.ok, by omega, by omega, g.room.trans room, by omega⟩
    · have := st'.next f.file
      exact ⟨.inr ⟨not_runs_off h' d' f.off, l', t', f, by omega⟩, f.file.ok, by omega, by omega, g.room.trans room, by omega⟩
  · obtain ⟨rfl, rfl⟩ := down hr
    exact ⟨.inr ⟨hr, l', t', f, by omega⟩, ok, by omega, by omega, room, by omega⟩
theorem TwP.hb (p : TwP d h k) (hk : k ≤ 150) : HB d h := by
  refine ⟨by have := p.many; omega, fun e => ?_, fun e => ?_⟩
  · rcases p.st with ⟨s, r, hn⟩ | ⟨hr, _⟩
    · exact r.bnd (by omega)
    · exact absurd e hr
  · rcases p.st with ⟨s, r, hn⟩ | ⟨hr, _⟩
    · omega
    · exact absurd e hr
theorem TwP.app (p : TwP d h k) (hk : k ≤ 150) (x : Sp.Span) : TwP (appA d h x).2.2 (appA d h x).2.1 (k + 1) := by
  unfold appA
  by_cases hr : h.runs d
  · rw [if_pos hr]
    exact p.act (fun s r hn => r.app (by omega) x) (fun e => absurd hr e) (p.ok.app_grw h x) (app_len d h x)
  · rw [if_neg hr]
    exact p.act (fun s r _ => absurd r.runs hr) (fun _ => ⟨rfl, rfl⟩) ((Grw.refl d).more (Nat.zero_le _) (Nat.zero_le _)) (Nat.le_succ _)
theorem TwP.sync (p : TwP d h k) (hk : k ≤ 150) : TwP (syncA d h).2.2 (syncA d h).2.1 (k + 1) := by
  unfold syncA
  by_cases hr : h.runs d
  · rw [if_pos hr]
    exact p.act (fun s r hn => r.sync) (fun e => absurd hr e) (p.ok.syncP_grw h) (sync_len d h)
  · rw [if_neg hr]
    exact p.act (fun s r _ => absurd r.runs hr) (fun _ => ⟨rfl, rfl⟩) ((Grw.refl d).more (Nat.zero_le _) (Nat.zero_le _)) (Nat.le_succ _)
theorem TwP.rot (p : TwP d h k) (hk : k ≤ 150) : TwP (rotA d h).2.2 (rotA d h).2.1 (k + 1) := by
  unfold rotA
  by_cases hr : h.runs d
  · rw [if_pos hr]
    exact p.act (fun s r hn => r.rot (by omega)) (fun e => absurd hr e) (p.ok.rot_grw h) (rot_len d h)
  · rw [if_neg hr]
    exact p.act (fun s r _ => absurd r.runs hr) (fun _ => ⟨rfl, rfl⟩) ((Grw.refl d).more (Nat.zero_le _) (Nat.zero_le _)) (Nat.le_succ _)
theorem TwP.ret (p : TwP d h k) (hk : k ≤ 150) (n : Int) : TwP (retA n d h).2.2 (retA n d h).2.1 (k + 1) := by
  unfold retA
  by_cases hr : h.runs d
  · rw [if_pos hr]
    exact p.act (fun s r hn => r.ret n) (fun e => absurd hr e) (p.ok.ret_grw h n) (ret_len d h n)
  · rw [if_neg hr]
    exact p.act (fun s r _ => absurd r.runs hr) (fun _ => ⟨rfl, rfl⟩) ((Grw.refl d).more (Nat.zero_le _) (Nat.zero_le _)) (Nat.le_succ _)
theorem TwP.fail (p : TwP d h k) (n : Int) (keep : List Int) (hk : keep.length ≤ 1099511627776) : TwP (d.failAt n keep).2 h (k + 1) := by
  by_cases hr : h.runs d
  · exact p.act (fun s r hn => .inl ⟨s, r.fail n keep hk, KR.refl _ _, first_le_sure r.chain s⟩) (fun e => absurd hr e) (failAt_grw d n keep) (Nat.le_succ _)
  · refine p.act (fun s r _ => absurd r.runs hr) (fun _ => ⟨?_, rfl⟩) (failAt_grw d n keep) (Nat.le_succ _)
    rcases p.st with ⟨s, r, _⟩ | ⟨_, l', t', f, _⟩
    · exact absurd r.runs hr
    · unfold Dk.failAt
      rw [f.off, if_pos rfl]
theorem openP_same (hf : LSt d l [] s []) (hoff : d.off = false) : openP d l [] = (0, d) := by
  rcases hf.no_draft hoff with ⟨d', r, e, hr, _, _, h3⟩ | ⟨d', e, f⟩
  · have e2 := h3 rfl
    unfold openP
    rw [e]
    have h4 : ¬ (r ≠ 0 ∧ r ≠ 4) := by omega
    simp only [if_neg h4, e2, if_true]
    split <;> rfl
  · have hg : get d.files lnew = none := by
      rcases hf.get_draft with ⟨hg, _⟩ | ⟨f, hm, _⟩
      · exact hg
      · cases hm
    unfold Dk.remove at e
    rw [hoff, if_neg (by decide), hg] at e
    injection e with e
    exact absurd e (by decide)
/-- What is done at the end: a crash, if it runs; it is started. -/
def downed (d : Dk) (keep : List Int) : Dk := if d.off then d else (d.crash keep).2
theorem TwP.end_ (p : TwP d h k) (hk : k ≤ 150) (keep : List Int) :
    (d.off = false → (d.crash keep).1 = 0) ∧ (downed d keep).start.1 = 0 ∧ (downed d keep).start.2.off = false ∧ ∃ l' t', LSt (downed d keep).start.2 l' t' (lastT l' ++ t').length [] ∧ nextOf l' ≤ 100000000 ∧
      ∃ d3, openP (downed d keep).start.2 l' t' = (0, d3) ∧ Run d3 ⟨(downed d keep).start.2.starts, false, l'⟩ (lastT l').length ∧ LSt d3 l' [] (lastT l').length [] ∧ openP d3 l' [] = (0, d3) ∧ d3.starts = (downed d keep).start.2.starts ∧ d3.off = false := by
  have key : ∀ (e : Dk) (l' : List Sg) (t' : Str), Flat e l' t' → nextOf l' ≤ 100000000 → Dsk.total e.files ≤ 18120 → e.files.length ≤ 151 → e.room = 1048576 →
      e.start.1 = 0 ∧ e.start.2.off = false ∧ ∃ l' t', LSt e.start.2 l' t' (lastT l' ++ t').length [] ∧ nextOf l' ≤ 100000000 ∧ ∃ d3, openP e.start.2 l' t' = (0, d3) ∧ Run d3 ⟨e.start.2.starts, false, l'⟩ (lastT l').length ∧ LSt d3 l' [] (lastT l').length [] ∧ openP d3 l' [] = (0, d3) ∧ d3.starts = e.start.2.starts ∧ d3.off = false := by
    intro e l' t' f hn ht hl hr
    obtain ⟨s1, s2, s3, s4⟩ := f.start
    have hroom : e.start.2.room = 1048576 := by
      have : e.start.2.room = e.room := by unfold Dk.start; split <;> rfl
      rw [this, hr]
    have hfiles : e.start.2.files = e.files := by unfold Dk.start; split <;> rfl
    obtain ⟨t1, t2⟩ := s4.total
    rw [hfiles] at t1 t2
    have e0 : Dsk.total ([] : Files) = 0 := rfl
    rw [e0] at t1
    refine ⟨s1, s2, l', t', s4, hn, ?_⟩
    rcases open_up s4 s2 s3 (by omega) with ⟨d3, o1, o2, o3, o4, o5, o6⟩ | ⟨d3, _, o⟩
    · exact ⟨d3, o1, o2, o3, openP_same o3 (o6.1.trans s2), o6.2.1, o6.1.trans s2⟩
    · exfalso
      rw [hroom] at o
      simp only [List.length_nil] at t2
      omega
  have h1 := p.total
  have h2 := p.len
  unfold downed
  rcases p.st with ⟨s, r, hn⟩ | ⟨hr, l', t', f, hn⟩
  · obtain ⟨l', t', f, st⟩ := r.crash keep
    have hg := p.ok.crash_grw keep
    have h3 := hg.total
    have h4 := hg.len
    have h5 := st.next f.file
    rw [r.off]
    simp only [Bool.false_eq_true, if_false]
    refine ⟨fun _ => by unfold Dk.crash; rw [r.off, if_neg (by decide)], ?_⟩
    exact key _ l' t' f (by omega) (by omega) (by omega) (hg.room.trans p.room)
  · rw [f.off]
    simp only [if_true]
    exact ⟨fun e => (by cases e), key _ l' t' f (by omega) (by omega) (by omega) p.room⟩
end
end Go.Proofs.YtiepipcankhdnaaGreatDoor
