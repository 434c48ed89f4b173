/- A host's log on a disk that does not fail: appended, rotated, synced, read: plainly. No program in sight. -/
import Derived.Test.YtiepipcankhdnaaGreatDoorHlRd
namespace Go.Proofs.YtiepipcankhdnaaGreatDoor
set_option linter.unusedSimpArgs false
set_option linter.unusedVariables false
open Dsk

section
variable {d : Dk} {l : List Sg} {t : Str} {s : Nat} {dr : Files} {h : Hl} {rs : List Sp.Span} {k : Nat}
/-- How many are sure: by the log's files. -/
theorem LSt.synced_last {init : List Sg} {a : Sg} (h : LSt d (init ++ [a]) t s dr) : d.synced (ln a.first) = s := by unfold Dk.synced; rw [h.get_last]
theorem LSt.synced_full {init : List Sg} {a b : Sg} (h : LSt d (init ++ [a]) t s dr) (hb : b ∈ init) : d.synced (ln b.first) = (sgT b.spans).length := by unfold Dk.synced; rw [h.get_full hb]
theorem sureL_full : ∀ (init : List Sg) (a : Sg) (n : Nat), (∀ b ∈ init, d.synced (ln b.first) = (sgT b.spans).length) → sureL d (init ++ [a]) n = a.first + sureN a.spans (d.synced (ln a.first))
  | [], a, n, _ => by
    show sureL d [a] n = _
    unfold sureL
    split
    · rfl
    · rfl
  | b :: init, a, n, hf => by
    have hb := hf b List.mem_cons_self
    have e : sureN b.spans (d.synced (ln b.first)) = b.spans.length := sureN_all _ _ (by rw [hb]; exact Nat.le_refl _)
    show sureL d (b :: (init ++ [a])) n = _
    unfold sureL
    rw [e, if_neg (Nat.lt_irrefl _)]
    exact sureL_full init a _ fun c hc => hf c (List.mem_cons_of_mem _ hc)
theorem LSt.sureL (h : LSt d l t s dr) (n : Nat) (hn : l = [] → n = 0) : sureL d l n = sureOf l s := by
  rcases List.eq_nil_or_concat l with rfl | ⟨init, a, rfl⟩
  · rw [hn rfl]; rfl
  · rw [List.concat_eq_append] at *
    rw [sureL_full init a n fun b hb => h.synced_full hb, sureOf_snoc, h.synced_last]
theorem sureOf_all (h : SgsOk l) : sureOf l (lastT l).length = nextOf l := by
  rcases List.eq_nil_or_concat l with rfl | ⟨init, a, rfl⟩
  · rfl
  · rw [List.concat_eq_append, sureOf_snoc, nextOf_snoc, lastT_snoc, sureN_all _ _ (Nat.le_refl _)]
    rfl
/-- A log that runs, on a disk that does not fail, and has room. -/
structure Calm (d : Dk) (h : Hl) (rs : List Sp.Span) (k : Nat) : Prop where
  off : d.off = false
  fail : d.fail = none
  room : d.room = 1048576
  st : d.starts = h.st
  lost : h.lost = false
  recs : recs h.l = rs
  first : firstOf h.l = 0
  many : h.l.length ≤ k
  long : rs.length ≤ k
  file : ∃ s, LSt d h.l [] s []
theorem Calm.runs (c : Calm d h rs k) : h.runs d := ⟨c.lost, c.off, c.st⟩
theorem Calm.next (c : Calm d h rs k) : nextOf h.l = rs.length := by
  obtain ⟨s, hs⟩ := c.file
  rw [nextOf_recs hs.sgs.chain, c.first, c.recs]
  omega
theorem Calm.may (c : Calm d h rs k) : ∀ x ∈ rs, Sp.May x := fun x hx => by
  obtain ⟨s, hs⟩ := c.file
  rw [← c.recs] at hx
  obtain ⟨a, ha, hxa⟩ := List.mem_flatMap.1 hx
  exact hs.sgs.may a ha x hxa
theorem Calm.hl (c : Calm d h rs k) : h = ⟨h.st, false, h.l⟩ := by
  obtain ⟨st, lost, l⟩ := h
  have := c.lost
  simp only at this
  rw [this]
theorem Calm.hasRoom (c : Calm d h rs k) (hk : k ≤ 1000) : Room d h.l [] := by
  have h1 := (sgT_len rs c.may).2
  have h2 := c.many
  have h3 := c.long
  unfold Room
  rw [c.recs, c.room]
  show h.l.length + 0 < 1024 ∧ (sgT rs).length + 0 + 120 ≤ 1048576
  omega
theorem spans_le (l : List Sg) : ∀ a ∈ l, a.spans.length ≤ (Go.Proofs.YtiepipcankhdnaaGreatDoor.recs l).length := by
  induction l with
  | nil => intro a ha; cases ha
  | cons b l ih =>
    intro a ha
    rw [recs_cons, List.length_append]
    rcases List.mem_cons.1 ha with rfl | ha
    · omega
    · have := ih a ha; omega
theorem Calm.firsts (c : Calm d h rs k) : ∀ a ∈ h.l, a.first ≤ k := fun a ha => by
  obtain ⟨s, hs⟩ := c.file
  have h1 := (nextOf_above hs.sgs.chain).1 a ha
  have h2 := c.next
  have h3 := c.long
  omega
theorem Calm.app (c : Calm d h rs k) (hk : k ≤ 1000) (x : Sp.Span) (hx : Sp.May x) : (appP d h x).1 = 0 ∧ Calm (appP d h x).2.2 (appP d h x).2.1 (rs ++ [x]) (k + 1) := by
  obtain ⟨s, hs⟩ := c.file
  have hn := c.next
  have hl := c.long
  obtain ⟨d', s', e, k1, k2, _, _⟩ := app_calm (st := h.st) hs c.off c.fail (c.hasRoom hk) (by omega) x hx
  rw [← c.hl] at e
  rw [e]
  obtain ⟨e1, e2, e3, e4⟩ := k1
  exact ⟨rfl, e1.trans c.off, e4 c.fail, e3.trans c.room, e2.trans c.st, rfl, by show Go.Proofs.YtiepipcankhdnaaGreatDoor.recs (pushed h.l x) = _; rw [recs_pushed, c.recs], by show firstOf (pushed h.l x) = 0; rw [first_pushed, c.first],
    Nat.le_trans (len_pushed h.l x).1 (Nat.succ_le_succ c.many), by rw [List.length_append, List.length_singleton]; omega, s', k2⟩
theorem app_bad (d : Dk) (h : Hl) {x : Sp.Span} (hx : ¬ Sp.May x) : appP d h x = (2, h, d) := by unfold appP; rw [if_pos hx]
theorem Calm.rot (c : Calm d h rs k) (hk : k ≤ 1000) : (rotP d h).1 = 0 ∧ Calm (rotP d h).2.2 (rotP d h).2.1 rs (k + 1) := by
  obtain ⟨s, hs⟩ := c.file
  have hn := c.next
  have hl := c.long
  obtain ⟨d', s', e, k1, k2, _, _⟩ := rot_calm (st := h.st) hs c.off c.fail (c.hasRoom hk) (by omega)
  rw [← c.hl] at e
  rw [e]
  obtain ⟨e1, e2, e3, e4⟩ := k1
  obtain ⟨r1, r2, r3, r4, r5⟩ := recs_turned h.l
  have hm := c.many
  exact ⟨rfl, e1.trans c.off, e4 c.fail, e3.trans c.room, e2.trans c.st, rfl, by show Go.Proofs.YtiepipcankhdnaaGreatDoor.recs (turned h.l) = _; rw [r1, c.recs], by show firstOf (turned h.l) = 0; rw [r2, c.first],
    by show (turned h.l).length ≤ _; omega, by omega, s', k2⟩
/-- Made sure. -/
structure Calmed (d : Dk) (h : Hl) (rs : List Sp.Span) (k : Nat) : Prop extends Calm d h rs k where
  all : LSt d h.l [] (lastT h.l).length []
theorem Calm.sync (c : Calm d h rs k) : (syncP d h).1 = 0 ∧ Calmed (syncP d h).2.2 (syncP d h).2.1 rs k ∧ (syncP d h).2.1 = h := by
  obtain ⟨s, hs⟩ := c.file
  obtain ⟨d', e, k1, k2, _⟩ := sync_calm (st := h.st) hs c.off c.fail
  rw [← c.hl] at e
  rw [e]
  obtain ⟨e1, e2, e3, e4⟩ := k1
  exact ⟨rfl, ⟨⟨e1.trans c.off, e4 c.fail, e3.trans c.room, e2.trans c.st, c.lost, c.recs, c.first, c.many, c.long, _, k2⟩, k2⟩, rfl⟩
theorem Calmed.sure (c : Calmed d h rs k) : sureL d h.l 0 = rs.length := by
  rw [c.all.sureL 0 (fun _ => rfl), sureOf_all c.all.sgs, c.next]
/-- A page of a log whose records are all sure. -/
theorem Calmed.read (c : Calmed d h rs k) (f m : Nat) (hf : f ≤ rs.length) : readP d h f m = ((rs.drop f).take m, (f : Int) + ((rs.drop f).take m).length, 0) := by
  unfold readP
  rw [if_neg (fun e => e c.runs), if_neg (by omega), c.sure, c.first, if_neg (by omega)]
  have e := rd_law (l := h.l) c.all.sgs.chain f rs.length m (by rw [c.first]; exact Nat.zero_le _)
  rw [c.first, c.recs, Nat.sub_zero, Nat.sub_zero, List.take_length] at e
  rw [e]
/-- A new disk's log. -/
theorem LSt.new {c : Nat} (h1 : 1 ≤ c) (h2 : c ≤ 1048576) : LSt (Dk.new c) [] [] 0 [] :=
  ⟨Ok.new h1 h2, .inl ⟨rfl, rfl, List.Perm.refl _⟩, ⟨trivial, fun a ha => by cases ha⟩, fnil_none, Nat.zero_le _, IsDr.nil, fun e => absurd rfl e⟩
theorem calm_new : Calm (Dk.new 1048576) ⟨0, false, []⟩ [] 0 := ⟨rfl, rfl, rfl, rfl, rfl, rfl, rfl, Nat.le_refl _, Nat.le_refl _, 0, LSt.new (by omega) (by omega)⟩
end
end Go.Proofs.YtiepipcankhdnaaGreatDoor
