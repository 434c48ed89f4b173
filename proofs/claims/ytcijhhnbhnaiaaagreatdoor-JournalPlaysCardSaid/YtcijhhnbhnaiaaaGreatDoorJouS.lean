/- A journal's one file, plainly: its text, what is read of it, what laying a batch makes of it. -/
import Derived.Test.YtcijhhnbhnaiaaaGreatDoorJouE
namespace Go.Proofs.YtcijhhnbhnaiaaaGreatDoor
set_option linter.unusedSimpArgs false
set_option linter.unusedVariables false
set_option maxRecDepth 100000
open Dsk

/-- Batches as a file's text. -/
def jText (lots : List (List Jou.Cell)) : Str := lots.flatMap fun l => Frm.frame (Jou.enc l)
theorem jText_snoc (lots : List (List Jou.Cell)) (l : List Jou.Cell) : jText (lots ++ [l]) = jText lots ++ Frm.frame (Jou.enc l) := by unfold jText; rw [List.flatMap_append]; simp
theorem jText_cons (l : List Jou.Cell) (lots : List (List Jou.Cell)) : jText (l :: lots) = Frm.frame (Jou.enc l) ++ jText lots := rfl
/-- A batch that may lie in a file. -/
structure LotOk (l : List Jou.Cell) : Prop where
  may : ∀ c ∈ l, Jou.May c ∧ c.seq < 9223372036854775808
  short : (Jou.enc l).length ≤ 16384
  len : l.length ≤ 16384
theorem whole_step' (f : Nat) (p r : Str) (hp : p.length ≤ 16384) : Frm.whole (f + 1) (Frm.frame p ++ r) = (p :: (Frm.whole f r).1, p.length + 8 + (Frm.whole f r).2) := by
  have h := (Frm.nextAt_some (Frm.frame p ++ r) p).2 ⟨hp, List.prefix_append _ _⟩
  have hd : (Frm.frame p ++ r).drop (p.length + 8) = r := by
    rw [← Frm.frame_length, List.drop_left]
  conv => lhs; unfold Frm.whole; rw [h]
  simp only [hd]
theorem whole_text : ∀ (lots : List (List Jou.Cell)) (tail : Str) (f : Nat), (∀ l ∈ lots, LotOk l) → Frm.nextAt tail = none → (jText lots ++ tail).length ≤ f * 8 →
    Frm.whole f (jText lots ++ tail) = (lots.map Jou.enc, (jText lots).length)
  | [], tail, f, _, ht, _ => by
    cases f with
    | zero => rfl
    | succ f =>
      show Frm.whole (f + 1) tail = _
      unfold Frm.whole
      rw [ht]
      rfl
  | l :: lots, tail, f, hl, ht, hf => by
    rw [jText_cons, List.append_assoc] at hf ⊢
    rw [List.length_append, Frm.frame_length] at hf
    cases f with
    | zero => omega
    | succ f =>
      rw [whole_step' _ _ _ (hl l List.mem_cons_self).short, whole_text lots tail f (fun x hx => hl x (List.mem_cons_of_mem _ hx)) ht (by omega)]
      simp only [List.map_cons, List.length_append, Frm.frame_length]
/-- A frame that is cut is none. -/
theorem torn_none (p : Str) (hp : p.length ≤ 16384) (t : Nat) (ht : t < (Frm.frame p).length) : Frm.nextAt ((Frm.frame p).take t) = none := by
  rw [Frm.nextAt_none]
  intro q hq h
  have h2 : Frm.frame q <+: Frm.frame p := h.trans (List.take_prefix _ _)
  have e := Frm.frame_prefix q p (Frm.frame p) hq hp h2 (List.prefix_refl _)
  subst e
  have := h.length_le
  rw [List.length_take] at this
  omega
theorem nil_none : Frm.nextAt [] = none := Frm.nextAt_short _ (by simp)
theorem whole_size (text : ByteArray) {lots : List (List Jou.Cell)} {tail : Str} (h : text.data.toList = jText lots ++ tail) (hl : ∀ l ∈ lots, LotOk l) (ht : Frm.nextAt tail = none) :
    Frm.whole text.size text.data.toList = (lots.map Jou.enc, (jText lots).length) := by
  have hs : text.data.toList.length = text.size := by simp
  rw [h]
  refine whole_text lots tail _ hl ht ?_
  rw [← h, hs]
  omega
theorem lot_dec {l : List Jou.Cell} (h : LotOk l) : Jou.dec (Jou.enc l) = some l := Jou.dec_enc l h.may
/-- The files of a journal with one file. -/
def JF (n : Nat) (lots : List (List Jou.Cell)) (fs : Files) : Prop := (fs = [] ∧ lots = []) ∨ fs = [(jn n, ⟨jText lots, (jText lots).length⟩)]
theorem get_one (k : Str) (f : Fl) : Dsk.get [(k, f)] k = some f := by simp [Dsk.get]
theorem put_nil (k : Str) (f : Fl) : Dsk.put [] k f = [(k, f)] := by simp [Dsk.put, Dsk.del, Dsk.ins]
theorem put_one (k : Str) (f g : Fl) : Dsk.put [(k, f)] k g = [(k, g)] := by simp [Dsk.put, Dsk.del, Dsk.ins]
theorem total_one (k : Str) (f : Fl) : Dsk.total [(k, f)] = f.data.length := by simp [Dsk.total]
theorem jn_named {n : Nat} (h : n ≤ 2147483647) : Named (jn n) := by
  have := digits_small h
  unfold Named jn
  simp only [List.length_cons]
  omega
theorem JF.total {n : Nat} {lots : List (List Jou.Cell)} {fs : Files} (h : JF n lots fs) : Dsk.total fs = (jText lots).length := by
  rcases h with ⟨rfl, rfl⟩ | rfl
  · rfl
  · exact total_one _ _
theorem JF.names {n : Nat} {lots : List (List Jou.Cell)} {fs : Files} (h : JF n lots fs) : Dsk.names fs = [] ∧ lots = [] ∨ Dsk.names fs = [jn n] := by
  rcases h with ⟨rfl, rfl⟩ | rfl
  · exact .inl ⟨rfl, rfl⟩
  · exact .inr rfl
/-- Is a batch laid? -/
def Lays (l : List Jou.Cell) (room used : Nat) : Prop := (∀ c ∈ l, Jou.May c) ∧ l ≠ [] ∧ (Jou.enc l).length ≤ 16384 ∧ used + (Frm.frame (Jou.enc l)).length ≤ room
/-- Where a batch is not laid, nothing is. -/
theorem jApp_not {n : Nat} (hn : n ≤ 2147483647) {d : Dk} {lots : List (List Jou.Cell)} {l : List Jou.Cell} (hoff : d.off = false) (hf : JF n lots d.files) (hl : ¬ Lays l d.room (jText lots).length) :
    ∃ r, jApp d n l = (r, false, d) ∧ (r = 0 → l = []) ∧ r ≠ 51 := by
  unfold jApp
  by_cases h1 : ∀ c ∈ l, Jou.May c
  · have hq : encQ l = (Jou.enc l, 0) := by unfold encQ; exact if_pos h1
    rw [hq]
    rw [if_neg (by simp)]
    by_cases h2 : l.length = 0
    · rw [if_pos h2]; exact ⟨0, rfl, fun _ => List.length_eq_zero_iff.1 h2, by decide⟩
    · rw [if_neg h2]
      by_cases h3 : 16384 < (Jou.enc l).length
      · rw [if_pos h3]; exact ⟨3, rfl, (fun e => by cases e), by decide⟩
      · rw [if_neg h3]
        have h4 : d.room < (jText lots).length + (Frm.frame (Jou.enc l)).length := by
          apply Nat.lt_of_not_le
          intro h5
          exact hl ⟨h1, fun e => h2 (by rw [e]; rfl), by omega, h5⟩
        have ha : d.append (jn n) (Frm.frame (Jou.enc l)) = (50, d) := by
          unfold Dk.append
          rw [hoff, if_neg (by decide), if_neg (fun h => h (jn_named hn)), if_pos (.inr (by rw [hf.total]; exact h4))]
        simp only [ha]
        exact ⟨50, rfl, (fun e => by cases e), by decide⟩
  · have hq : encQ l = ([], 2) := by unfold encQ; exact if_neg h1
    rw [hq, if_pos (by decide)]
    exact ⟨2, rfl, (fun e => by cases e), by decide⟩
theorem append_one {n : Nat} (hn : n ≤ 2147483647) {d : Dk} {lots : List (List Jou.Cell)} {l : List Jou.Cell} (hoff : d.off = false) (hf : JF n lots d.files) (hl : Lays l d.room (jText lots).length) :
    d.append (jn n) (Frm.frame (Jou.enc l)) = ({ d with files := [(jn n, ⟨jText lots ++ Frm.frame (Jou.enc l), (jText lots).length⟩)] } : Dk).change [(jn n, ⟨jText lots ++ Frm.frame (Jou.enc l), (jText lots).length⟩)] := by
  have hc : ¬ ((get d.files (jn n) = none ∧ 1024 ≤ d.files.length) ∨ d.room < total d.files + (Frm.frame (Jou.enc l)).length) := by
    rw [hf.total]
    rintro (⟨_, h⟩ | h)
    · rcases hf with ⟨e, _⟩ | e <;> rw [e] at h <;> simp at h
    · have := hl.2.2.2; omega
  have hm : put d.files (jn n) ⟨((get d.files (jn n)).getD ⟨[], 0⟩).data ++ Frm.frame (Jou.enc l), ((get d.files (jn n)).getD ⟨[], 0⟩).safe⟩ = [(jn n, ⟨jText lots ++ Frm.frame (Jou.enc l), (jText lots).length⟩)] := by
    rcases hf with ⟨e, e2⟩ | e
    · subst e2
      rw [e]
      exact put_nil _ _
    · rw [e, get_one, put_one]
      rfl
  unfold Dk.append
  rw [hoff, if_neg (by decide), if_neg (fun h => h (jn_named hn)), if_neg hc]
  simp only [hm]
/-- What a crash leaves of a file of which a frame is not safe. -/
theorem cut_one (k : Str) (T F : Str) (keep : List Int) : ∃ t, cutL keep 0 [(k, ⟨T ++ F, T.length⟩)] = [(k, ⟨T ++ F.take t, (T ++ F.take t).length⟩)] := by
  obtain ⟨m, hm⟩ : ∃ m, m = (min (max (((keep[0]?).getD 0)) 0) (((T ++ F).length : Int) - T.length)).toNat := ⟨_, rfl⟩
  have hmF : m ≤ F.length := by
    rw [hm, List.length_append]
    omega
  refine ⟨m, ?_⟩
  have e : cutF ⟨T ++ F, T.length⟩ keep[0]? = ⟨T ++ F.take m, (T ++ F.take m).length⟩ := by
    have hs : stays ⟨T ++ F, T.length⟩ keep[0]? = T.length + m := by unfold stays; rw [hm]
    unfold cutF
    rw [hs]
    have h1 : (T ++ F).take (T.length + m) = T ++ F.take m := by rw [List.take_append, List.take_of_length_le (by omega)]; congr 2; omega
    have h2 : (T ++ F.take m).length = T.length + m := by rw [List.length_append, List.length_take]; omega
    simp only [h1, h2]
  show [(k, cutF ⟨T ++ F, T.length⟩ keep[0]?)] = _
  rw [e]
/-- What a crash leaves of a file that is safe. -/
theorem cut_safe (k : Str) (T : Str) (keep : List Int) : cutL keep 0 [(k, ⟨T, T.length⟩)] = [(k, ⟨T, T.length⟩)] := by
  have e : cutF ⟨T, T.length⟩ keep[0]? = ⟨T, T.length⟩ := by
    have hs : stays ⟨T, T.length⟩ keep[0]? = T.length := by unfold stays; simp only; omega
    unfold cutF
    rw [hs]
    simp
  show [(k, cutF ⟨T, T.length⟩ keep[0]?)] = _
  rw [e]
theorem JF.cut {n : Nat} {lots : List (List Jou.Cell)} {fs : Files} (h : JF n lots fs) (keep : List Int) : cutL keep 0 fs = fs := by
  rcases h with ⟨rfl, _⟩ | rfl
  · rfl
  · exact cut_safe _ _ _
/-- A batch that may be laid is, or the disk crashes in it. -/
theorem jApp_lays {n : Nat} (hn : n ≤ 2147483647) {d : Dk} {lots : List (List Jou.Cell)} {l : List Jou.Cell} (hoff : d.off = false) (hf : JF n lots d.files) (hl : Lays l d.room (jText lots).length) (hfo : FOk d) :
    (∃ d', jApp d n l = (0, false, d') ∧ d'.off = false ∧ JF n (lots ++ [l]) d'.files ∧ (d.fail = none → d'.fail = none) ∧ FOk d' ∧ d'.room = d.room ∧ d'.starts = d.starts) ∨
    (d.fail ≠ none ∧ ∃ d' t, jApp d n l = (51, true, d') ∧ d'.off = true ∧ d'.files = [(jn n, ⟨jText lots ++ (Frm.frame (Jou.enc l)).take t, (jText lots ++ (Frm.frame (Jou.enc l)).take t).length⟩)] ∧ d'.fail = none ∧ d'.room = d.room ∧ d'.starts = d.starts) := by
  have hq : encQ l = (Jou.enc l, 0) := by unfold encQ; exact if_pos hl.1
  have hne : ¬ l.length = 0 := fun e => hl.2.1 (List.length_eq_zero_iff.1 e)
  obtain ⟨room, starts, off, files, fail, keep⟩ := d
  simp only at hoff hf hl
  subst hoff
  unfold jApp
  rw [hq, if_neg (by simp), if_neg hne, if_neg (by have := hl.2.2.1; simp only; omega)]
  simp only [append_one (d := ⟨room, starts, false, files, fail, keep⟩) hn rfl hf hl]
  obtain ⟨t, ht⟩ := cut_one (jn n) (jText lots) (Frm.frame (Jou.enc l)) keep
  cases fail with
  | none =>
    refine .inl ?_
    simp only [Dk.change, Dk.sync, get_one, ne_eq, not_true_eq_false, if_false, put_one, Bool.false_eq_true]
    exact ⟨_, rfl, rfl, .inr (by rw [jText_snoc]), fun _ => rfl, (fun _ e => by cases e), rfl, rfl⟩
  | some k =>
    have hk := hfo k rfl
    by_cases h0 : k ≤ 0
    · refine .inr ⟨by simp, ?_⟩
      simp only [Dk.change, if_pos h0]
      simp only [ne_eq, Int.reduceEq, not_false_eq_true, if_true, Int.reduceBNe]
      exact ⟨_, t, rfl, rfl, by show cutL keep 0 _ = _; rw [ht], rfl, rfl, rfl⟩
    · by_cases h1 : k ≤ 1
      · refine .inr ⟨by simp, ?_⟩
        have h2 : k - 1 ≤ 0 := by omega
        simp only [Dk.change, if_neg h0, Dk.sync, get_one, ne_eq, not_true_eq_false, if_false, put_one, Bool.false_eq_true, if_pos h2, Int.reduceEq, not_false_eq_true, if_true]
        exact ⟨_, t, rfl, rfl, by show cutL keep 0 _ = _; rw [ht], rfl, rfl, rfl⟩
      · refine .inl ?_
        have h2 : ¬ k - 1 ≤ 0 := by omega
        simp only [Dk.change, if_neg h0, Dk.sync, get_one, ne_eq, not_true_eq_false, if_false, put_one, Bool.false_eq_true, if_neg h2]
        refine ⟨_, rfl, rfl, .inr (by rw [jText_snoc]), (fun e => by cases e), fun m e => ?_, rfl, rfl⟩
        have e2 : k - 1 - 1 = m := by simpa using e
        omega
end Go.Proofs.YtcijhhnbhnaiaaaGreatDoor
