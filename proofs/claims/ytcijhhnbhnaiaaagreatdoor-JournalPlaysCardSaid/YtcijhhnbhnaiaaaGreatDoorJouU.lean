/- A batch laid or not, whatever the disk: what the journal's file has then. -/
import Derived.Test.YtcijhhnbhnaiaaaGreatDoorJouT
import Derived.Test.YtcijhhnbhnaiaaaGreatDoorJouActs
import Derived.Test.YtcijhhnbhnaiaaaGreatDoorJouL
namespace Go.Proofs.YtcijhhnbhnaiaaaGreatDoor
set_option linter.unusedSimpArgs false
set_option linter.unusedVariables false
set_option maxRecDepth 100000
open Go.RowKit Go.Maps
open Dsk

section
variable {w0 w w' : World} {X Y S : Nat → Prop} {v : Value} {d d' : Dk} {j n : Nat} {st num : Int} {bad : Bool} {lots : List (List Jou.Cell)} {l : List Jou.Cell} {lv : Value}
/-- What an act's cells are. -/
structure Lot20 (l : List Jou.Cell) : Prop where
  len : l.length ≤ 20
  seq : ∀ c ∈ l, c.seq < 9223372036854775808
theorem Lot20.of (h : SmallC l 20) (hb : ∀ (j : Nat) (hj : j < l.length), CelBnd l[j]) : Lot20 l := by
  refine ⟨by have := h.1; omega, fun c hc => ?_⟩
  obtain ⟨i, hi, rfl⟩ := List.getElem_of_mem hc
  have := (hb i hi).seq.2
  omega
theorem Lot20.ok (h : Lot20 l) (hm : ∀ c ∈ l, Jou.May c) : LotOk l := by
  have h1 : ∀ c ∈ l, Jou.May c ∧ c.seq < 9223372036854775808 := fun c hc => ⟨hm c hc, h.seq c hc⟩
  have h2 := enc_le h1
  have h3 := h.len
  exact ⟨h1, by omega, by omega⟩
/-- A file's batches: few, each small. -/
structure LotsOk (lots : List (List Jou.Cell)) (k : Nat) : Prop where
  ok : ∀ l ∈ lots, LotOk l
  text : (jText lots).length ≤ 4448 * k
  flat : lots.flatten.length ≤ 20 * k
theorem LotsOk.nil : LotsOk [] 0 := ⟨(fun _ h => by cases h), by simp [jText], by simp⟩
theorem LotsOk.next {k : Nat} (h : LotsOk lots k) : LotsOk lots (k + 1) := ⟨h.ok, by have := h.text; omega, by have := h.flat; omega⟩
theorem LotsOk.snoc {k : Nat} (h : LotsOk lots k) (hl : Lot20 l) (hm : ∀ c ∈ l, Jou.May c) : LotsOk (lots ++ [l]) (k + 1) := by
  have h1 := hl.ok hm
  have h2 := enc_le h1.may
  have h3 := hl.len
  refine ⟨fun x hx => ?_, ?_, ?_⟩
  · rcases List.mem_append.1 hx with hx | hx
    · exact h.ok x hx
    · rw [List.mem_singleton.1 hx]; exact h1
  · rw [jText_snoc, List.length_append, Frm.frame_length]
    have := h.text
    omega
  · rw [List.flatten_append, List.length_append]
    have := h.flat
    simp only [List.flatten_cons, List.flatten_nil, List.append_nil]
    omega
/-- What laying a batch comes to: it was laid (or was none), or refused, or the disk crashed in it. -/
inductive Laid (d : Dk) (n k : Nat) (lots : List (List Jou.Cell)) (l : List Jou.Cell) : Int → Bool → Dk → Prop
  | yes (d' : Dk) (lots' : List (List Jou.Cell)) (hoff : d'.off = false) (hst : d'.starts = d.starts) (hroom : d'.room = d.room) (hfail : d.fail = none → d'.fail = none) (hfo : FOk d') (hf : JF n lots' d'.files) (hok : LotsOk lots' (k + 1)) (hfl : lots'.flatten = lots.flatten ++ l) : Laid d n k lots l 0 false d'
  | no (r : Int) (hr : r ≠ 0) (hr2 : r ≠ 51) : Laid d n k lots l r false d
  | crash (d' : Dk) (t : Nat) (hne : d.fail ≠ none) (hoff : d'.off = true) (hst : d'.starts = d.starts) (hroom : d'.room = d.room) (hfail : d'.fail = none) (hok : LotOk l) (hok1 : LotsOk (lots ++ [l]) (k + 1))
      (hf : d'.files = [(jn n, ⟨jText lots ++ (Frm.frame (Jou.enc l)).take t, (jText lots ++ (Frm.frame (Jou.enc l)).take t).length⟩)]) : Laid d n k lots l 51 true d'
theorem laid_any {k : Nat} (hn : n ≤ 2147483647) (hoff : d.off = false) (hf : JF n lots d.files) (hfo : FOk d) (hok : LotsOk lots k) (hl : Lot20 l) : Laid d n k lots l (jApp d n l).1 (jApp d n l).2.1 (jApp d n l).2.2 := by
  by_cases hL : Lays l d.room (jText lots).length
  · rcases jApp_lays hn hoff hf hL hfo with ⟨d', h1, h2, h3, h4, h5, h6, h7⟩ | ⟨h0, d', t, h1, h2, h3, h4, h5, h6⟩
    · rw [h1]
      exact .yes d' _ h2 h7 h6 h4 h5 h3 (hok.snoc hl hL.1) (by rw [List.flatten_append]; simp)
    · rw [h1]
      exact .crash d' t h0 h2 h6 h5 h4 (hl.ok hL.1) (hok.snoc hl hL.1) h3
  · obtain ⟨r, h1, h2, h3⟩ := jApp_not hn hoff hf hL
    rw [h1]
    by_cases hr : r = 0
    · subst hr
      rw [h2 rfl]
      exact .yes d lots hoff rfl rfl id hfo hf hok.next (by simp)
    · exact .no r hr h3
theorem japp_laid {k : Nat} (h : JS w0 X w v d j st false n) (hup : d.off = false) (hst : d.starts = st) (hn : NumOk w0 n) (hl : RdC w lv l) (h20 : Lot20 l) (hf : JF n lots d.files) (hfo : FOk d) (hok : LotsOk lots k) :
    Calls Tryz.prog 20 #[.pointer (some ⟨j, 0, none⟩), lv] w fun e w' => ∃ r bad d', e = .returned (.int .i64 r) ∧ Laid d n k lots l r bad d' ∧ JS w0 X w' v d' j st bad n ∧ JK X j w w' := by
  refine (japp_any h hup hst hn hl (by have := h20.len; omega) h20.seq).mono ?_
  rintro e w' ⟨rfl, hj, hk⟩
  exact ⟨_, _, _, rfl, laid_any hn.hi hup hf hfo hok h20, hj, hk⟩
/-- The disk when it began anew behind a crash. -/
theorem crash_one (hoff : d.off = false) (hf : JF n lots d.files) (keep : List Int) : ∃ d1 d2, d.crash keep = (0, d1) ∧ d1.start = (0, d2) ∧ d2.off = false ∧ d2.files = d.files ∧ d2.fail = none ∧ d2.room = d.room ∧ d2.starts = IntKind.i64.wrap (d.starts + 1) := by
  refine ⟨d.crashed keep, { d.crashed keep with off := false, starts := IntKind.i64.wrap (d.starts + 1) }, by unfold Dk.crash; rw [hoff]; rfl, rfl, rfl, hf.cut keep, rfl, rfl, rfl⟩
theorem start_one (hoff : d.off = true) : ∃ d2, d.start = (0, d2) ∧ d2.off = false ∧ d2.files = d.files ∧ d2.fail = d.fail ∧ d2.room = d.room ∧ d2.starts = IntKind.i64.wrap (d.starts + 1) := by
  refine ⟨{ d with off := false, starts := IntKind.i64.wrap (d.starts + 1) }, by unfold Dk.start; rw [hoff]; rfl, rfl, rfl, rfl, rfl, rfl⟩
theorem JF.open {lots : List (List Jou.Cell)} {fs : Files} (h : JF n lots fs) : (fs = [] ∧ lots = [] ∧ ([] : Str) = [] ∧ n = n) ∨ fs = [(jn n, ⟨jText lots ++ [], (jText lots).length⟩)] := by
  rcases h with ⟨h1, h2⟩ | h
  · exact .inl ⟨h1, h2, rfl, rfl⟩
  · exact .inr (by rw [h, List.append_nil])
end
end Go.Proofs.YtcijhhnbhnaiaaaGreatDoor
