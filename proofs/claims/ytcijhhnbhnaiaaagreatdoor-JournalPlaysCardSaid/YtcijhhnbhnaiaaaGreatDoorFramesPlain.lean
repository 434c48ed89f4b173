/- Plain facts on frames as functions on lists of bytes: no program in sight. -/
import Derived.Test.YtcijhhnbhnaiaaaGreatDoorSumsPlain
namespace Frm

/-- A payload's frame. -/
def frame (p : List UInt8) : List UInt8 := [2, UInt8.ofNat (p.length / 256), UInt8.ofNat (p.length % 256)] ++ p ++ Adl.four (Adl.sum p) ++ [3]
/-- How long the payload is of the frame that begins so. -/
def len16 (d : List UInt8) : Nat := (d[1]?.getD 0).toNat * 256 + (d[2]?.getD 0).toNat
/-- The payload of the frame with which a text begins. -/
def nextAt (d : List UInt8) : Option (List UInt8) :=
  if len16 d ≤ 16384 ∧ 8 + len16 d ≤ d.length ∧ d.take (8 + len16 d) = frame ((d.drop 3).take (len16 d)) then some ((d.drop 3).take (len16 d)) else none
/-- The least place from k on at which a frame stands; the text's end if there is none. -/
def resync (l : List UInt8) (k : Nat) : Nat := ((List.range' k (l.length - k)).find? fun i => (nextAt (l.drop i)).isSome).getD l.length

theorem four_length (s : Int) : (Adl.four s).length = 4 := rfl
theorem frame_length (p : List UInt8) : (frame p).length = p.length + 8 := by
  unfold frame; simp only [List.length_append, List.length_cons, List.length_nil, four_length]; omega
theorem frame_eq (p : List UInt8) : frame p = 2 :: UInt8.ofNat (p.length / 256) :: UInt8.ofNat (p.length % 256) :: (p ++ (Adl.four (Adl.sum p) ++ [3])) := by
  unfold frame; simp
theorem len16_frame (p r : List UInt8) (h : p.length ≤ 16384) : len16 (frame p ++ r) = p.length := by
  rw [frame_eq]
  unfold len16
  simp only [List.cons_append, List.getElem?_cons_succ, List.getElem?_cons_zero, Option.getD_some, UInt8.toNat_ofNat']
  omega
theorem payload_frame (p r : List UInt8) : ((frame p ++ r).drop 3).take p.length = p := by
  rw [frame_eq]
  simp
/-- What is found is a frame, and whatever frame stands there is found. -/
theorem nextAt_some (d p : List UInt8) : nextAt d = some p ↔ p.length ≤ 16384 ∧ frame p <+: d := by
  constructor
  · intro h
    unfold nextAt at h
    split at h
    · rename_i hc
      obtain ⟨h1, h2, h3⟩ := hc
      have hp : (d.drop 3).take (len16 d) = p := by simpa using h
      rw [hp] at h3
      refine ⟨?_, ?_⟩
      · rw [← hp]; simp only [List.length_take]; omega
      · rw [← h3]; exact List.take_prefix _ _
    · cases h
  · rintro ⟨h1, r, rfl⟩
    unfold nextAt
    rw [len16_frame p r h1, payload_frame, if_pos]
    refine ⟨h1, ?_, ?_⟩
    · rw [List.length_append, frame_length]; omega
    · have e : 8 + p.length = (frame p).length := by rw [frame_length]; omega
      rw [e, List.take_left]
theorem nextAt_none (d : List UInt8) : nextAt d = none ↔ ∀ p : List UInt8, p.length ≤ 16384 → ¬ frame p <+: d := by
  constructor
  · intro h p h1 h2
    rw [(nextAt_some d p).2 ⟨h1, h2⟩] at h
    cases h
  · intro h
    cases hn : nextAt d with
    | none => rfl
    | some p =>
      obtain ⟨h1, h2⟩ := (nextAt_some d p).1 hn
      exact absurd h2 (h p h1)
/-- A frame is no other one's beginning. -/
theorem frame_prefix (p q d : List UInt8) (hp : p.length ≤ 16384) (hq : q.length ≤ 16384) (h1 : frame p <+: d) (h2 : frame q <+: d) : p = q := by
  have e1 := (nextAt_some d p).2 ⟨hp, h1⟩
  have e2 := (nextAt_some d q).2 ⟨hq, h2⟩
  rw [e1] at e2
  injection e2

theorem three_heads (d : List UInt8) (h : 3 ≤ d.length) : ∃ d0 d1 d2 r, d = d0 :: d1 :: d2 :: r := by
  match d, h with
  | d0 :: d1 :: d2 :: r, _ => exact ⟨d0, d1, d2, r, rfl⟩
/-- The document's own way to read a frame, field by field. -/
theorem take_frame (d : List UInt8) (h8 : 8 + len16 d ≤ d.length) :
    d.take (8 + len16 d) = frame ((d.drop 3).take (len16 d)) ↔ d[0]? = some 2 ∧ d[7 + len16 d]? = some 3 ∧ (d.drop (3 + len16 d)).take 4 = Adl.four (Adl.sum ((d.drop 3).take (len16 d))) := by
  obtain ⟨d0, d1, d2, r, rfl⟩ := three_heads d (by omega)
  have hn : len16 (d0 :: d1 :: d2 :: r) = d1.toNat * 256 + d2.toNat := rfl
  generalize hnn : len16 (d0 :: d1 :: d2 :: r) = n at *
  have b1 := d1.toNat_lt
  have b2 := d2.toNat_lt
  have hr : 5 + n ≤ r.length := by simp only [List.length_cons] at h8; omega
  have hp : ((d0 :: d1 :: d2 :: r).drop 3).take n = r.take n := rfl
  have hpl : (r.take n).length = n := by rw [List.length_take]; omega
  rw [hp, frame_eq, hpl]
  have e1 : UInt8.ofNat (n / 256) = d1 := by rw [hn]; apply UInt8.toNat_inj.1; simp only [UInt8.toNat_ofNat']; omega
  have e2 : UInt8.ofNat (n % 256) = d2 := by rw [hn]; apply UInt8.toNat_inj.1; simp only [UInt8.toNat_ofNat']; omega
  rw [e1, e2]
  have t1 : (d0 :: d1 :: d2 :: r).take (8 + n) = d0 :: d1 :: d2 :: (r.take n ++ ((r.drop n).take 4 ++ ((r.drop (n + 4)).take 1))) := by
    rw [show 8 + n = (n + 4 + 1) + 1 + 1 + 1 by omega, List.take_succ_cons, List.take_succ_cons, List.take_succ_cons, List.take_add (i := n) (j := 5), show (5 : Nat) = 4 + 1 from rfl, List.take_add (i := 4) (j := 1), List.drop_drop]
  have t2 : (d0 :: d1 :: d2 :: r).drop (3 + n) = r.drop n := by rw [show 3 + n = n + 1 + 1 + 1 by omega]; rfl
  have t3 : (d0 :: d1 :: d2 :: r)[7 + n]? = r[n + 4]? := by rw [show 7 + n = (n + 4) + 1 + 1 + 1 by omega]; rfl
  have t4 : (r.drop (n + 4)).take 1 = [r[n + 4]'(by omega)] := by
    rw [List.drop_eq_getElem_cons (show n + 4 < r.length by omega)]; rfl
  have t5 : ((r.drop n).take 4).length = 4 := by rw [List.length_take, List.length_drop]; omega
  rw [t1, t2, t3, t4, List.getElem?_eq_getElem (show n + 4 < r.length by omega)]
  simp only [List.cons.injEq, true_and, List.append_cancel_left_eq, List.getElem?_cons_zero, Option.some.injEq]
  constructor
  · rintro ⟨h1, h2⟩
    have := List.append_inj h2 (by rw [t5, four_length])
    exact ⟨h1, by simpa using this.2, this.1⟩
  · rintro ⟨h1, h2, h3⟩
    exact ⟨h1, by rw [h3, h2]⟩
theorem nextAt_fields (d : List UInt8) :
    nextAt d = if len16 d ≤ 16384 ∧ 8 + len16 d ≤ d.length ∧ d[0]? = some 2 ∧ d[7 + len16 d]? = some 3 ∧ (d.drop (3 + len16 d)).take 4 = Adl.four (Adl.sum ((d.drop 3).take (len16 d))) then some ((d.drop 3).take (len16 d)) else none := by
  unfold nextAt
  by_cases h : 8 + len16 d ≤ d.length
  · have ht := take_frame d h
    by_cases c : len16 d ≤ 16384 ∧ 8 + len16 d ≤ d.length ∧ d[0]? = some 2 ∧ d[7 + len16 d]? = some 3 ∧ (d.drop (3 + len16 d)).take 4 = Adl.four (Adl.sum ((d.drop 3).take (len16 d)))
    · rw [if_pos c, if_pos ⟨c.1, c.2.1, ht.2 c.2.2⟩]
    · rw [if_neg c, if_neg fun c' => c ⟨c'.1, c'.2.1, ht.1 c'.2.2⟩]
  · rw [if_neg (fun c => h c.2.1), if_neg (fun c => h c.2.1)]

/-! ### Where the next frame stands -/
theorem resync_spec (l : List UInt8) (k : Nat) :
    (∃ i, resync l k = i ∧ k ≤ i ∧ i < l.length ∧ (nextAt (l.drop i)).isSome = true ∧ ∀ j, k ≤ j → j < i → nextAt (l.drop j) = none) ∨
    (resync l k = l.length ∧ ∀ j, k ≤ j → j < l.length → nextAt (l.drop j) = none) := by
  unfold resync
  cases hf : (List.range' k (l.length - k)).find? fun i => (nextAt (l.drop i)).isSome with
  | none =>
    refine .inr ⟨rfl, fun j h1 h2 => ?_⟩
    rw [List.find?_eq_none] at hf
    have := hf j (by rw [List.mem_range'_1]; omega)
    simpa using this
  | some i =>
    rw [List.find?_range'_eq_some] at hf
    obtain ⟨h1, h2, h3⟩ := hf
    rw [List.mem_range'_1] at h2
    refine .inl ⟨i, rfl, h2.1, by omega, h1, fun j hj hji => ?_⟩
    have := h3 j hj hji
    simpa using this
theorem resync_of_found (l : List UInt8) (k i : Nat) (h1 : k ≤ i) (h2 : i < l.length) (h3 : (nextAt (l.drop i)).isSome = true) (h4 : ∀ j, k ≤ j → j < i → nextAt (l.drop j) = none) : resync l k = i := by
  rcases resync_spec l k with ⟨i', e, a1, a2, a3, a4⟩ | ⟨e, a⟩
  · rw [e]
    rcases Nat.lt_trichotomy i i' with h | h | h
    · have := a4 i h1 h; rw [this] at h3; cases h3
    · exact h.symm
    · have := h4 i' a1 h; rw [this] at a3; cases a3
  · have := a i h1 h2; rw [this] at h3; cases h3
theorem resync_of_none (l : List UInt8) (k : Nat) (h : ∀ j, k ≤ j → j < l.length → nextAt (l.drop j) = none) : resync l k = l.length := by
  rcases resync_spec l k with ⟨i', e, a1, a2, a3, a4⟩ | ⟨e, a⟩
  · have := h i' a1 a2; rw [this] at a3; cases a3
  · exact e
theorem nextAt_bare (d : List UInt8) (h : d[0]? ≠ some 2) : nextAt d = none := by
  rw [nextAt_none]
  rintro p hp ⟨r, rfl⟩
  apply h
  rw [frame_eq]
  simp
theorem nextAt_short (d : List UInt8) (h : d.length < 8) : nextAt d = none := by
  rw [nextAt_none]
  rintro p hp ⟨r, rfl⟩
  rw [List.length_append, frame_length] at h
  omega

/-! ### The payloads with which a text begins -/
/-- The payloads from a place on, and where they end; at most so many. -/
def whole : Nat → List UInt8 → List (List UInt8) × Nat
  | 0, _ => ([], 0)
  | f + 1, d => match nextAt d with
    | none => ([], 0)
    | some p => let r := whole f (d.drop (p.length + 8)); (p :: r.1, p.length + 8 + r.2)
theorem whole_fuel (f g : Nat) (d : List UInt8) (hf : d.length ≤ f * 8) (hg : d.length ≤ g * 8) : whole f d = whole g d := by
  induction f generalizing g d with
  | zero =>
    have hd : d = [] := List.length_eq_zero_iff.1 (by omega)
    subst hd
    cases g with
    | zero => rfl
    | succ g => simp [whole, nextAt_short]
  | succ f ih =>
    cases g with
    | zero =>
      have hd : d = [] := List.length_eq_zero_iff.1 (by omega)
      subst hd
      simp [whole, nextAt_short]
    | succ g =>
      unfold whole
      cases hn : nextAt d with
      | none => rfl
      | some p => simp only; rw [ih g _ (by rw [List.length_drop]; omega) (by rw [List.length_drop]; omega)]
end Frm
