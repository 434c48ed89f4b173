/- A journal's batches as bytes, plainly: written, read, and back. No program in sight. -/
import Derived.Test.YtcijhhnbhnaiaaaGreatDoorEdCodeP
namespace Go.Proofs.YtcijhhnbhnaiaaaGreatDoor.Jou
set_option linter.unusedSimpArgs false
set_option linter.unusedVariables false
abbrev Str := List UInt8

structure Cell where
  key : ByteArray
  seq : Int
  val : ByteArray
/-- A cell may be. -/
def May (c : Cell) : Prop := c.key.size ≠ 0 ∧ c.key.size ≤ 64 ∧ 0 ≤ c.seq ∧ c.val.size ≤ 128
instance (c : Cell) : Decidable (May c) := by unfold May; infer_instance
def encC (c : Cell) : Str := Ed.encT c.key.data.toList ++ (Ed.pn c.seq ++ Ed.encT c.val.data.toList)
def enc (l : List Cell) : Str := l.flatMap encC
def one (s : Str) (p : Nat) : Option (Cell × Nat) := match Ed.txt s p with
  | none => none
  | some (k, p) => match Var.get s p with
    | none => none
    | some (n, p) => match Ed.txt s p with
      | none => none
      | some (v, p) => if May ⟨⟨k.toArray⟩, n, ⟨v.toArray⟩⟩ then some (⟨⟨k.toArray⟩, n, ⟨v.toArray⟩⟩, p) else none
def decR (s : Str) : Nat → Nat → List Cell → Option (List Cell)
  | 0, p, acc => if p < s.length then none else some acc
  | f + 1, p, acc => if p < s.length then (match one s p with | none => none | some (c, e) => decR s f e (acc ++ [c])) else some acc
def dec (s : Str) : Option (List Cell) := decR s s.length 0 []
theorem pn_nat (n : Nat) : Ed.pn n = Var.put n := by
  unfold Ed.pn Var.putI
  rw [if_neg (by omega)]
  congr 1
  omega
theorem txt_back {s t : Str} {p e : Nat} (h : Ed.txt s p = some (t, e)) : (s.drop p).take (e - p) = Ed.encT t ∧ p < e ∧ e ≤ s.length := by
  unfold Ed.txt at h
  split at h
  · cases h
  · rename_i n e1 hg
    obtain ⟨g1, g2, _, g4, _⟩ := Var.get_back hg
    split at h
    · rename_i hn
      injection h with h
      injection h with h1 h2
      subst h2
      have hl : t.length = n := by rw [← h1, List.length_take, List.length_drop]; omega
      refine ⟨?_, by omega, by omega⟩
      unfold Ed.encT
      rw [hl, pn_nat, ← g4, ← h1]
      rw [show e1 + n - p = (e1 - p) + n by omega, List.take_add, List.drop_drop, show p + (e1 - p) = e1 by omega]
    · cases h
theorem one_back {s : Str} {p e : Nat} {c : Cell} (h : one s p = some (c, e)) : (s.drop p).take (e - p) = encC c ∧ p < e ∧ e ≤ s.length ∧ May c ∧ c.seq < 9223372036854775808 := by
  unfold one at h
  split at h
  · cases h
  rename_i k p1 h1
  split at h
  · cases h
  rename_i n p2 h2
  split at h
  · cases h
  rename_i v p3 h3
  split at h
  case isFalse => cases h
  rename_i hm
  injection h with h
  injection h with hc he
  subst hc he
  obtain ⟨a1, a2, a3⟩ := txt_back h1
  obtain ⟨b1, b2, _, b4, b5⟩ := Var.get_back h2
  obtain ⟨c1, c2, c3⟩ := txt_back h3
  refine ⟨?_, by omega, c3, hm, by show (n : Int) < _; rw [Var.pow9] at b5; omega⟩
  unfold encC
  simp only
  rw [pn_nat, ← a1, ← b4, ← c1]
  rw [show p3 - p = (p1 - p) + ((p2 - p1) + (p3 - p2)) by omega, List.take_add, List.drop_drop, show p + (p1 - p) = p1 by omega, List.take_add, List.drop_drop, show p1 + (p2 - p1) = p2 by omega]
theorem one_enc (c : Cell) (a r : Str) (h : May c) (hs : c.seq < 9223372036854775808) : one (a ++ (encC c ++ r)) a.length = some (c, (a ++ encC c).length) := by
  obtain ⟨m1, m2, m3, m4⟩ := h
  have hk : (c.key.data.toList.length : Int) < 9223372036854775808 := by
    have : c.key.data.toList.length = c.key.size := by simp
    omega
  have hv : (c.val.data.toList.length : Int) < 9223372036854775808 := by
    have : c.val.data.toList.length = c.val.size := by simp
    omega
  have e0 : a ++ (encC c ++ r) = a ++ (Ed.encT c.key.data.toList ++ (Ed.pn c.seq ++ (Ed.encT c.val.data.toList ++ r))) := by unfold encC; simp only [List.append_assoc]
  have e1 : a ++ (Ed.encT c.key.data.toList ++ (Ed.pn c.seq ++ (Ed.encT c.val.data.toList ++ r))) = (a ++ Ed.encT c.key.data.toList) ++ (Ed.pn c.seq ++ (Ed.encT c.val.data.toList ++ r)) := by simp only [List.append_assoc]
  have e2 : a ++ (Ed.encT c.key.data.toList ++ (Ed.pn c.seq ++ (Ed.encT c.val.data.toList ++ r))) = (a ++ Ed.encT c.key.data.toList ++ Ed.pn c.seq) ++ (Ed.encT c.val.data.toList ++ r) := by simp only [List.append_assoc]
  have g1 := Ed.txt_enc c.key.data.toList a (Ed.pn c.seq ++ (Ed.encT c.val.data.toList ++ r)) hk
  have g2 := Ed.get_pn m3 hs (a ++ Ed.encT c.key.data.toList) (Ed.encT c.val.data.toList ++ r)
  have g3 := Ed.txt_enc c.val.data.toList (a ++ Ed.encT c.key.data.toList ++ Ed.pn c.seq) r hv
  rw [← e1] at g2
  rw [← e2] at g3
  have hc : (⟨⟨c.key.data.toList.toArray⟩, (c.seq.toNat : Int), ⟨c.val.data.toList.toArray⟩⟩ : Cell) = c := by
    obtain ⟨⟨k⟩, q, ⟨v⟩⟩ := c
    simp only at m3 ⊢
    rw [Int.toNat_of_nonneg m3]
  unfold one
  rw [e0, g1]
  simp only
  rw [g2]
  simp only
  rw [g3]
  simp only
  rw [hc, if_pos ⟨m1, m2, m3, m4⟩]
  unfold encC
  simp only [List.append_assoc]
theorem decR_fuel (s : Str) : ∀ (f g p : Nat) (acc : List Cell), s.length - p ≤ f → s.length - p ≤ g → decR s f p acc = decR s g p acc
  | 0, 0, _, _, _, _ => rfl
  | 0, g + 1, p, acc, h, _ => by unfold decR; rw [if_neg (by omega), if_neg (by omega)]
  | f + 1, 0, p, acc, _, h => by unfold decR; rw [if_neg (by omega), if_neg (by omega)]
  | f + 1, g + 1, p, acc, h1, h2 => by
    unfold decR
    by_cases hp : p < s.length
    · rw [if_pos hp, if_pos hp]
      cases ho : one s p with
      | none => rfl
      | some x =>
        obtain ⟨c, e⟩ := x
        obtain ⟨_, b1, b2, _⟩ := one_back ho
        exact decR_fuel s f g e _ (by omega) (by omega)
    · rw [if_neg hp, if_neg hp]
/-- A step of reading. -/
theorem decR_step (s : Str) (f p : Nat) (acc : List Cell) (hf : s.length - p ≤ f) (hp : p < s.length) : decR s f p acc = match one s p with | none => none | some (c, e) => decR s f e (acc ++ [c]) := by
  rw [decR_fuel s f (f + 1) p acc hf (by omega)]
  show (if p < s.length then _ else _) = _
  rw [if_pos hp]
theorem encC_pos (c : Cell) : 0 < (encC c).length := by
  unfold encC Ed.encT
  simp only [List.length_append]
  have := Var.put_len_pos c.key.data.toList.length
  rw [pn_nat]
  omega
theorem decR_enc : ∀ (l : List Cell) (a : Str) (acc : List Cell) (f : Nat), (∀ c ∈ l, May c ∧ c.seq < 9223372036854775808) → (enc l).length ≤ f → decR (a ++ enc l) f a.length acc = some (acc ++ l)
  | [], a, acc, f, _, _ => by
    have h : ¬ a.length < (a ++ enc []).length := by simp [enc]
    cases f with
    | zero => unfold decR; rw [if_neg h]; simp
    | succ f => unfold decR; rw [if_neg h]; simp
  | c :: l, a, acc, f, h, hf => by
    have e : a ++ enc (c :: l) = a ++ (encC c ++ enc l) := rfl
    have hc := h c List.mem_cons_self
    have hpos := encC_pos c
    have hlen : (enc (c :: l)).length = (encC c).length + (enc l).length := by show (encC c ++ enc l).length = _; rw [List.length_append]
    rw [e, decR_step _ _ _ _ (by simp only [List.length_append]; omega) (by simp only [List.length_append]; omega), one_enc c a (enc l) hc.1 hc.2]
    simp only
    have e2 : a ++ (encC c ++ enc l) = (a ++ encC c) ++ enc l := by rw [List.append_assoc]
    rw [e2, decR_enc l (a ++ encC c) (acc ++ [c]) f (fun x hx => h x (List.mem_cons_of_mem _ hx)) (by omega)]
    simp
/-- What is written is read. -/
theorem dec_enc (l : List Cell) (h : ∀ c ∈ l, May c ∧ c.seq < 9223372036854775808) : dec (enc l) = some l := by
  have := decR_enc l [] [] (enc l).length h (Nat.le_refl _)
  simpa [dec] using this
theorem decR_back (s : Str) : ∀ (f p : Nat) (acc l : List Cell), decR s f p acc = some l → s.take p = enc acc → p ≤ s.length → (∀ c ∈ acc, May c ∧ c.seq < 9223372036854775808) → enc l = s ∧ ∀ c ∈ l, May c ∧ c.seq < 9223372036854775808
  | 0, p, acc, l, h, hp, hl, ha => by
    unfold decR at h
    split at h
    · cases h
    · injection h with h
      subst h
      exact ⟨by rw [← hp]; exact List.take_of_length_le (by omega), ha⟩
  | f + 1, p, acc, l, h, hp, hl, ha => by
    unfold decR at h
    split at h
    · split at h
      · cases h
      · rename_i c e ho
        obtain ⟨b0, b1, b2, b3, b4⟩ := one_back ho
        refine decR_back s f e _ l h ?_ b2 fun x hx => ?_
        · rw [show e = p + (e - p) by omega, List.take_add, hp, b0]
          simp [enc]
        · rcases List.mem_append.1 hx with hx | hx
          · exact ha x hx
          · obtain rfl : x = c := by simpa using hx
            exact ⟨b3, b4⟩
    · injection h with h
      subst h
      exact ⟨by rw [← hp]; exact List.take_of_length_le (by omega), ha⟩
/-- What is read was written so. -/
theorem enc_dec {s : Str} {l : List Cell} (h : dec s = some l) : enc l = s ∧ ∀ c ∈ l, May c ∧ c.seq < 9223372036854775808 :=
  decR_back s _ 0 [] l h (by simp [enc]) (Nat.zero_le _) fun c hc => by cases hc
end Go.Proofs.YtcijhhnbhnaiaaaGreatDoor.Jou
