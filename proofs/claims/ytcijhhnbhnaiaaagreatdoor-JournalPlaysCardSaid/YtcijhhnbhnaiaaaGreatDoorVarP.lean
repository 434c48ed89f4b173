/- Numbers as bytes, seven bits each, the most significant first: written, and read. No program in sight. Numbers as bytes: how many there are, and which. Numbers as bytes, read by the document's way. -/
import Derived.Test.YtcijhhnbhnaiaaaGreatDoorRows
import Derived.Lib.ItoaNum
namespace Go.Proofs.YtcijhhnbhnaiaaaGreatDoor.Var

abbrev Str := List UInt8
/-- Bytes with the flag set. -/
def hi (n : Nat) : Str := if h : n < 128 then [UInt8.ofNat (n + 128)] else hi (n / 128) ++ [UInt8.ofNat (n % 128 + 128)]
termination_by n
decreasing_by omega
/-- A number's bytes. -/
def put (n : Nat) : Str := if n < 128 then [UInt8.ofNat n] else hi (n / 128) ++ [UInt8.ofNat (n % 128)]
theorem hi_small {n : Nat} (h : n < 128) : hi n = [UInt8.ofNat (n + 128)] := by rw [hi, dif_pos h]
theorem hi_big {n : Nat} (h : 128 ≤ n) : hi n = hi (n / 128) ++ [UInt8.ofNat (n % 128 + 128)] := by rw [hi, dif_neg (by omega)]
theorem hi_step {a d : Nat} (ha : 0 < a) (hd : d < 128) : hi (a * 128 + d) = hi a ++ [UInt8.ofNat (d + 128)] := by
  rw [hi_big (by omega), show (a * 128 + d) / 128 = a by omega, show (a * 128 + d) % 128 = d by omega]
theorem put_step {a d : Nat} (ha : 0 < a) (hd : d < 128) : put (a * 128 + d) = hi a ++ [UInt8.ofNat d] := by
  unfold put
  rw [if_neg (by omega), show (a * 128 + d) / 128 = a by omega, show (a * 128 + d) % 128 = d by omega]
/-- What is read of some bytes, so many at most, behind so much; and how many they are. -/
def rd : Nat → Nat → Str → Option (Nat × Nat)
  | 0, _, _ => none
  | _, _, [] => none
  | k + 1, acc, c :: r => if c.toNat < 128 then some (acc * 128 + c.toNat, 1) else (rd k (acc * 128 + (c.toNat - 128)) r).map fun p => (p.1, p.2 + 1)
/-- What stands at a place, and the place behind it. -/
def get (s : Str) (p : Nat) : Option (Nat × Nat) := if s[p]? = some 128 then none else (rd 9 0 (s.drop p)).map fun x => (x.1, p + x.2)
theorem ofNat_toNat {n : Nat} (h : n < 256) : (UInt8.ofNat n).toNat = n := by
  rw [UInt8.toNat_ofNat']; omega
theorem toNat_ofNat (c : UInt8) : UInt8.ofNat c.toNat = c := by
  apply UInt8.toNat_inj.1
  exact ofNat_toNat c.toNat_lt
/-- How many flagged bytes a number has. -/
theorem hi_len_pos (n : Nat) : 0 < (hi n).length := by
  rw [hi]; split <;> simp
theorem hi_pow : ∀ (k n : Nat), 0 < k → n < 128 ^ k → (hi n).length ≤ k
  | 0, _, h, _ => absurd h (by omega)
  | k + 1, n, _, h => by
    by_cases h1 : n < 128
    · rw [hi_small h1]; simp
    · rw [hi_big (by omega)]
      have hk : 0 < k := by
        rcases Nat.eq_zero_or_pos k with rfl | hk
        · simp at h; omega
        · exact hk
      have := hi_pow k (n / 128) hk (by rw [Nat.pow_succ] at h; omega)
      simp; omega
theorem rd_hi : ∀ (n k acc : Nat) (r : Str), (hi n).length ≤ k → rd k acc (hi n ++ r) = (rd (k - (hi n).length) (acc * 128 ^ (hi n).length + n) r).map fun p => (p.1, p.2 + (hi n).length) := by
  intro n
  induction n using Nat.strongRecOn with
  | ind n ih =>
    intro k acc r hk
    by_cases h1 : n < 128
    · rw [hi_small h1] at hk ⊢
      obtain ⟨j, rfl⟩ : ∃ j, k = j + 1 := ⟨k - 1, by simp at hk; omega⟩
      have e : (UInt8.ofNat (n + 128)).toNat = n + 128 := ofNat_toNat (by omega)
      simp only [List.cons_append, List.nil_append, rd, e, List.length_cons, List.length_nil]
      rw [if_neg (by omega)]
      simp
    · rw [hi_big (by omega)] at hk ⊢
      have hl : (hi (n / 128) ++ [UInt8.ofNat (n % 128 + 128)]).length = (hi (n / 128)).length + 1 := by simp
      rw [hl] at hk ⊢
      rw [List.append_assoc, ih (n / 128) (by omega) k acc _ (by omega)]
      obtain ⟨j, hj⟩ : ∃ j, k - (hi (n / 128)).length = j + 1 := ⟨k - (hi (n / 128)).length - 1, by omega⟩
      have e : (UInt8.ofNat (n % 128 + 128)).toNat = n % 128 + 128 := ofNat_toNat (by omega)
      rw [hj, show k - ((hi (n / 128)).length + 1) = j by omega]
      simp only [List.cons_append, List.nil_append, rd, e]
      rw [if_neg (by omega), Option.map_map]
      have e2 : (acc * 128 ^ (hi (n / 128)).length + n / 128) * 128 + (n % 128 + 128 - 128) = acc * 128 ^ ((hi (n / 128)).length + 1) + n := by
        rw [Nat.pow_succ, ← Nat.mul_assoc]; omega
      rw [e2]
      cases rd j (acc * 128 ^ ((hi (n / 128)).length + 1) + n) r with
      | none => rfl
      | some p => simp only [Option.map_some, Function.comp_apply, Nat.add_assoc, Nat.add_comm 1]
theorem hi_head_ne {n : Nat} (h : 0 < n) : ∀ r, (hi n ++ r)[0]? ≠ some 128 := by
  induction n using Nat.strongRecOn with
  | ind n ih =>
    intro r
    by_cases h1 : n < 128
    · rw [hi_small h1]
      intro e
      simp at e
      have := congrArg UInt8.toNat e
      rw [ofNat_toNat (by omega)] at this
      simp at this; omega
    · rw [hi_big (by omega), List.append_assoc]
      exact ih (n / 128) (by omega) (by omega) _
theorem put_head_ne (n : Nat) (r : Str) : (put n ++ r)[0]? ≠ some 128 := by
  unfold put
  split
  · intro e
    simp at e
    have := congrArg UInt8.toNat e
    rw [ofNat_toNat (by omega)] at this
    simp at this; omega
  · rw [List.append_assoc]; exact hi_head_ne (by omega) _
theorem rd_put {n : Nat} (h : n < 128 ^ 9) (r : Str) : rd 9 0 (put n ++ r) = some (n, (put n).length) := by
  unfold put
  split
  · rename_i h1
    have e : (UInt8.ofNat n).toNat = n := ofNat_toNat (by omega)
    simp only [List.cons_append, List.nil_append, rd, e]
    rw [if_pos h1]; simp
  · rename_i h1
    have hl : (hi (n / 128)).length ≤ 8 := hi_pow 8 (n / 128) (by omega) (by rw [show (128 : Nat) ^ 9 = 128 ^ 8 * 128 from rfl] at h; omega)
    rw [List.append_assoc, rd_hi (n / 128) 9 0 _ (by omega)]
    obtain ⟨j, hj⟩ : ∃ j, 9 - (hi (n / 128)).length = j + 1 := ⟨9 - (hi (n / 128)).length - 1, by omega⟩
    have e : (UInt8.ofNat (n % 128)).toNat = n % 128 := ofNat_toNat (by omega)
    rw [hj]
    simp only [List.cons_append, List.nil_append, rd, e]
    rw [if_pos (by omega)]
    simp only [Option.map_some, Nat.zero_mul, Nat.zero_add, List.length_append, List.length_cons, List.length_nil]
    congr 2
    · omega
    · omega
/-- What is written is read. -/
theorem get_put {n : Nat} (h : n < 128 ^ 9) (a r : Str) : get (a ++ put n ++ r) a.length = some (n, a.length + (put n).length) := by
  unfold get
  have e : (a ++ put n ++ r)[a.length]? = (put n ++ r)[0]? := by
    rw [List.append_assoc, List.getElem?_append_right (by omega), Nat.sub_self]
  rw [e, if_neg (put_head_ne n r), List.append_assoc, List.drop_left, rd_put h]
  rfl
theorem rd_back : ∀ (k acc : Nat) (l : Str) (n c : Nat), 0 < acc → rd k acc l = some (n, c) → hi acc ++ l.take c = put n ∧ c ≤ l.length ∧ c ≤ k ∧ n < (acc + 1) * 128 ^ k
  | 0, _, _, _, _, _, h => by cases h
  | _ + 1, _, [], _, _, _, h => by cases h
  | k + 1, acc, x :: r, n, c, ha, h => by
    have hx := x.toNat_lt
    unfold rd at h
    split at h
    · rename_i h1
      injection h with h
      injection h with e1 e2
      subst e1 e2
      refine ⟨?_, by simp, by omega, ?_⟩
      · rw [put_step ha h1, toNat_ofNat]; simp
      · have : 1 ≤ 128 ^ k := Nat.pow_pos (by omega)
        rw [Nat.pow_succ]
        have : (acc + 1) * (128 ^ k * 128) = (acc + 1) * 128 * 128 ^ k := by rw [Nat.mul_comm (128 ^ k), Nat.mul_assoc]
        rw [this]
        have h3 : acc * 128 + x.toNat < (acc + 1) * 128 := by omega
        exact Nat.lt_of_lt_of_le h3 (Nat.le_mul_of_pos_right _ (by omega))
    · rename_i h1
      cases hr : rd k (acc * 128 + (x.toNat - 128)) r with
      | none => rw [hr] at h; cases h
      | some p =>
        obtain ⟨n', c'⟩ := p
        rw [hr] at h
        simp only [Option.map_some, Option.some.injEq, Prod.mk.injEq] at h
        obtain ⟨rfl, rfl⟩ := h
        obtain ⟨h2, h3, h4, h5⟩ := rd_back k _ r n' c' (by omega) hr
        refine ⟨?_, by simp; omega, by omega, ?_⟩
        · rw [hi_step ha (by omega), show x.toNat - 128 + 128 = x.toNat by omega, toNat_ofNat] at h2
          rw [List.take_succ_cons, ← h2]; simp
        · refine Nat.lt_of_lt_of_le h5 ?_
          rw [Nat.pow_succ, Nat.mul_comm (128 ^ k), ← Nat.mul_assoc]
          exact Nat.mul_le_mul_right _ (by omega)
/-- What is read is just what is written. -/
theorem get_back {s : Str} {p n e : Nat} (h : get s p = some (n, e)) : e ≤ s.length ∧ p < e ∧ e ≤ p + 9 ∧ (s.drop p).take (e - p) = put n ∧ n < 128 ^ 9 := by
  unfold get at h
  split at h
  · cases h
  · rename_i hne
    cases hr : rd 9 0 (s.drop p) with
    | none => rw [hr] at h; cases h
    | some q =>
      obtain ⟨n', c⟩ := q
      rw [hr] at h
      simp only [Option.map_some, Option.some.injEq, Prod.mk.injEq] at h
      obtain ⟨rfl, rfl⟩ := h
      cases hd : s.drop p with
      | nil => rw [hd] at hr; cases hr
      | cons x r =>
        have hpl : p < s.length := by
          rcases Nat.lt_or_ge p s.length with h | h
          · exact h
          · rw [List.drop_eq_nil_iff.2 h] at hd; cases hd
        have hlen : (s.drop p).length = s.length - p := List.length_drop
        rw [hd] at hr hlen
        have hx0 : s[p]? = some x := by
          have : (s.drop p)[0]? = some x := by rw [hd]; rfl
          rwa [List.getElem?_drop, Nat.add_zero] at this
        have hx := x.toNat_lt
        simp only [List.length_cons] at hlen
        unfold rd at hr
        split at hr
        · rename_i h1
          simp only [Option.some.injEq, Prod.mk.injEq] at hr
          obtain ⟨e1, rfl⟩ := hr
          obtain rfl : n' = x.toNat := by omega
          refine ⟨by omega, by omega, by omega, ?_, Nat.lt_of_lt_of_le h1 (by decide)⟩
          rw [show p + 1 - p = 1 by omega]
          unfold put
          rw [if_pos h1, toNat_ofNat]; rfl
        · rename_i h1
          cases hr2 : rd 8 (0 * 128 + (x.toNat - 128)) r with
          | none => rw [hr2] at hr; cases hr
          | some q =>
            obtain ⟨n2, c2⟩ := q
            rw [hr2] at hr
            simp only [Option.map_some, Option.some.injEq, Prod.mk.injEq] at hr
            obtain ⟨rfl, rfl⟩ := hr
            have hx128 : x.toNat ≠ 128 := by
              intro e
              rw [hx0] at hne
              exact hne (by rw [← toNat_ofNat x, e]; rfl)
            rw [Nat.zero_mul, Nat.zero_add] at hr2
            obtain ⟨h2, h3, h4, h5⟩ := rd_back 8 _ r n2 c2 (by omega) hr2
            refine ⟨by omega, by omega, by omega, ?_, ?_⟩
            · rw [show p + (c2 + 1) - p = c2 + 1 by omega, List.take_succ_cons, ← h2, hi_small (by omega), show x.toNat - 128 + 128 = x.toNat by omega, toNat_ofNat]; rfl
            · refine Nat.lt_of_lt_of_le h5 ?_
              rw [show (128 : Nat) ^ 9 = 128 * 128 ^ 8 from rfl]
              exact Nat.mul_le_mul_right _ (by omega)
theorem pow9 : (128 : Nat) ^ 9 = 9223372036854775808 := by decide
theorem put_len_pos (n : Nat) : 0 < (put n).length := by unfold put; split <;> simp
theorem put_len_le {n : Nat} (h : n < 128 ^ 9) : (put n).length ≤ 9 := by
  unfold put
  split
  · simp
  · have := hi_pow 8 (n / 128) (by omega) (by rw [show (128 : Nat) ^ 9 = 128 ^ 8 * 128 from rfl] at h; omega)
    simp; omega
end Go.Proofs.YtcijhhnbhnaiaaaGreatDoor.Var
namespace Go.Proofs.YtcijhhnbhnaiaaaGreatDoor.Var

theorem hi_pow_le : ∀ (k n : Nat), 0 < k → 128 ^ k ≤ n → k + 1 ≤ (hi n).length
  | 0, _, h, _ => absurd h (by omega)
  | k + 1, n, _, h => by
    have h128 : 128 ≤ n := Nat.le_trans (Nat.le_trans (by decide) (Nat.pow_le_pow_right (by decide : 0 < 128) (show 1 ≤ k + 1 by omega))) h
    rw [hi_big h128]
    have hl := hi_len_pos (n / 128)
    rcases Nat.eq_zero_or_pos k with rfl | hk
    · simp; omega
    · have := hi_pow_le k (n / 128) hk (by rw [Nat.pow_succ] at h; omega)
      simp; omega
theorem put_length_hi (n : Nat) : (put n).length = (hi n).length := by
  unfold put
  split
  · rename_i h; rw [hi_small h]; rfl
  · rename_i h; rw [hi_big (show 128 ≤ n by omega)]; simp
/-- How many bytes a number has, by its bits. -/
theorem many_eq {n : Nat} (h : n < 2 ^ 64) : max 1 ((Lib.bitLen n + 6) / 7) = (hi n).length := by
  rcases Nat.eq_zero_or_pos n with rfl | hp
  · rw [hi_small (by omega)]; rfl
  · obtain ⟨h1, h2, h3⟩ := Lib.bitLenAux_bounds 64 n h (by omega)
    change 1 ≤ Lib.bitLen n at h1
    change 2 ^ (Lib.bitLen n - 1) ≤ n at h2
    change n < 2 ^ Lib.bitLen n at h3
    generalize Lib.bitLen n = b at *
    have e128 : ∀ k, (128 : Nat) ^ k = 2 ^ (7 * k) := fun k => by rw [Nat.pow_mul]
    have hup : (hi n).length ≤ (b + 6) / 7 := by
      refine hi_pow _ n (by omega) (Nat.lt_of_lt_of_le h3 ?_)
      rw [e128]
      exact Nat.pow_le_pow_right (by decide) (by omega)
    have hdn : (b + 6) / 7 ≤ (hi n).length := by
      rcases Nat.lt_or_ge 1 ((b + 6) / 7) with hb | hb
      · have := hi_pow_le ((b + 6) / 7 - 1) n (by omega) (by
          refine Nat.le_trans ?_ h2
          rw [e128]
          exact Nat.pow_le_pow_right (by decide) (by omega))
        omega
      · have := hi_len_pos n; omega
    omega
theorem hi_get : ∀ (n i : Nat) (h : i < (hi n).length), (hi n)[i] = UInt8.ofNat (n / 128 ^ ((hi n).length - 1 - i) % 128 + 128) := by
  intro n
  induction n using Nat.strongRecOn with
  | ind n ih =>
    intro i h
    by_cases h1 : n < 128
    · have e := hi_small h1
      have hl : (hi n).length = 1 := by rw [e]; rfl
      obtain rfl : i = 0 := by omega
      simp only [hl, Nat.sub_self, Nat.pow_zero, Nat.div_one]
      rw [Nat.mod_eq_of_lt h1]
      simp only [e, List.getElem_cons_zero]
    · have e := hi_big (show 128 ≤ n by omega)
      have hl : (hi n).length = (hi (n / 128)).length + 1 := by rw [e]; simp
      rw [List.getElem_of_eq e]
      by_cases hi' : i < (hi (n / 128)).length
      · rw [List.getElem_append_left hi', ih (n / 128) (by omega) i hi', hl]
        congr 3
        rw [Nat.div_div_eq_div_mul, ← Nat.pow_succ']
        congr 2
        omega
      · rw [List.getElem_append_right (by omega)]
        have hie : i = (hi (n / 128)).length := by omega
        simp only [List.getElem_singleton]
        rw [show (hi n).length - 1 - i = 0 by omega]; simp
theorem put_hi (n : Nat) : put n = (hi n).set ((hi n).length - 1) (UInt8.ofNat (n % 128)) := by
  unfold put
  split
  · rename_i h; rw [hi_small h, Nat.mod_eq_of_lt h]; rfl
  · rename_i h
    rw [hi_big (show 128 ≤ n by omega)]
    simp
/-- A number that may be below 0: as nothing, then. -/
def putI (n : Int) : Str := if n < 0 then [] else put n.toNat
/-- The row while it is written. -/
def part (n i : Nat) : Str := (hi n).take i ++ List.replicate ((hi n).length - i) 0
theorem part_length (n i : Nat) (h : i ≤ (hi n).length) : (part n i).length = (hi n).length := by unfold part; simp; omega
theorem part_zero (n : Nat) : part n 0 = List.replicate (hi n).length 0 := by unfold part; simp
theorem part_end (n : Nat) : part n (hi n).length = hi n := by unfold part; simp
theorem part_set (n i : Nat) (h : i < (hi n).length) : (part n i).set i ((hi n)[i]) = part n (i + 1) := by
  unfold part
  have hl : ((hi n).take i).length = i := by rw [List.length_take]; omega
  rw [List.set_append_right _ _ (by omega), hl, Nat.sub_self]
  obtain ⟨m, hm⟩ : ∃ m, (hi n).length - i = m + 1 := ⟨(hi n).length - i - 1, by omega⟩
  rw [hm, List.replicate_succ, List.set_cons_zero, show (hi n).length - (i + 1) = m by omega, List.take_succ_eq_append_getElem h, List.append_assoc]
  rfl
end Go.Proofs.YtcijhhnbhnaiaaaGreatDoor.Var
namespace Go.Proofs.YtcijhhnbhnaiaaaGreatDoor.Var

def fold (acc : Nat) (l : Str) : Nat := l.foldl (fun a c => a * 128 + c.toNat % 128) acc
theorem fold_snoc (acc : Nat) (l : Str) (c : UInt8) : fold acc (l ++ [c]) = fold acc l * 128 + c.toNat % 128 := by unfold fold; rw [List.foldl_append]; rfl
theorem fold_lt' : ∀ (l : Str) (acc : Nat), fold acc l < (acc + 1) * 128 ^ l.length
  | [], acc => by simp [fold]
  | c :: r, acc => by
    have h := fold_lt' r (acc * 128 + c.toNat % 128)
    have hc := Nat.mod_lt c.toNat (show 0 < 128 by decide)
    have e : fold acc (c :: r) = fold (acc * 128 + c.toNat % 128) r := rfl
    rw [e, List.length_cons, Nat.pow_succ, Nat.mul_comm (128 ^ r.length), ← Nat.mul_assoc]
    exact Nat.lt_of_lt_of_le h (Nat.mul_le_mul_right _ (by omega))
theorem fold_lt (l : Str) : fold 0 l < 128 ^ l.length := by have := fold_lt' l 0; omega
theorem rd_all : ∀ (k acc : Nat) (l : Str), (∀ (j : Nat) (hj : j < l.length), 128 ≤ (l[j]).toNat) → rd k acc l = none
  | 0, _, _, _ => rfl
  | _ + 1, _, [], _ => rfl
  | k + 1, acc, c :: r, h => by
    rw [rd, if_neg (by have := h 0 (by simp); simp at this; omega), rd_all k _ r fun j hj => by have := h (j + 1) (by simpa using hj); simpa using this]
    rfl
theorem rd_run : ∀ (e k acc : Nat) (l : Str) (he : e < l.length), (∀ (j : Nat) (hj : j < l.length), j < e → 128 ≤ (l[j]).toNat) → (l[e]).toNat < 128 → rd k acc l = if e < k then some (fold acc (l.take (e + 1)), e + 1) else none
  | e, 0, _, _, _, _, _ => by rw [if_neg (by omega)]; rfl
  | _, _ + 1, _, [], he, _, _ => absurd he (by simp)
  | 0, k + 1, acc, c :: r, _, _, h2 => by
    simp at h2
    rw [rd, if_pos h2, if_pos (by omega)]
    simp [fold, Nat.mod_eq_of_lt h2]
  | e + 1, k + 1, acc, c :: r, he, h1, h2 => by
    have h0 := h1 0 (by simp) (by omega)
    simp only [List.getElem_cons_zero] at h0
    have hc := c.toNat_lt
    rw [rd, if_neg (by omega), rd_run e k _ r (by simpa using he) (fun j hj hje => by have := h1 (j + 1) (by simpa using hj) (by omega); simpa using this) (by simpa using h2)]
    by_cases hek : e < k
    · rw [if_pos hek, if_pos (by omega)]
      simp only [Option.map_some, List.take_succ_cons, fold, List.foldl_cons]
      rw [show c.toNat - 128 = c.toNat % 128 by omega]
    · rw [if_neg hek, if_neg (by omega)]; rfl
/-- The document's reading is the reading. -/
theorem get_all {s : Str} {p : Nat} (h : ∀ (j : Nat) (hj : j < s.length), p ≤ j → 128 ≤ (s[j]).toNat) : get s p = none := by
  unfold get
  rw [rd_all 9 0 _ fun j hj => by rw [List.getElem_drop]; exact h _ _ (by omega)]
  split <;> rfl
theorem get_far {s : Str} {p e : Nat} (h : ∀ (j : Nat) (hj : j < s.length), p ≤ j → j < e → 128 ≤ (s[j]).toNat) (h8 : 8 < e - p) : get s p = none := by
  unfold get
  have : rd 9 0 (s.drop p) = none := by
    have key : ∀ (k acc : Nat) (l : Str), (∀ (j : Nat) (hj : j < l.length), j < k → 128 ≤ (l[j]).toNat) → rd k acc l = none := by
      intro k
      induction k with
      | zero => intro _ _ _; rfl
      | succ k ih =>
        intro acc l hl
        cases l with
        | nil => rfl
        | cons c r =>
          rw [rd, if_neg (by have := hl 0 (by simp) (by omega); simp at this; omega), ih _ r fun j hj hjk => by have := hl (j + 1) (by simpa using hj) (by omega); simpa using this]
          rfl
    exact key 9 0 _ fun j hj hj9 => by rw [List.getElem_drop]; exact h _ _ (by omega) (by omega)
  rw [this]
  split <;> rfl
theorem get_run {s : Str} {p e : Nat} (hp : p ≤ e) (he : e < s.length) (h : ∀ (j : Nat) (hj : j < s.length), p ≤ j → j < e → 128 ≤ (s[j]).toNat) (h2 : (s[e]).toNat < 128) (h8 : e - p ≤ 8) :
    get s p = if put (fold 0 ((s.drop p).take (e - p + 1))) = (s.drop p).take (e - p + 1) then some (fold 0 ((s.drop p).take (e - p + 1)), e + 1) else none := by
  have hr := rd_run (e - p) 9 0 (s.drop p) (by rw [List.length_drop]; omega) (fun j hj hje => by rw [List.getElem_drop]; exact h _ _ (by omega) (by omega)) (by rw [List.getElem_drop]; simpa [show p + (e - p) = e by omega] using h2)
  rw [if_pos (by omega)] at hr
  by_cases h128 : s[p]? = some 128
  · have hg : get s p = none := by unfold get; rw [if_pos h128]
    rw [hg, if_neg]
    intro eq
    have hh := put_head_ne (fold 0 ((s.drop p).take (e - p + 1))) []
    rw [List.append_nil, eq, List.getElem?_take, if_pos (by omega), List.getElem?_drop, Nat.add_zero] at hh
    exact hh h128
  · have hg : get s p = some (fold 0 ((s.drop p).take (e - p + 1)), e + 1) := by
      unfold get
      rw [if_neg h128, hr]
      simp only [Option.map_some]
      rw [show p + (e - p + 1) = e + 1 by omega]
    obtain ⟨_, _, _, h5, _⟩ := get_back hg
    rw [show e + 1 - p = e - p + 1 by omega] at h5
    rw [hg, if_pos h5.symm]
end Go.Proofs.YtcijhhnbhnaiaaaGreatDoor.Var
