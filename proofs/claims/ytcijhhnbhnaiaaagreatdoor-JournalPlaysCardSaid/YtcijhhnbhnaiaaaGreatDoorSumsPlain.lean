/- Plain facts on checksums (Adler-32) as functions on lists of bytes: no program in sight. -/
import Derived.Laws.BitsAllLaws
namespace Adl

def upd (p : Int × Int) (x : UInt8) : Int × Int := ((p.1 + x.toNat) % 65521, (p.2 + (p.1 + x.toNat) % 65521) % 65521)
def run (p : Int × Int) (l : List UInt8) : Int × Int := l.foldl upd p
def parts (s : Int) : Int × Int := (s % 65536 % 65521, s / 65536 % 65521)
def whole (p : Int × Int) : Int := p.2 * 65536 + p.1
def more (s : Int) (l : List UInt8) : Int := whole (run (parts s) l)
def sum (l : List UInt8) : Int := more 1 l
def roll (s n o i : Int) : Int :=
  whole (((parts s).1 - o + i) % 65521, ((parts s).2 - n % 65521 * o + ((parts s).1 - o + i) % 65521 - 1) % 65521)
/-- Both parts are below the modulus. -/
def In (p : Int × Int) : Prop := 0 ≤ p.1 ∧ p.1 < 65521 ∧ 0 ≤ p.2 ∧ p.2 < 65521

theorem In.upd {p : Int × Int} (x : UInt8) : In (upd p x) := by unfold In Adl.upd; simp only; omega
theorem In.run {p : Int × Int} (h : In p) (l : List UInt8) : In (run p l) := by
  unfold Adl.run
  induction l generalizing p with
  | nil => exact h
  | cons x l ih => exact ih (In.upd x)
theorem In.parts (s : Int) : In (parts s) := by unfold In Adl.parts; simp only; omega
theorem In.whole {p : Int × Int} (h : In p) : 0 ≤ whole p ∧ whole p < 4294967296 := by unfold In at h; unfold Adl.whole; omega
theorem parts_whole {p : Int × Int} (h : In p) : parts (whole p) = p := by
  unfold In at h; unfold Adl.whole Adl.parts
  obtain ⟨a, b⟩ := p
  simp only at h
  simp only [Prod.mk.injEq]
  omega
theorem whole_inj {p q : Int × Int} (hp : In p) (hq : In q) (h : whole p = whole q) : p = q := by
  rw [← parts_whole hp, h, parts_whole hq]
theorem more_in (s : Int) (l : List UInt8) : 0 ≤ more s l ∧ more s l < 4294967296 := ((In.parts s).run l).whole
theorem sum_in (l : List UInt8) : 0 ≤ sum l ∧ sum l < 4294967296 := more_in 1 l
theorem parts_more (s : Int) (l : List UInt8) : parts (more s l) = run (parts s) l := parts_whole ((In.parts s).run l)
theorem run_append (p : Int × Int) (a b : List UInt8) : run p (a ++ b) = run (run p a) b := by unfold run; rw [List.foldl_append]
theorem more_sum (a b : List UInt8) : more (sum a) b = sum (a ++ b) := by
  unfold sum
  unfold more
  rw [parts_whole ((In.parts 1).run a), ← run_append]
theorem more_nil_sum (a : List UInt8) : more (sum a) [] = sum a := by rw [more_sum, List.append_nil]

/-- The sum of the bytes, and the weighted sum. -/
def S (l : List UInt8) : Int := l.foldr (fun x s => x.toNat + s) 0
def W : List UInt8 → Int
  | [] => 0
  | x :: l => (l.length + 1) * x.toNat + W l
theorem S_cons (x : UInt8) (l : List UInt8) : S (x :: l) = x.toNat + S l := rfl
theorem S_append (a b : List UInt8) : S (a ++ b) = S a + S b := by
  induction a with
  | nil => simp [S]
  | cons x a ih => rw [List.cons_append, S_cons, S_cons, ih]; omega
theorem W_append (a b : List UInt8) : W (a ++ b) = W a + b.length * S a + W b := by
  induction a with
  | nil => simp [W, S]
  | cons x a ih =>
    rw [List.cons_append, W, W, ih, S_cons, List.length_append, Int.natCast_add, Int.mul_add, show ((a.length : Int) + b.length + 1) = (a.length + 1) + b.length by omega, Int.add_mul]
    omega
theorem run_eq (l : List UInt8) (a b : Int) (ha : 0 ≤ a ∧ a < 65521) (hb : 0 ≤ b ∧ b < 65521) : run (a, b) l = ((a + S l) % 65521, (b + l.length * a + W l) % 65521) := by
  induction l generalizing a b with
  | nil => simp [run, S, W, Int.emod_eq_of_lt ha.1 ha.2, Int.emod_eq_of_lt hb.1 hb.2]
  | cons x l ih =>
    have h : run (a, b) (x :: l) = run (upd (a, b) x) l := rfl
    rw [h]
    unfold upd
    rw [ih _ _ (by simp only; omega) (by simp only; omega), S_cons, W, List.length_cons]
    simp only [Prod.mk.injEq]
    refine ⟨by omega, ?_⟩
    have e : ((l.length : Int) + 1) * a = l.length * a + a := by rw [Int.add_mul]; omega
    have e2 : ((l.length : Int) + 1) * x.toNat = l.length * x.toNat + x.toNat := by rw [Int.add_mul]; omega
    have e3 : ((l.length : Int) * ((a + x.toNat) % 65521)) % 65521 = ((l.length : Int) * a + l.length * x.toNat) % 65521 := by
      rw [Int.mul_emod, Int.emod_emod_of_dvd _ (Int.dvd_refl _), ← Int.mul_emod, Int.mul_add]
    rw [Int.natCast_add, show ((1 : Nat) : Int) = 1 from rfl, e, e2]
    omega
theorem sum_run (l : List UInt8) : parts (sum l) = ((1 + S l) % 65521, (l.length + W l) % 65521) := by
  unfold sum
  rw [parts_more]
  have : parts 1 = (1, 0) := by decide
  rw [this, run_eq l 1 0 (by omega) (by omega), Int.mul_one, Int.zero_add]
theorem sum_eq (l : List UInt8) : sum l = whole ((1 + S l) % 65521, (l.length + W l) % 65521) := by
  rw [← sum_run]
  exact congrArg whole (parts_more 1 l).symm
/-- A window's sum, one byte on. -/
theorem roll_sum (x y : UInt8) (l : List UInt8) : roll (sum (x :: l)) (l.length + 1 : Nat) x.toNat y.toNat = sum (l ++ [y]) := by
  unfold roll
  rw [sum_run, sum_eq]
  congr 1
  rw [S_cons, W, S_append, W_append, List.length_append, List.length_cons]
  have hS : S [y] = y.toNat := by simp [S]
  have hW : W [y] = y.toNat := by simp [W]
  rw [hS, hW]
  simp only [Prod.mk.injEq, List.length_cons, List.length_nil]
  refine ⟨by omega, ?_⟩
  have e3 : (((l.length + 1 : Nat) : Int) % 65521 * x.toNat) % 65521 = ((l.length + 1 : Nat) * (x.toNat : Int)) % 65521 := by
    rw [Int.mul_emod, Int.emod_emod_of_dvd _ (Int.dvd_refl _), ← Int.mul_emod]
  have e2 : ((l.length + 1 : Nat) : Int) * x.toNat = l.length * x.toNat + x.toNat := by rw [Int.natCast_add, Int.add_mul]; omega
  have e4 : ((l.length : Int) + 1) * x.toNat = l.length * x.toNat + x.toNat := by rw [Int.add_mul]; omega
  rw [e2] at e3
  rw [e4]
  simp only [Int.natCast_add] at *
  omega
/-- One byte is another one: the sums part. -/
theorem sum_set (l : List UInt8) (k : Nat) (y : UInt8) (hk : k < l.length) : sum (l.set k y) = sum l ↔ y = l[k] := by
  constructor
  · intro h
    have h1 : parts (sum (l.set k y)) = parts (sum l) := by rw [h]
    rw [sum_run, sum_run] at h1
    simp only [Prod.mk.injEq] at h1
    have hs : ∀ (l : List UInt8) (k : Nat) (hk : k < l.length), S (l.set k y) = S l - l[k].toNat + y.toNat := by
      intro l
      induction l with
      | nil => intro k hk; simp at hk
      | cons x l ih =>
        intro k hk
        cases k with
        | zero => simp only [List.set_cons_zero, S_cons, List.getElem_cons_zero]; omega
        | succ k => simp only [List.set_cons_succ, S_cons, List.getElem_cons_succ]; rw [ih k (by simpa using hk)]; omega
    have h2 := h1.1
    rw [hs l k hk] at h2
    have b1 := l[k].toNat_lt
    have b2 := y.toNat_lt
    exact UInt8.toNat_inj.1 (by omega)
  · intro h
    subst h
    rw [List.set_getElem_self]
theorem dvd_small (p q : Nat) (hp : 0 < p) (hp2 : p < 65521) (hq : 0 < q) (hq2 : q < 256) : ¬ 65521 ∣ p * q := by
  intro h
  have hc : ∀ q, q < 256 → 0 < q → Nat.gcd 65521 q = 1 := by decide +kernel
  have : 65521 ∣ p := Nat.Coprime.dvd_of_dvd_mul_right (hc q hq2 hq) h
  have := Nat.le_of_dvd hp this
  omega
theorem S_set (y : UInt8) (l : List UInt8) (k : Nat) (hk : k < l.length) : S (l.set k y) = S l - l[k].toNat + y.toNat := by
  induction l generalizing k with
  | nil => simp at hk
  | cons x l ih =>
    cases k with
    | zero => simp only [List.set_cons_zero, S_cons, List.getElem_cons_zero]; omega
    | succ k => simp only [List.set_cons_succ, S_cons, List.getElem_cons_succ]; rw [ih k (by simpa using hk)]; omega
theorem W_set (y : UInt8) (l : List UInt8) (k : Nat) (hk : k < l.length) : W (l.set k y) = W l + (l.length - k) * ((y.toNat : Int) - l[k].toNat) := by
  induction l generalizing k with
  | nil => simp at hk
  | cons x l ih =>
    cases k with
    | zero =>
      simp only [List.set_cons_zero, W, List.getElem_cons_zero, List.length_cons]
      have : (((l.length + 1 : Nat) : Int) - (0 : Nat)) * ((y.toNat : Int) - x.toNat) = (l.length + 1) * (y.toNat : Int) - (l.length + 1) * (x.toNat : Int) := by
        rw [Int.mul_sub]; congr 1
      omega
    | succ k =>
      simp only [List.set_cons_succ, W, List.getElem_cons_succ, List.length_cons, List.length_set]
      rw [ih k (by simpa using hk)]
      have : (((l.length + 1 : Nat) : Int) - ((k + 1 : Nat) : Int)) = (l.length : Int) - k := by omega
      rw [this]
      omega
/-- Two bytes change places: the sums part where the bytes are unlike. -/
theorem sum_swap (l : List UInt8) (i k : Nat) (hi : i < l.length) (hk : k < l.length) (hl : l.length ≤ 50000) :
    sum ((l.set i l[k]).set k l[i]) = sum l ↔ l[i] = l[k] := by
  constructor
  · intro h
    rcases Nat.lt_trichotomy i k with hik | hik | hik
    · have h1 : parts (sum ((l.set i l[k]).set k l[i])) = parts (sum l) := by rw [h]
      rw [sum_run, sum_run] at h1
      simp only [Prod.mk.injEq] at h1
      have h2 := h1.2
      rw [W_set _ _ _ (by simpa using hk), W_set _ _ _ hi] at h2
      simp only [List.length_set] at h2
      rw [List.getElem_set_ne (by omega)] at h2
      have b1 := l[i].toNat_lt
      have b2 := l[k].toNat_lt
      refine UInt8.toNat_inj.1 ?_
      rcases Nat.lt_trichotomy l[i].toNat l[k].toNat with hc | hc | hc
      · refine absurd ?_ (dvd_small (k - i) (l[k].toNat - l[i].toNat) (by omega) (by omega) (by omega) (by omega))
        have e : (((k - i) * (l[k].toNat - l[i].toNat) : Nat) : Int) = (l.length - i) * ((l[k].toNat : Int) - l[i].toNat) + (l.length - k) * ((l[i].toNat : Int) - l[k].toNat) := by
          rw [Int.natCast_mul, Int.ofNat_sub (by omega), Int.ofNat_sub (by omega), show ((k : Int) - i) = (l.length - i) - (l.length - k) by omega, Int.sub_mul, show ((l[i].toNat : Int) - l[k].toNat) = - ((l[k].toNat : Int) - l[i].toNat) by omega, Int.mul_neg]
          omega
        omega
      · exact hc
      · refine absurd ?_ (dvd_small (k - i) (l[i].toNat - l[k].toNat) (by omega) (by omega) (by omega) (by omega))
        have e : (((k - i) * (l[i].toNat - l[k].toNat) : Nat) : Int) = - ((l.length - i) * ((l[k].toNat : Int) - l[i].toNat) + (l.length - k) * ((l[i].toNat : Int) - l[k].toNat)) := by
          rw [Int.natCast_mul, Int.ofNat_sub (by omega), Int.ofNat_sub (by omega), show ((k : Int) - i) = (l.length - i) - (l.length - k) by omega, Int.sub_mul, show ((l[k].toNat : Int) - l[i].toNat) = - ((l[i].toNat : Int) - l[k].toNat) by omega, Int.mul_neg]
          omega
        omega
    · subst hik; rfl
    · have h1 : parts (sum ((l.set i l[k]).set k l[i])) = parts (sum l) := by rw [h]
      rw [sum_run, sum_run] at h1
      simp only [Prod.mk.injEq] at h1
      have h2 := h1.2
      rw [W_set _ _ _ (by simpa using hk), W_set _ _ _ hi] at h2
      simp only [List.length_set] at h2
      rw [List.getElem_set_ne (by omega)] at h2
      have b1 := l[i].toNat_lt
      have b2 := l[k].toNat_lt
      refine UInt8.toNat_inj.1 ?_
      rcases Nat.lt_trichotomy l[i].toNat l[k].toNat with hc | hc | hc
      · refine absurd ?_ (dvd_small (i - k) (l[k].toNat - l[i].toNat) (by omega) (by omega) (by omega) (by omega))
        have e : (((i - k) * (l[k].toNat - l[i].toNat) : Nat) : Int) = - ((l.length - i) * ((l[k].toNat : Int) - l[i].toNat) + (l.length - k) * ((l[i].toNat : Int) - l[k].toNat)) := by
          rw [Int.natCast_mul, Int.ofNat_sub (by omega), Int.ofNat_sub (by omega), show ((i : Int) - k) = (l.length - k) - (l.length - i) by omega, Int.sub_mul, show ((l[i].toNat : Int) - l[k].toNat) = - ((l[k].toNat : Int) - l[i].toNat) by omega, Int.mul_neg]
          omega
        omega
      · exact hc
      · refine absurd ?_ (dvd_small (i - k) (l[i].toNat - l[k].toNat) (by omega) (by omega) (by omega) (by omega))
        have e : (((i - k) * (l[i].toNat - l[k].toNat) : Nat) : Int) = ((l.length - i) * ((l[k].toNat : Int) - l[i].toNat) + (l.length - k) * ((l[i].toNat : Int) - l[k].toNat)) := by
          rw [Int.natCast_mul, Int.ofNat_sub (by omega), Int.ofNat_sub (by omega), show ((i : Int) - k) = (l.length - k) - (l.length - i) by omega, Int.sub_mul, show ((l[k].toNat : Int) - l[i].toNat) = - ((l[i].toNat : Int) - l[k].toNat) by omega, Int.mul_neg]
          omega
        omega
  · intro h
    have e : l.set i l[k] = l := by rw [← h]; exact List.set_getElem_self _
    rw [e]
    have e2 : l.set k l[i] = l := by rw [h]; exact List.set_getElem_self _
    rw [e2]

/-- The four bytes of a number, most significant first. -/
def four (s : Int) : List UInt8 := [UInt8.ofNat (s / 16777216).toNat, UInt8.ofNat (s / 65536 % 256).toNat, UInt8.ofNat (s / 256 % 256).toNat, UInt8.ofNat (s % 256).toNat]
end Adl
