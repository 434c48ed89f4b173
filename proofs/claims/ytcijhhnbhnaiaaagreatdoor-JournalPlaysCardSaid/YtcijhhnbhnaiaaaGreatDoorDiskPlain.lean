/- A disk in plain Lean: files by their names, rising; what each of its methods answers and leaves. No program in sight. -/
import Derived.Maps.Views
import Derived.Maps.Ext
import Derived.Sort.KeysCollected
import Derived.Test.YtcijhhnbhnaiaaaGreatDoorRows
namespace Go.Proofs.YtcijhhnbhnaiaaaGreatDoor.Dsk
open Go

abbrev Str := List UInt8
/-- A file: its bytes, how many of the first ones are safe. -/
structure Fl where
  data : Str
  safe : Nat
abbrev Files := List (Str × Fl)

def ins (x : Str × Fl) : Files → Files
  | [] => [x]
  | y :: r => if bytesBefore x.1 y.1 then x :: y :: r else y :: ins x r
def del (m : Files) (k : Str) : Files := m.filter fun p => !(p.1 == k)
def put (m : Files) (k : Str) (f : Fl) : Files := ins (k, f) (del m k)
def get (m : Files) (k : Str) : Option Fl := (m.find? fun p => p.1 == k).map (·.2)
def total (m : Files) : Nat := (m.map fun p => p.2.data.length).sum
def names (m : Files) : List Str := m.map (·.1)
def Rising (m : Files) : Prop := m.Pairwise fun p q => bytesBefore p.1 q.1 = true

/-! ### as a map's datum -/
section
variable {H : Type}
def encF (f : Fl) : DataW H := .agg [.lit (.string f.data), .lit (.int .i64 f.safe)]
def encP (p : Str × Fl) : Lit × DataW H := (.string p.1, encF p.2)
def encD (m : Files) : DataW H := .map (m.map encP)
theorem encF_inj {f g : Fl} (h : encF (H := H) f = encF g) : f = g := by
  obtain ⟨a, b⟩ := f; obtain ⟨c, d⟩ := g
  simp [encF] at h
  obtain ⟨rfl, h⟩ := h
  have : b = d := by omega
  rw [this]
theorem encP_key (p : Str × Fl) (k : Str) : (encP (H := H) p).1.sameKey (.string k) = (p.1 == k) := rfl
theorem encD_del (m : Files) (k : Str) : (encD (H := H) m).del (.string k) = encD (del m k) := by
  show DataW.map ((m.map encP).filter _) = DataW.map ((m.filter _).map encP)
  rw [List.filter_map]
  rfl
theorem insert_enc (x : Str × Fl) : ∀ m : Files, DataW.insert (encP (H := H) x) (m.map encP) = (ins x m).map encP
  | [] => rfl
  | y :: r => by
    simp only [List.map_cons, DataW.insert, ins]
    have e : (encP (H := H) x).1.before (encP (H := H) y).1 = bytesBefore x.1 y.1 := rfl
    rw [e]
    split
    · rfl
    · rw [insert_enc x r]; rfl
theorem encD_put (m : Files) (k : Str) (f : Fl) : (encD (H := H) m).put (.string k) (encF f) = encD (put m k f) := by
  show DataW.map (DataW.insert _ ((m.map encP).filter _)) = DataW.map ((ins (k, f) (m.filter _)).map encP)
  rw [List.filter_map]
  exact congrArg DataW.map (insert_enc (k, f) _)
theorem encD_at (m : Files) (k : Str) (z : DataW H) : (encD m).atKey (.string k) z = match get m k with | some f => encF f | none => z := by
  unfold encD DataW.atKey get
  induction m with
  | nil => rfl
  | cons p r ih =>
    simp only [List.map_cons, List.find?_cons, encP_key]
    cases p.1 == k
    · simpa using ih
    · rfl
theorem encD_has (m : Files) (k : Str) : Maps.has (encD (H := H) m) (.string k) = (get m k).isSome := by
  unfold encD Maps.has get
  induction m with
  | nil => rfl
  | cons p r ih =>
    simp only [List.map_cons, List.find?_cons, List.any_cons, encP_key]
    cases p.1 == k
    · simpa using ih
    · rfl
theorem encD_size (m : Files) : Maps.size (encD (H := H) m) = m.length := by simp [encD, Maps.size]
theorem encD_keys (m : Files) : strKeys (encD (H := H) m) = names m := by simp [encD, strKeys, names, encP, strOf]
end

/-! ### the order -/
theorem before_lt : ∀ (a b : Str), bytesBefore a b = true → a < b
  | [], [], h => by simp [bytesBefore] at h
  | [], _ :: _, _ => List.Lex.nil
  | _ :: _, [], h => by simp [bytesBefore] at h
  | a :: r, b :: s, h => by
    simp only [bytesBefore, Bool.or_eq_true, Bool.and_eq_true, decide_eq_true_eq, beq_iff_eq] at h
    rcases h with h | ⟨rfl, h⟩
    · exact List.Lex.rel h
    · exact List.Lex.cons (before_lt r s h)
theorem before_of_lt : ∀ (a b : Str), a < b → bytesBefore a b = true
  | [], [], h => by cases h
  | [], _ :: _, _ => rfl
  | _ :: _, [], h => by cases h
  | a :: r, b :: s, h => by
    simp only [bytesBefore, Bool.or_eq_true, Bool.and_eq_true, decide_eq_true_eq, beq_iff_eq]
    cases h with
    | cons h => exact .inr ⟨rfl, before_of_lt r s h⟩
    | rel h => exact .inl h
theorem before_iff (a b : Str) : bytesBefore a b = decide (a < b) := by
  rw [Bool.eq_iff_iff, decide_eq_true_eq]
  exact ⟨before_lt a b, before_of_lt a b⟩
theorem before_trans {a b c : Str} (h : bytesBefore a b = true) (k : bytesBefore b c = true) : bytesBefore a c = true := WideShapes.bytes_trans a b c h k
theorem before_irrefl (a : Str) : bytesBefore a a = false := WideAt.bytes_irrefl a
theorem before_ne {a b : Str} (h : bytesBefore a b = true) : a ≠ b := fun e => by rw [e, before_irrefl] at h; cases h
theorem before_total {a b : Str} (h : a ≠ b) : bytesBefore a b = true ∨ bytesBefore b a = true := WideAt.bytes_total a b h

theorem mem_ins {x y : Str × Fl} : ∀ {m : Files}, y ∈ ins x m ↔ y = x ∨ y ∈ m
  | [] => by simp [ins]
  | z :: r => by
    unfold ins
    split
    · simp
    · simp only [List.mem_cons, mem_ins (m := r)]
      constructor
      · rintro (h | h | h) <;> simp [h]
      · rintro (h | h | h) <;> simp [h]
theorem ins_perm (x : Str × Fl) : ∀ m : Files, (ins x m).Perm (x :: m)
  | [] => List.Perm.refl _
  | z :: r => by
    unfold ins
    split
    · exact List.Perm.refl _
    · exact ((ins_perm x r).cons z).trans (List.Perm.swap x z r)
theorem ins_length (x : Str × Fl) (m : Files) : (ins x m).length = m.length + 1 := by rw [(ins_perm x m).length_eq]; rfl
theorem del_sub (m : Files) (k : Str) : (del m k).Sublist m := List.filter_sublist
theorem mem_del {m : Files} {k : Str} {p : Str × Fl} : p ∈ del m k ↔ p ∈ m ∧ p.1 ≠ k := by simp [del]
theorem rising_del {m : Files} (h : Rising m) (k : Str) : Rising (del m k) := List.Pairwise.sublist (del_sub m k) h
theorem rising_ins {x : Str × Fl} : ∀ {m : Files}, Rising m → (∀ p ∈ m, p.1 ≠ x.1) → Rising (ins x m)
  | [], _, _ => by simp [ins, Rising]
  | y :: r, h, hne => by
    obtain ⟨h1, h2⟩ := List.pairwise_cons.1 h
    unfold ins
    split
    · rename_i hb
      refine List.pairwise_cons.2 ⟨fun q hq => ?_, h⟩
      rcases List.mem_cons.1 hq with rfl | hq
      · exact hb
      · exact before_trans hb (h1 q hq)
    · rename_i hb
      refine List.pairwise_cons.2 ⟨fun q hq => ?_, rising_ins h2 fun p hp => hne p (by simp [hp])⟩
      rcases mem_ins.1 hq with rfl | hq
      · rcases before_total (hne y (by simp)) with h' | h'
        · exact h'
        · exact absurd h' hb
      · exact h1 q hq
theorem rising_put {m : Files} (h : Rising m) (k : Str) (f : Fl) : Rising (put m k f) := rising_ins (rising_del h k) fun _ hp => (mem_del.1 hp).2
theorem rising_apart {m : Files} (h : Rising m) : m.Pairwise fun p q => p.1 ≠ q.1 := h.imp before_ne
theorem names_rising {m : Files} (h : Rising m) : (names m).Pairwise fun a b => bytesBefore a b = true := List.pairwise_map.2 h

theorem get_mem {m : Files} {k : Str} {f : Fl} (h : get m k = some f) : (k, f) ∈ m := by
  unfold get at h
  rw [Option.map_eq_some_iff] at h
  obtain ⟨p, hp, rfl⟩ := h
  have h1 := List.find?_some hp
  have h2 := List.mem_of_find?_eq_some hp
  rw [beq_iff_eq] at h1
  rw [← h1]; exact h2
theorem get_none {m : Files} {k : Str} (h : get m k = none) : ∀ p ∈ m, p.1 ≠ k := by
  unfold get at h
  rw [Option.map_eq_none_iff, List.find?_eq_none] at h
  intro p hp e
  exact h p hp (by rw [beq_iff_eq]; exact e)
theorem get_of_mem {m : Files} (hm : m.Pairwise fun p q => p.1 ≠ q.1) {k : Str} {f : Fl} (h : (k, f) ∈ m) : get m k = some f := by
  induction m with
  | nil => cases h
  | cons p r ih =>
    obtain ⟨h1, h2⟩ := List.pairwise_cons.1 hm
    unfold get
    rw [List.find?_cons]
    rcases List.mem_cons.1 h with rfl | h
    · simp
    · have : (p.1 == k) = false := by rw [beq_eq_false_iff_ne]; exact h1 _ h
      rw [this]
      exact ih h2 h
theorem del_none {m : Files} {k : Str} (h : get m k = none) : del m k = m := by
  unfold del
  rw [List.filter_eq_self]
  intro p hp
  have := get_none h p hp
  simpa using this
theorem del_perm {m : Files} (hm : m.Pairwise fun p q => p.1 ≠ q.1) {k : Str} {f : Fl} (h : get m k = some f) : m.Perm ((k, f) :: del m k) := by
  induction m with
  | nil => simp [get] at h
  | cons p r ih =>
    obtain ⟨h1, h2⟩ := List.pairwise_cons.1 hm
    by_cases hp : p.1 = k
    · have e : p = (k, f) := by
        have := get_mem h
        rcases List.mem_cons.1 this with h3 | h3
        · exact h3.symm
        · exact absurd hp (h1 _ h3)
      subst e
      have : del ((k, f) :: r) k = r := by
        unfold del
        rw [List.filter_cons_of_neg (by simp)]
        rw [List.filter_eq_self]
        intro q hq
        have := h1 q hq
        simpa using this.symm
      rw [this]
    · have hg : get r k = some f := by
        unfold get at h ⊢
        rw [List.find?_cons_of_neg (by simpa using hp)] at h
        exact h
      have hd : del (p :: r) k = p :: del r k := by
        unfold del
        rw [List.filter_cons_of_pos (by simpa using hp)]
      rw [hd]
      exact ((ih h2 hg).cons p).trans (List.Perm.swap _ _ _)
theorem total_perm {m m' : Files} (h : m.Perm m') : total m = total m' := (h.map _).sum_nat
theorem total_cons (p : Str × Fl) (m : Files) : total (p :: m) = p.2.data.length + total m := rfl
theorem total_ins (x : Str × Fl) (m : Files) : total (ins x m) = x.2.data.length + total m := total_perm (ins_perm x m)
theorem del_total {m : Files} (hm : m.Pairwise fun p q => p.1 ≠ q.1) {k : Str} {f : Fl} (h : get m k = some f) : total m = f.data.length + total (del m k) := total_perm (del_perm hm h)
theorem del_length {m : Files} (hm : m.Pairwise fun p q => p.1 ≠ q.1) {k : Str} {f : Fl} (h : get m k = some f) : m.length = (del m k).length + 1 := (del_perm hm h).length_eq
theorem del_le (m : Files) (k : Str) : (del m k).length ≤ m.length := (del_sub m k).length_le
theorem total_sub {m m' : Files} (h : m.Sublist m') : total m ≤ total m' := by
  induction h with
  | slnil => exact Nat.le_refl _
  | cons a _ ih => rw [total_cons]; omega
  | cons_cons a _ ih => rw [total_cons, total_cons]; omega
theorem put_length (m : Files) (k : Str) (f : Fl) : (put m k f).length = (del m k).length + 1 := ins_length _ _
theorem put_total (m : Files) (k : Str) (f : Fl) : total (put m k f) = f.data.length + total (del m k) := total_ins _ _
theorem mem_put {m : Files} {k : Str} {f : Fl} {p : Str × Fl} : p ∈ put m k f ↔ p = (k, f) ∨ (p ∈ m ∧ p.1 ≠ k) := by unfold put; rw [mem_ins, mem_del]
theorem get_put_same {m : Files} (hm : Rising m) (k : Str) (f : Fl) : get (put m k f) k = some f := get_of_mem (rising_apart (rising_put hm k f)) (mem_put.2 (.inl rfl))
theorem get_eq_of_mem_iff {m m' : Files} (h' : Rising m') {k : Str} (hi : ∀ f, (k, f) ∈ m ↔ (k, f) ∈ m') : get m k = get m' k := by
  cases hg : get m k with
  | some f => exact (get_of_mem (rising_apart h') ((hi f).1 (get_mem hg))).symm
  | none =>
    cases hg' : get m' k with
    | none => rfl
    | some f => exact absurd rfl (get_none hg _ ((hi f).2 (get_mem hg')))
theorem get_put_other {m : Files} (hm : Rising m) {k k' : Str} (hne : k' ≠ k) (f : Fl) : get (put m k f) k' = get m k' :=
  get_eq_of_mem_iff hm fun g => by
    rw [mem_put]
    constructor
    · rintro (h | h)
      · cases h; exact absurd rfl hne
      · exact h.1
    · exact fun h => .inr ⟨h, hne⟩
theorem get_del_same (m : Files) (k : Str) : get (del m k) k = none := by
  cases h : get (del m k) k with
  | none => rfl
  | some f => exact absurd rfl (mem_del.1 (get_mem h)).2
theorem get_del_other {m : Files} (hm : Rising m) {k k' : Str} (hne : k' ≠ k) : get (del m k) k' = get m k' :=
  get_eq_of_mem_iff hm fun g => by
    rw [mem_del]
    exact ⟨fun h => h.1, fun h => ⟨h, hne⟩⟩

/-- What is sorted of a rising map's names is the names. -/
theorem sorted_names {m : Files} (h : Rising m) {ss : List Str} (hp : ss.Perm (names m)) : ss.mergeSort (fun x y => decide (x ≤ y)) = names m := by
  have e : ss.mergeSort leB = (names m).mergeSort leB := mergeSort_of_perm hp
  show ss.mergeSort leB = names m
  rw [e]
  refine List.mergeSort_of_pairwise ?_
  refine (names_rising h).imp fun {a b} hb => ?_
  simp only [leB, decide_eq_true_eq]
  exact List.le_of_lt (before_lt a b hb)

/-! ### a disk -/
structure Dk where
  room : Nat
  starts : Int
  off : Bool
  files : Files
  fail : Option Int
  keep : List Int

def Named (n : Str) : Prop := 1 ≤ n.length ∧ n.length ≤ 16
instance (n : Str) : Decidable (Named n) := by unfold Named; exact inferInstance
/-- How much of a file stays. -/
def stays (f : Fl) (k : Option Int) : Nat := f.safe + (min (max (k.getD 0) 0) ((f.data.length : Int) - f.safe)).toNat
def cutF (f : Fl) (k : Option Int) : Fl := ⟨f.data.take (stays f k), stays f k⟩
def cutL (keep : List Int) (i : Nat) : Files → Files
  | [] => []
  | p :: r => (p.1, cutF p.2 keep[i]?) :: cutL keep (i + 1) r
structure Ok (d : Dk) : Prop where
  room1 : 1 ≤ d.room
  room2 : d.room ≤ 1048576
  rising : Rising d.files
  named : ∀ p ∈ d.files, Named p.1
  safe : ∀ p ∈ d.files, p.2.safe ≤ p.2.data.length
  count : d.files.length ≤ 1024
  fits : total d.files ≤ d.room
  starts : -9223372036854775808 ≤ d.starts ∧ d.starts ≤ 9223372036854775807
  keep : d.keep.length ≤ 1099511627776

/-- A scheduled crash's counter. -/
def FOk (d : Dk) : Prop := ∀ n, d.fail = some n → 0 ≤ n ∧ n ≤ 9223372036854775807

def Dk.crashed (d : Dk) (keep : List Int) : Dk := { d with off := true, fail := none, files := cutL keep 0 d.files }
/-- A change: made, or the disk crashes with it. -/
def Dk.change (d : Dk) (files : Files) : Int × Dk :=
  match d.fail with
  | some n => if n ≤ 0 then (51, d.crashed d.keep) else (0, { d with fail := some (n - 1), files := files })
  | none => (0, { d with files := files })
def Dk.append (d : Dk) (name s : Str) : Int × Dk :=
  if d.off then (51, d)
  else if ¬ Named name then (2, d)
  else if (get d.files name = none ∧ 1024 ≤ d.files.length) ∨ d.room < total d.files + s.length then (50, d)
  else
    let f := (get d.files name).getD ⟨[], 0⟩
    let m := put d.files name ⟨f.data ++ s, f.safe⟩
    ({ d with files := m } : Dk).change m
def Dk.sync (d : Dk) (name : Str) : Int × Dk :=
  if d.off then (51, d)
  else match get d.files name with
    | none => (4, d)
    | some f => d.change (put d.files name ⟨f.data, f.data.length⟩)
def Dk.rename (d : Dk) (fr to : Str) : Int × Dk :=
  if d.off then (51, d)
  else match get d.files fr with
    | none => (4, d)
    | some f => if ¬ Named to then (2, d) else d.change (put (del d.files fr) to f)
def Dk.remove (d : Dk) (name : Str) : Int × Dk :=
  if d.off then (51, d)
  else match get d.files name with
    | none => (4, d)
    | some _ => d.change (del d.files name)
def Dk.read (d : Dk) (name : Str) : Str × Int :=
  if d.off then ([], 51)
  else match get d.files name with
    | none => ([], 4)
    | some f => (f.data, 0)
def Dk.synced (d : Dk) (name : Str) : Nat := match get d.files name with | none => 0 | some f => f.safe
def Dk.unsynced (d : Dk) : List Int := d.files.map fun p => (p.2.data.length : Int) - p.2.safe
def Dk.crash (d : Dk) (keep : List Int) : Int × Dk := if d.off then (51, d) else (0, d.crashed keep)
def Dk.failAt (d : Dk) (n : Int) (keep : List Int) : Int × Dk :=
  if d.off then (51, d) else if n < 0 then (2, d) else (0, { d with fail := some n, keep := keep })
def Dk.start (d : Dk) : Int × Dk := if d.off then (0, { d with off := false, starts := IntKind.i64.wrap (d.starts + 1) }) else (2, d)
def Dk.new (capacity : Nat) : Dk := ⟨capacity, 0, false, [], none, []⟩

theorem stays_le {f : Fl} (h : f.safe ≤ f.data.length) (k : Option Int) : stays f k ≤ f.data.length := by unfold stays; omega
theorem cutF_len {f : Fl} (h : f.safe ≤ f.data.length) (k : Option Int) : (cutF f k).data.length = stays f k := by
  have := stays_le h k
  simp [cutF]; omega
theorem cutL_names (keep : List Int) : ∀ (i : Nat) (m : Files), names (cutL keep i m) = names m
  | _, [] => rfl
  | i, p :: r => by simp only [cutL, names, List.map_cons]; congr 1; exact cutL_names keep (i + 1) r
theorem cutL_length (keep : List Int) (i : Nat) (m : Files) : (cutL keep i m).length = m.length := by
  have := congrArg List.length (cutL_names keep i m)
  simpa [names] using this
theorem rising_of_names {m m' : Files} (h : names m' = names m) (hm : Rising m) : Rising m' := by
  have := names_rising hm
  rw [← h] at this
  exact List.pairwise_map.1 this
theorem cutL_mem {keep : List Int} {p : Str × Fl} : ∀ {i : Nat} {m : Files}, p ∈ cutL keep i m → ∃ q ∈ m, ∃ k, p = (q.1, cutF q.2 k)
  | _, [], h => by cases h
  | i, q :: r, h => by
    simp only [cutL, List.mem_cons] at h
    rcases h with rfl | h
    · exact ⟨q, by simp, _, rfl⟩
    · obtain ⟨q', hq, k, e⟩ := cutL_mem h
      exact ⟨q', by simp [hq], k, e⟩
theorem cutL_total (keep : List Int) : ∀ (i : Nat) (m : Files), (∀ p ∈ m, p.2.safe ≤ p.2.data.length) → total (cutL keep i m) ≤ total m
  | _, [], _ => Nat.le_refl _
  | i, p :: r, h => by
    have h1 := cutL_total keep (i + 1) r fun q hq => h q (by simp [hq])
    have h2 := cutF_len (h p (by simp)) keep[i]?
    have h3 := stays_le (h p (by simp)) keep[i]?
    simp only [cutL, total_cons]
    rw [h2]; omega
theorem Ok.crashed {d : Dk} (h : Ok d) (keep : List Int) : Ok (d.crashed keep) where
  room1 := h.room1
  room2 := h.room2
  rising := rising_of_names (cutL_names keep 0 d.files) h.rising
  named := fun p hp => by
    obtain ⟨q, hq, k, rfl⟩ := cutL_mem hp
    exact h.named q hq
  safe := fun p hp => by
    obtain ⟨q, hq, k, rfl⟩ := cutL_mem hp
    show stays q.2 k ≤ _
    rw [cutF_len (h.safe q hq)]
    exact Nat.le_refl _
  count := by show (cutL keep 0 d.files).length ≤ _; rw [cutL_length]; exact h.count
  fits := Nat.le_trans (cutL_total keep 0 d.files h.safe) h.fits
  starts := h.starts
  keep := h.keep
theorem Ok.files {d : Dk} (h : Ok d) {m : Files} (h1 : Rising m) (h2 : ∀ p ∈ m, Named p.1 ∧ p.2.safe ≤ p.2.data.length) (h3 : m.length ≤ 1024) (h4 : total m ≤ d.room) : Ok { d with files := m } :=
  ⟨h.room1, h.room2, h1, fun p hp => (h2 p hp).1, fun p hp => (h2 p hp).2, h3, h4, h.starts, h.keep⟩
theorem Ok.change {d : Dk} (h : Ok d) {m : Files} (h1 : Rising m) (h2 : ∀ p ∈ m, Named p.1 ∧ p.2.safe ≤ p.2.data.length) (h3 : m.length ≤ 1024) (h4 : total m ≤ d.room) : Ok (d.change m).2 := by
  unfold Dk.change
  split
  · split
    · exact h.crashed _
    · have := h.files h1 h2 h3 h4
      exact ⟨this.room1, this.room2, this.rising, this.named, this.safe, this.count, this.fits, this.starts, this.keep⟩
  · exact h.files h1 h2 h3 h4
theorem append_facts {d : Dk} (h : Ok d) {name s : Str} (hn : Named name) (h3 : ¬ ((get d.files name = none ∧ 1024 ≤ d.files.length) ∨ d.room < total d.files + s.length)) {m : Files}
    (hm : m = put d.files name ⟨((get d.files name).getD ⟨[], 0⟩).data ++ s, ((get d.files name).getD ⟨[], 0⟩).safe⟩) : Rising m ∧ (∀ p ∈ m, Named p.1 ∧ p.2.safe ≤ p.2.data.length) ∧ m.length ≤ 1024 ∧ total m ≤ d.room := by
  subst hm
  have hap := rising_apart h.rising
  refine ⟨rising_put h.rising _ _, fun p hp => ?_, ?_, ?_⟩
  · rcases mem_put.1 hp with rfl | ⟨hp, _⟩
    · refine ⟨hn, ?_⟩
      cases hg : get d.files name with
      | none => exact Nat.zero_le _
      | some f =>
        have := h.safe _ (get_mem hg)
        simp at this ⊢; omega
    · exact ⟨h.named p hp, h.safe p hp⟩
  · rw [put_length]
    cases hg : get d.files name with
    | none =>
      rw [del_none hg]
      have : ¬ 1024 ≤ d.files.length := fun e => h3 (.inl ⟨hg, e⟩)
      omega
    | some f =>
      have := del_length hap hg
      have := h.count
      omega
  · rw [put_total]
    have h4 : ¬ d.room < total d.files + s.length := fun e => h3 (.inr e)
    cases hg : get d.files name with
    | none => rw [del_none hg]; simp; omega
    | some f => have := del_total hap hg; simp; omega
theorem Ok.append {d : Dk} (h : Ok d) (name s : Str) : Ok (d.append name s).2 := by
  unfold Dk.append
  split
  · exact h
  split
  · exact h
  split
  · exact h
  rename_i h1 h2 h3
  obtain ⟨a, b, c, e⟩ := append_facts h (Classical.not_not.1 h2) h3 rfl
  exact (h.files a b c e).change a b c e
theorem Ok.sync {d : Dk} (h : Ok d) (name : Str) : Ok (d.sync name).2 := by
  unfold Dk.sync
  split
  · exact h
  split
  · exact h
  · rename_i f hg
    have hap := rising_apart h.rising
    refine h.change (rising_put h.rising _ _) (fun p hp => ?_) ?_ ?_
    · rcases mem_put.1 hp with rfl | ⟨hp, _⟩
      · exact ⟨h.named (name, f) (get_mem hg), Nat.le_refl _⟩
      · exact ⟨h.named p hp, h.safe p hp⟩
    · rw [put_length]; have := del_length hap hg; have := h.count; omega
    · rw [put_total]; have := del_total hap hg; have := h.fits; simp; omega
theorem Ok.remove {d : Dk} (h : Ok d) (name : Str) : Ok (d.remove name).2 := by
  unfold Dk.remove
  split
  · exact h
  split
  · exact h
  · refine h.change (rising_del h.rising _) (fun p hp => ?_) ?_ ?_
    · have hp := (mem_del.1 hp).1
      exact ⟨h.named p hp, h.safe p hp⟩
    · have := del_le d.files name; have := h.count; omega
    · have := total_sub (del_sub d.files name); have := h.fits; omega
theorem Ok.rename {d : Dk} (h : Ok d) (fr to : Str) : Ok (d.rename fr to).2 := by
  unfold Dk.rename
  split
  · exact h
  split
  · exact h
  · rename_i f hg
    split
    · exact h
    · rename_i hn
      have hn : Named to := Classical.not_not.1 hn
      have hap := rising_apart h.rising
      have h1 := rising_del h.rising fr
      have h5 := del_total hap hg
      have h6 := del_length hap hg
      have h7 := del_le (del d.files fr) to
      have h8 := total_sub (del_sub (del d.files fr) to)
      refine h.change (rising_put h1 _ _) (fun p hp => ?_) ?_ ?_
      · rcases mem_put.1 hp with rfl | ⟨hp, _⟩
        · exact ⟨hn, h.safe (fr, f) (get_mem hg)⟩
        · have hp := (mem_del.1 hp).1
          exact ⟨h.named p hp, h.safe p hp⟩
      · rw [put_length]; have := h.count; omega
      · rw [put_total]; have := h.fits; omega
theorem Ok.crash {d : Dk} (h : Ok d) (keep : List Int) : Ok (d.crash keep).2 := by
  unfold Dk.crash
  split
  · exact h
  · exact h.crashed keep
theorem Ok.failAt {d : Dk} (h : Ok d) (n : Int) (keep : List Int) (hk : keep.length ≤ 1099511627776) : Ok (d.failAt n keep).2 := by
  unfold Dk.failAt
  split
  · exact h
  split
  · exact h
  · exact ⟨h.room1, h.room2, h.rising, h.named, h.safe, h.count, h.fits, h.starts, hk⟩
theorem Ok.start {d : Dk} (h : Ok d) : Ok d.start.2 := by
  unfold Dk.start
  split
  · refine ⟨h.room1, h.room2, h.rising, h.named, h.safe, h.count, h.fits, ?_, h.keep⟩
    show -9223372036854775808 ≤ IntKind.i64.wrap (d.starts + 1) ∧ IntKind.i64.wrap (d.starts + 1) ≤ 9223372036854775807
    rw [IntKind.wrap_i64]; omega
  · exact h
theorem Ok.new {c : Nat} (h1 : 1 ≤ c) (h2 : c ≤ 1048576) : Ok (Dk.new c) :=
  ⟨h1, h2, List.Pairwise.nil, fun _ hp => (by cases hp), fun _ hp => (by cases hp), Nat.zero_le _, Nat.zero_le _, ⟨(by show (-9223372036854775808 : Int) ≤ 0; omega), (by show (0 : Int) ≤ 9223372036854775807; omega)⟩, Nat.zero_le _⟩
theorem FOk.change {d : Dk} (h : FOk d) (m : Files) : FOk (d.change m).2 := by
  intro n hn
  unfold Dk.change at hn
  split at hn
  · rename_i k hk
    split at hn
    · cases hn
    · cases hn; have := h _ hk; omega
  · exact h n hn
theorem FOk.same {d d' : Dk} (h : FOk d) (e : d'.fail = d.fail) : FOk d' := fun n hn => h n (e ▸ hn)
theorem ins_mid {k : Str} {g : Fl} : ∀ {a b : Files}, (∀ p ∈ a, bytesBefore p.1 k = true) → (∀ p ∈ b, bytesBefore k p.1 = true) → ins (k, g) (a ++ b) = a ++ (k, g) :: b
  | [], [], _, _ => rfl
  | [], y :: r, _, hb => by
    show ins (k, g) (y :: r) = _
    rw [ins, if_pos (hb y (by simp))]; rfl
  | p :: a, b, ha, hb => by
    show ins (k, g) (p :: (a ++ b)) = _
    have h1 := ha p (by simp)
    rw [ins, if_neg, ins_mid (fun q hq => ha q (by simp [hq])) hb]
    · rfl
    · intro h2
      have := before_trans h1 h2
      rw [before_irrefl] at this
      cases this
theorem put_mid {k : Str} {f g : Fl} {a b : Files} (h : Rising (a ++ (k, f) :: b)) : put (a ++ (k, f) :: b) k g = a ++ (k, g) :: b := by
  obtain ⟨h1, h2, h3⟩ := List.pairwise_append.1 h
  obtain ⟨h4, h5⟩ := List.pairwise_cons.1 h2
  have ha : ∀ p ∈ a, bytesBefore p.1 k = true := fun p hp => h3 p hp (k, f) (by simp)
  have hd : del (a ++ (k, f) :: b) k = a ++ b := by
    unfold del
    rw [List.filter_append, List.filter_cons_of_neg (by simp)]
    congr 1
    · rw [List.filter_eq_self]
      intro p hp
      simpa using before_ne (ha p hp)
    · rw [List.filter_eq_self]
      intro p hp
      simpa using (before_ne (h4 p hp)).symm
  unfold put
  rw [hd]
  exact ins_mid ha h4
/-- The first files cut, the others as they were. -/
def cutTo (keep : List Int) (k : Nat) (m : Files) : Files := cutL keep 0 (m.take k) ++ m.drop k
theorem cutL_append (keep : List Int) : ∀ (i : Nat) (a b : Files), cutL keep i (a ++ b) = cutL keep i a ++ cutL keep (i + a.length) b
  | _, [], _ => by simp [cutL]
  | i, p :: a, b => by
    simp only [List.cons_append, cutL, List.length_cons]
    rw [cutL_append keep (i + 1) a b, show i + 1 + a.length = i + (a.length + 1) by omega]
theorem cutTo_zero (keep : List Int) (m : Files) : cutTo keep 0 m = m := by simp [cutTo, cutL]
theorem cutTo_end (keep : List Int) (m : Files) : cutTo keep m.length m = cutL keep 0 m := by simp [cutTo]
theorem cutTo_names (keep : List Int) (k : Nat) (m : Files) : names (cutTo keep k m) = names m := by
  unfold cutTo
  have : names (cutL keep 0 (m.take k) ++ m.drop k) = names (cutL keep 0 (m.take k)) ++ names (m.drop k) := by simp [names]
  rw [this, cutL_names]
  have : names (m.take k) ++ names (m.drop k) = names (m.take k ++ m.drop k) := by simp [names]
  rw [this, List.take_append_drop]
theorem cutTo_length (keep : List Int) (k : Nat) (m : Files) : (cutTo keep k m).length = m.length := by
  have := congrArg List.length (cutTo_names keep k m)
  simpa [names] using this
theorem cutTo_step (keep : List Int) (k : Nat) (m : Files) (hm : Rising m) (hk : k < m.length) :
    get (cutTo keep k m) m[k].1 = some m[k].2 ∧ put (cutTo keep k m) m[k].1 (cutF m[k].2 keep[k]?) = cutTo keep (k + 1) m := by
  have hr : Rising (cutTo keep k m) := rising_of_names (cutTo_names keep k m) hm
  have e : m.drop k = (m[k].1, m[k].2) :: m.drop (k + 1) := by rw [List.drop_eq_getElem_cons hk]
  have e0 : cutTo keep k m = cutL keep 0 (m.take k) ++ (m[k].1, m[k].2) :: m.drop (k + 1) := by unfold cutTo; rw [e]
  refine ⟨?_, ?_⟩
  · refine get_of_mem (rising_apart hr) ?_
    rw [e0]; simp
  · rw [e0] at hr ⊢
    rw [put_mid hr]
    unfold cutTo
    rw [List.take_succ_eq_append_getElem hk, cutL_append]
    simp [cutL, List.length_take, Nat.min_eq_left (Nat.le_of_lt hk)]
theorem get_nth {m : Files} (hm : Rising m) (k : Nat) (hk : k < m.length) : get m m[k].1 = some m[k].2 := get_of_mem (rising_apart hm) (List.getElem_mem hk)
theorem total_take_succ (m : Files) (k : Nat) (hk : k < m.length) : total (m.take (k + 1)) = total (m.take k) + m[k].2.data.length := by
  unfold total
  rw [List.take_succ_eq_append_getElem hk, List.map_append, List.sum_append]; simp
theorem total_take_le (m : Files) (k : Nat) : total (m.take k) ≤ total m := total_sub (List.take_sublist k m)
theorem data_le {m : Files} {p : Str × Fl} (h : p ∈ m) : p.2.data.length ≤ total m := by
  induction m with
  | nil => cases h
  | cons q r ih =>
    rw [total_cons]
    rcases List.mem_cons.1 h with rfl | h
    · omega
    · have := ih h; omega
end Go.Proofs.YtcijhhnbhnaiaaaGreatDoor.Dsk
