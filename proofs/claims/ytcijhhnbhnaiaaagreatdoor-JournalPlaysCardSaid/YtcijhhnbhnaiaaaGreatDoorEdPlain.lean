/- Edits, plainly: states, what an edit makes of one, where a key lies. No program in sight. -/
import Derived.Test.YtcijhhnbhnaiaaaGreatDoorRows
import Derived.Lib.SlicesCompact
import Derived.RowKit
namespace Go.Proofs.YtcijhhnbhnaiaaaGreatDoor.Ed
set_option linter.unusedSimpArgs false
set_option linter.unusedVariables false

structure Tab where
  frm : ByteArray
  tabs : List Int
structure St where
  l : List Tab
  log : Int
  next : Int
structure Edit where
  kind : Int
  at_ : Int
  file : Int
  files : List Int
  key : ByteArray

/-- One text ahead of another one. -/
def lt (x y : ByteArray) : Bool := Op.bytesLess x.toList y.toList
theorem bl_or : ∀ x y : List UInt8, (Op.bytesLess x y || x == y) = !Op.bytesLess y x
  | [], [] => rfl
  | [], _ :: _ => rfl
  | _ :: _, [] => rfl
  | x :: xs, y :: ys => by
    have ih := bl_or xs ys
    simp only [Op.bytesLess]
    rcases Nat.lt_trichotomy x.toNat y.toNat with h | h | h
    · have h1 : x < y := UInt8.lt_iff_toNat_lt.2 h
      have h2 : ¬ y < x := fun k => by have := UInt8.lt_iff_toNat_lt.1 k; omega
      have h3 : x ≠ y := fun k => by subst k; omega
      simp [h1, h2, Ne.symm h3]
    · obtain rfl : x = y := UInt8.toNat_inj.1 h
      simp
      rw [← ih]
    · have h1 : y < x := UInt8.lt_iff_toNat_lt.2 h
      have h2 : ¬ x < y := fun k => by have := UInt8.lt_iff_toNat_lt.1 k; omega
      have h3 : x ≠ y := fun k => by subst k; omega
      simp [h1, h2, h3]
theorem bl_trans : ∀ x y z : List UInt8, Op.bytesLess x y = true → Op.bytesLess y z = true → Op.bytesLess x z = true
  | _, [], _, h, _ => by simp [Op.bytesLess] at h
  | _, _ :: _, [], _, h => by simp [Op.bytesLess] at h
  | [], _ :: _, _ :: _, _, _ => rfl
  | x :: xs, y :: ys, z :: zs, h1, h2 => by
    simp only [Op.bytesLess, Bool.or_eq_true, decide_eq_true_eq, Bool.and_eq_true, beq_iff_eq] at *
    rcases h1 with h1 | ⟨rfl, h1⟩
    · rcases h2 with h2 | ⟨rfl, h2⟩
      · left
        rw [UInt8.lt_iff_toNat_lt] at *; omega
      · exact .inl h1
    · rcases h2 with h2 | ⟨rfl, h2⟩
      · exact .inl h2
      · exact .inr ⟨rfl, bl_trans xs ys zs h1 h2⟩
theorem lt_or (x y : ByteArray) : (Op.bytesLess x.toList y.toList || x.toList == y.toList) = !lt y x := bl_or _ _
theorem lt_trans {x y z : ByteArray} (h : lt x y = true) (k : lt y z = true) : lt x z = true := bl_trans _ _ _ h k
theorem lt_irrefl (x : ByteArray) : lt x x = false := by
  have h := lt_or x x
  cases e : lt x x with
  | false => rfl
  | true => rw [e] at h; simp at h
theorem lt_asymm {x y : ByteArray} (h : lt x y = true) : lt y x = false := by
  cases e : lt y x with
  | false => rfl
  | true => have := lt_trans h e; rw [lt_irrefl] at this; cases this
/-- Files' numbers rise, from 1 on, below another one. -/
def Rising (l : List Int) (b : Int) : Prop := ∀ (j : Nat) (hj : j < l.length), 1 ≤ l[j] ∧ l[j] < b ∧ (∀ h : 0 < j, l[j - 1] < l[j])
theorem rising_iff (l : List Int) (b : Int) : Rising l b ↔ (∀ n ∈ l, 1 ≤ n ∧ n < b) ∧ l.Pairwise (· < ·) := by
  constructor
  · intro h
    refine ⟨fun n hn => ?_, ?_⟩
    · obtain ⟨j, hj, rfl⟩ := List.mem_iff_getElem.1 hn
      exact ⟨(h j hj).1, (h j hj).2.1⟩
    · rw [List.pairwise_iff_getElem]
      intro i j hi hj hij
      induction j with
      | zero => omega
      | succ k ih =>
        have h1 := (h (k + 1) hj).2.2 (by omega)
        simp only [Nat.add_sub_cancel] at h1
        by_cases e : i = k
        · subst e; exact h1
        · exact Int.lt_trans (ih (by omega) (by omega)) h1
  · intro ⟨h1, h2⟩ j hj
    refine ⟨(h1 _ (List.getElem_mem hj)).1, (h1 _ (List.getElem_mem hj)).2, fun h => ?_⟩
    exact (List.pairwise_iff_getElem.1 h2) (j - 1) j (by omega) hj (by omega)
/-- A state may be. -/
structure Valid (s : St) : Prop where
  some : 0 < s.l.length
  few : s.l.length ≤ 16
  first : (s.l[0]'some).frm.size = 0
  log : 1 ≤ s.log
  logn : s.log < s.next
  next : s.next ≤ 2147483647
  each : ∀ (j : Nat) (hj : j < s.l.length), s.l[j].frm.size ≤ 64 ∧ (∀ h : 0 < j, lt s.l[j - 1].frm s.l[j].frm = true) ∧ Rising s.l[j].tabs s.next ∧ s.l[j].tabs.length ≤ 128

open Classical in
noncomputable def risingB (l : List Int) (b : Int) : Bool := decide (Rising l b)
theorem risingB_iff (l : List Int) (b : Int) : risingB l b = true ↔ Rising l b := by unfold risingB; exact @decide_eq_true_iff _ (Classical.propDecidable _)
open Classical in
noncomputable def validB (s : St) : Bool := decide (Valid s)
theorem validB_iff (s : St) : validB s = true ↔ Valid s := by unfold validB; exact @decide_eq_true_iff _ (Classical.propDecidable _)
theorem validB_false {s : St} (h : ¬ Valid s) : validB s = false := by rw [← Bool.not_eq_true, validB_iff]; exact h
theorem validB_true {s : St} (h : Valid s) : validB s = true := (validB_iff s).2 h
theorem risingB_false {l : List Int} {b : Int} (h : ¬ Rising l b) : risingB l b = false := by rw [← Bool.not_eq_true, risingB_iff]; exact h
theorem risingB_true {l : List Int} {b : Int} (h : Rising l b) : risingB l b = true := (risingB_iff l b).2 h
/-- Two rows with the same members that rise are one. -/
theorem sorted_ext : ∀ (a b : List Int), a.Pairwise (· < ·) → b.Pairwise (· < ·) → (∀ x, x ∈ a ↔ x ∈ b) → a = b
  | [], [], _, _, _ => rfl
  | [], y :: b, _, _, h => absurd ((h y).2 List.mem_cons_self) (by simp)
  | x :: a, [], _, _, h => absurd ((h x).1 List.mem_cons_self) (by simp)
  | x :: a, y :: b, ha, hb, h => by
    rw [List.pairwise_cons] at ha hb
    have exy : x = y := by
      rcases List.mem_cons.1 ((h x).1 List.mem_cons_self) with e | hx
      · exact e
      rcases List.mem_cons.1 ((h y).2 List.mem_cons_self) with e | hy
      · exact e.symm
      have h1 := hb.1 x hx
      have h2 := ha.1 y hy
      omega
    subst exy
    rw [sorted_ext a b ha.2 hb.2 fun z => ?_]
    constructor
    · intro hz
      have h1 := ha.1 z hz
      rcases List.mem_cons.1 ((h z).1 (List.mem_cons_of_mem _ hz)) with e | e
      · omega
      · exact e
    · intro hz
      have h1 := hb.1 z hz
      rcases List.mem_cons.1 ((h z).2 (List.mem_cons_of_mem _ hz)) with e | e
      · omega
      · exact e
/-- A number into a rising row. -/
def ins : List Int → Int → List Int
  | [], n => [n]
  | x :: l, n => if x < n then x :: ins l n else n :: x :: l
theorem ins_mem (n x : Int) : ∀ l : List Int, x ∈ ins l n ↔ x ∈ l ∨ x = n
  | [] => by simp [ins]
  | y :: l => by
    unfold ins
    split
    · rw [List.mem_cons, ins_mem n x l, List.mem_cons, or_assoc]
    · rw [List.mem_cons, or_comm]
theorem ins_sorted (n : Int) : ∀ {l : List Int}, l.Pairwise (· < ·) → n ∉ l → (ins l n).Pairwise (· < ·)
  | [], _, _ => by simp [ins]
  | y :: l, h, hn => by
    rw [List.pairwise_cons] at h
    have hy : n ≠ y := fun e => hn (e ▸ List.mem_cons_self)
    unfold ins
    split
    · rename_i hlt
      rw [List.pairwise_cons]
      refine ⟨fun x hx => ?_, ins_sorted n h.2 fun h' => hn (List.mem_cons_of_mem _ h')⟩
      rcases (ins_mem n x l).1 hx with h1 | rfl
      · exact h.1 x h1
      · exact hlt
    · rename_i hlt
      rw [List.pairwise_cons]
      refine ⟨fun x hx => ?_, List.pairwise_cons.2 h⟩
      rcases List.mem_cons.1 hx with rfl | hx
      · omega
      · have := h.1 x hx; omega
theorem ins_len (n : Int) : ∀ l : List Int, (ins l n).length = l.length + 1
  | [] => rfl
  | y :: l => by unfold ins; split <;> simp [ins_len n l]
theorem ins_at (n : Int) : ∀ (l : List Int) (k : Nat), k ≤ l.length → (∀ (j : Nat) (hj : j < l.length), j < k → l[j] < n) → (∀ h : k < l.length, ¬ l[k] < n) → ins l n = l.take k ++ n :: l.drop k
  | [], k, hk, _, _ => by simp at hk; subst hk; rfl
  | y :: l, 0, _, _, h => by
    have := h (by simp)
    simp at this
    unfold ins
    rw [if_neg (by omega)]; rfl
  | y :: l, k + 1, hk, h1, h2 => by
    have h0 := h1 0 (by simp) (by omega)
    simp at h0
    unfold ins
    rw [if_pos h0, ins_at n l k (by simpa using hk) (fun j hj hjk => h1 (j + 1) (Nat.succ_lt_succ hj) (by omega)) (fun h => h2 (Nat.succ_lt_succ h))]
    rfl
/-- .. once. -/
def put (l : List Int) (n : Int) : List Int := if n ∈ l then l else ins l n
theorem put_mem (l : List Int) (n x : Int) : x ∈ put l n ↔ x ∈ l ∨ x = n := by
  unfold put
  split
  · rename_i h
    constructor
    · exact .inl
    · rintro (h1 | rfl) <;> assumption
  · exact ins_mem n x l
theorem put_sorted {l : List Int} (h : l.Pairwise (· < ·)) (n : Int) : (put l n).Pairwise (· < ·) := by
  unfold put
  split
  · exact h
  · rename_i hn; exact ins_sorted n h hn
/-- Two rows as one. -/
def union (a b : List Int) : List Int := b.foldl put a
theorem union_mem (x : Int) : ∀ (b a : List Int), x ∈ union a b ↔ x ∈ a ∨ x ∈ b
  | [], a => by simp [union]
  | n :: b, a => by
    show x ∈ union (put a n) b ↔ _
    rw [union_mem x b (put a n), put_mem, List.mem_cons, or_assoc]
theorem union_sorted : ∀ (b : List Int) {a : List Int}, a.Pairwise (· < ·) → (union a b).Pairwise (· < ·)
  | [], _, h => h
  | n :: b, _, h => union_sorted b (put_sorted h n)
theorem put_len (l : List Int) (n : Int) : (put l n).length ≤ l.length + 1 := by
  unfold put
  split
  · omega
  · rw [ins_len]; omega
theorem union_len : ∀ (b a : List Int), (union a b).length ≤ a.length + b.length
  | [], a => by simp [union]
  | n :: b, a => by
    have h := union_len b (put a n)
    have := put_len a n
    show (union (put a n) b).length ≤ _
    simp only [List.length_cons]; omega
theorem compact_rising (d : Array Int) (hs : ∀ i j, i ≤ j → j < d.size → d[i]! ≤ d[j]!) : ∀ m, m ≤ d.size →
    (Lib.compactUpTo d m).Pairwise (· < ·) ∧ (∀ x ∈ Lib.compactUpTo d m, ∃ j, j < m ∧ x = d[j]!) ∧ ∀ j, j < m → d[j]! ∈ Lib.compactUpTo d m := by
  intro m
  induction m with
  | zero => intro _; refine ⟨by simp [Lib.compactUpTo], by simp [Lib.compactUpTo], fun j hj => absurd hj (by omega)⟩
  | succ m ih =>
    intro hm
    obtain ⟨h1, h2, h3⟩ := ih (by omega)
    rw [Lib.compactUpTo_succ]
    by_cases hk : Lib.keeps d m = true
    · rw [if_pos hk]
      refine ⟨?_, ?_, ?_⟩
      · rw [List.pairwise_append]
        refine ⟨h1, by simp, fun x hx y hy => ?_⟩
        obtain ⟨j, hj, rfl⟩ := h2 x hx
        simp at hy
        subst hy
        have hne : d[m]! ≠ d[m - 1]! := by
          unfold Lib.keeps at hk
          rcases of_decide_eq_true hk with h | h
          · omega
          · exact h
        have a1 := hs j (m - 1) (by omega) (by omega)
        have a2 := hs (m - 1) m (by omega) (by omega)
        omega
      · intro x hx
        rcases List.mem_append.1 hx with hx | hx
        · obtain ⟨j, hj, e⟩ := h2 x hx; exact ⟨j, by omega, e⟩
        · simp at hx; exact ⟨m, by omega, hx⟩
      · intro j hj
        by_cases e : j = m
        · subst e; simp
        · exact List.mem_append_left _ (h3 j (by omega))
    · rw [if_neg hk, List.append_nil]
      have hm0 : m ≠ 0 ∧ d[m]! = d[m - 1]! := by
        unfold Lib.keeps at hk
        simp at hk
        exact hk
      refine ⟨h1, fun x hx => ?_, fun j hj => ?_⟩
      · obtain ⟨j, hj, e⟩ := h2 x hx; exact ⟨j, by omega, e⟩
      · by_cases e : j = m
        · subst e; rw [hm0.2]; exact h3 _ (by omega)
        · exact h3 j (by omega)
/-- Sorted, each once. -/
theorem compact_sort (l : List Int) : (Lib.compact (l.mergeSort fun x y => decide (x ≤ y))).Pairwise (· < ·) ∧ ∀ x, x ∈ Lib.compact (l.mergeSort fun x y => decide (x ≤ y)) ↔ x ∈ l := by
  obtain ⟨s, hs⟩ : ∃ s, s = l.mergeSort fun x y => decide (x ≤ y) := ⟨_, rfl⟩
  rw [← hs]
  have hp : s.Pairwise fun x y => decide (x ≤ y) = true := by
    rw [hs]
    exact List.pairwise_mergeSort (fun a b c h1 h2 => by simp at *; omega) (fun a b => by simp; omega) l
  have hperm : s.Perm l := by rw [hs]; exact List.mergeSort_perm _ _
  have hget : ∀ j, j < s.length → s.toArray[j]! = s[j]! := fun j hj => by simp [hj]
  have hd : ∀ i j, i ≤ j → j < s.toArray.size → s.toArray[i]! ≤ s.toArray[j]! := by
    intro i j hij hj
    have hj' : j < s.length := by simpa using hj
    rw [hget i (by omega), hget j hj', getElem!_pos s i (by omega), getElem!_pos s j hj']
    by_cases e : i = j
    · subst e; exact Int.le_refl _
    · exact of_decide_eq_true (List.pairwise_iff_getElem.1 hp i j (by omega) hj' (by omega))
  obtain ⟨h1, h2, h3⟩ := compact_rising s.toArray hd s.length (by simp)
  refine ⟨h1, fun x => ?_⟩
  rw [← hperm.mem_iff]
  constructor
  · intro hx
    obtain ⟨j, hj, rfl⟩ := h2 x hx
    rw [hget j hj, getElem!_pos s j hj]
    exact List.getElem_mem hj
  · intro hx
    obtain ⟨j, hj, rfl⟩ := List.mem_iff_getElem.1 hx
    have := h3 j hj
    rw [hget j hj, getElem!_pos s j hj] at this
    exact this
theorem union_compact {a : List Int} (b : List Int) (ha : a.Pairwise (· < ·)) : Lib.compact ((a ++ b).mergeSort fun x y => decide (x ≤ y)) = union a b := by
  obtain ⟨h1, h2⟩ := compact_sort (a ++ b)
  exact sorted_ext _ _ h1 (union_sorted b ha) fun x => by rw [h2, union_mem, List.mem_append]
open Classical in
/-- What an edit makes of a state, if it may be done. -/
noncomputable def doesP (s : St) (e : Edit) : Option St :=
  if e.kind = 5 then (if s.next ≤ e.file then some ⟨s.l, e.file, e.file + 1⟩ else none)
  else if h : 0 ≤ e.at_ ∧ e.at_ < s.l.length then
    if e.kind = 1 then if s.next ≤ e.file then some ⟨s.l.set e.at_.toNat ⟨(s.l[e.at_.toNat]'(by omega)).frm, (s.l[e.at_.toNat]'(by omega)).tabs ++ [e.file]⟩, s.log, e.file + 1⟩ else none
    else if e.kind = 2 then if ∀ n ∈ e.files, n < s.next → n ∈ (s.l[e.at_.toNat]'(by omega)).tabs then some ⟨s.l.set e.at_.toNat ⟨(s.l[e.at_.toNat]'(by omega)).frm, e.files⟩, s.log, match e.files.getLast? with | none => s.next | some k => max s.next (RowKit.wrap64 (k + 1))⟩ else none
    else if e.kind = 3 then some ⟨s.l.take (e.at_.toNat + 1) ++ ⟨e.key, (s.l[e.at_.toNat]'(by omega)).tabs⟩ :: s.l.drop (e.at_.toNat + 1), s.log, s.next⟩
    else if e.kind = 4 then if h2 : e.at_.toNat + 1 < s.l.length then some ⟨s.l.take e.at_.toNat ++ ⟨(s.l[e.at_.toNat]'(by omega)).frm, union (s.l[e.at_.toNat]'(by omega)).tabs s.l[e.at_.toNat + 1].tabs⟩ :: s.l.drop (e.at_.toNat + 2), s.log, s.next⟩ else none
    else none
  else none
open Classical in
/-- The state behind an edit. -/
noncomputable def applyP (s : St) (e : Edit) : Option St :=
  if Valid s ∧ 0 ≤ e.file ∧ e.file < 2147483647 then match doesP s e with | some s' => if Valid s' then some s' else none | none => none else none
/-- .. behind edits, one behind the other. -/
noncomputable def allP (s : St) : List Edit → Option St
  | [] => some s
  | e :: l => match applyP s e with | some s' => allP s' l | none => none
end Go.Proofs.YtcijhhnbhnaiaaaGreatDoor.Ed
