/- As many files as may be: the plain law. -/
import Derived.Test.YtnngdflamkdgaaaSwapPlain
namespace Go.Proofs.Ytnngdflamkdgaaa.Dsk
open Go

def keyM (i : Nat) : Str := [UInt8.ofNat (i / 256), UInt8.ofNat (i % 256)]
def many (k : Nat) : Files := (List.range k).map fun i => (keyM i, ⟨[], 0⟩)
theorem many_length (k : Nat) : (many k).length = k := by simp [many]
theorem many_succ (k : Nat) : many (k + 1) = many k ++ [(keyM k, ⟨[], 0⟩)] := by
  unfold many
  rw [List.range_succ, List.map_append]; rfl
theorem keyM_before {i j : Nat} (h : i < j) (hj : j < 65536) : bytesBefore (keyM i) (keyM j) = true := by
  unfold keyM
  simp only [bytesBefore, Bool.or_eq_true, Bool.and_eq_true, decide_eq_true_eq, beq_iff_eq, Bool.false_eq_true, and_false, or_false]
  by_cases h1 : i / 256 < j / 256
  · left
    rw [UInt8.lt_iff_toNat_lt, UInt8.toNat_ofNat_of_lt' (by show _ < 256; omega), UInt8.toNat_ofNat_of_lt' (by show _ < 256; omega)]
    exact h1
  · right
    have e : i / 256 = j / 256 := by omega
    refine ⟨by rw [e], ?_⟩
    rw [UInt8.lt_iff_toNat_lt, UInt8.toNat_ofNat_of_lt' (by show _ < 256; omega), UInt8.toNat_ofNat_of_lt' (by show _ < 256; omega)]
    omega
theorem many_mem {k : Nat} {p : Str × Fl} (h : p ∈ many k) : ∃ i, i < k ∧ p = (keyM i, ⟨[], 0⟩) := by
  unfold many at h
  obtain ⟨i, hi, rfl⟩ := List.mem_map.1 h
  exact ⟨i, List.mem_range.1 hi, rfl⟩
theorem many_before {k : Nat} (hk : k < 65536) : ∀ p ∈ many k, bytesBefore p.1 (keyM k) = true := fun p hp => by
  obtain ⟨i, hi, rfl⟩ := many_mem hp
  exact keyM_before hi hk
theorem many_total (k : Nat) : total (many k) = 0 := by
  induction k with
  | zero => rfl
  | succ k ih =>
    rw [many_succ]
    unfold total at *
    rw [List.map_append, List.sum_append, ih]; rfl
theorem many_none {k : Nat} (hk : k < 65536) : get (many k) (keyM k) = none := by
  cases h : get (many k) (keyM k) with
  | none => rfl
  | some f => exact absurd rfl (before_ne (many_before hk _ (get_mem h)))
theorem many_put {k : Nat} (hk : k < 65536) : put (many k) (keyM k) ⟨[], 0⟩ = many (k + 1) := by
  unfold put
  rw [del_none (many_none hk), many_succ]
  have := ins_mid (k := keyM k) (g := ⟨[], 0⟩) (a := many k) (b := []) (many_before hk) (fun _ h => by cases h)
  rwa [List.append_nil] at this
def mst (files : Files) : Dk := ⟨100, 0, false, files, none, []⟩
theorem keyM_named (i : Nat) : Named (keyM i) := by unfold Named keyM; simp
theorem many_append {k : Nat} (hk : k < 1024) : (mst (many k)).append (keyM k) [] = (0, mst (many (k + 1))) := by
  rw [append_made rfl (keyM_named k) (by show (many k).length < 1024; rw [many_length]; exact hk) (by show total (many k) + 0 ≤ 100; rw [many_total]; omega)]
  show (mst _).change _ = _
  rw [show (mst (many k)).files = many k from rfl, many_none (by omega)]
  show (mst (put (many k) (keyM k) ⟨[], 0⟩)).change (put (many k) (keyM k) ⟨[], 0⟩) = _
  rw [many_put (by omega)]; rfl
theorem many_full {m k : Nat} (hm : 1024 ≤ m) (hk : m ≤ k) (hk2 : k < 65536) : (mst (many m)).append (keyM k) [] = (50, mst (many m)) := by
  unfold Dk.append
  rw [if_neg (by simp [mst]), if_neg (by simp [keyM_named]), if_pos]
  left
  refine ⟨?_, by show 1024 ≤ (many m).length; rw [many_length]; exact hm⟩
  show get (many m) (keyM k) = none
  cases h : get (many m) (keyM k) with
  | none => rfl
  | some f =>
    obtain ⟨i, hi, e⟩ := many_mem (get_mem h)
    have e1 : keyM k = keyM i := congrArg Prod.fst e
    exact absurd e1.symm (before_ne (keyM_before (show i < k by omega) hk2))
theorem many_rising {k : Nat} (hk : k < 65536) : Rising (many k) := by
  induction k with
  | zero => exact List.Pairwise.nil
  | succ k ih => rw [← many_put (by omega)]; exact rising_put (ih (by omega)) _ _
theorem many_get {m k : Nat} (hm : m < 65536) (hk : k < m) : get (many m) (keyM k) = some ⟨[], 0⟩ :=
  get_of_mem (rising_apart (many_rising hm)) (List.mem_map.2 ⟨k, List.mem_range.2 hk, rfl⟩)
def nmNew : Str := [110, 101, 119]
/-- One gets a byte, goes, and another one comes. -/
theorem many_turn {m k : Nat} (hm : m ≤ 1024) (hk : k < m) : ∃ a b c, (mst (many m)).append (keyM k) [120] = (0, mst a) ∧ (mst a).remove (keyM k) = (0, mst b) ∧ (mst b).append nmNew [] = (0, mst c) ∧ c.length = m ∧ total c = 0 := by
  have hr := many_rising (k := m) (by omega)
  have hg := many_get (m := m) (by omega) hk
  have hap := rising_apart hr
  refine ⟨put (many m) (keyM k) ⟨[120], 0⟩, del (many m) (keyM k), put (del (many m) (keyM k)) nmNew ⟨[], 0⟩, ?_, ?_, ?_, ?_, ?_⟩
  · unfold Dk.append
    rw [if_neg (by simp [mst]), if_neg (by simp [keyM_named]), if_neg]
    · show (mst _).change _ = _
      rw [show (mst (many m)).files = many m from rfl, hg]; rfl
    · rintro (⟨e, _⟩ | e)
      · rw [show (mst (many m)).files = many m from rfl, hg] at e; cases e
      · have : (100 : Nat) < total (many m) + 1 := e
        rw [many_total] at this; omega
  · unfold Dk.remove
    rw [if_neg (by simp [mst]), show (mst (put (many m) (keyM k) ⟨[120], 0⟩)).files = put (many m) (keyM k) ⟨[120], 0⟩ from rfl, get_put_same hr]
    show (mst _).change (del (put (many m) (keyM k) ⟨[120], 0⟩) (keyM k)) = _
    have e : del (put (many m) (keyM k) ⟨[120], 0⟩) (keyM k) = del (many m) (keyM k) := by
      unfold put
      have h1 : ∀ (x : Fl) (l : Files), (∀ p ∈ l, p.1 ≠ keyM k) → del (ins (keyM k, x) l) (keyM k) = l := by
        intro x l
        induction l with
        | nil => intro _; simp [ins, del]
        | cons y r ih =>
          intro h
          unfold ins
          split
          · show List.filter _ _ = _
            rw [List.filter_cons_of_neg (by simp), List.filter_eq_self]
            intro p hp
            simpa using h p hp
          · show List.filter _ _ = _
            rw [List.filter_cons_of_pos (by simpa using h y (by simp))]
            congr 1
            exact ih fun p hp => h p (by simp [hp])
      exact h1 _ _ fun p hp => (mem_del.1 hp).2
    rw [e]; rfl
  · have hl : (del (many m) (keyM k)).length < 1024 := by have := del_length hap hg; rw [many_length] at this; omega
    have ht : total (del (many m) (keyM k)) = 0 := by have := del_total hap hg; rw [many_total] at this; omega
    rw [append_made rfl (by decide) hl (by show total (del (many m) (keyM k)) + 0 ≤ 100; omega)]
    have hn : get (del (many m) (keyM k)) nmNew = none := by
      cases h : get (del (many m) (keyM k)) nmNew with
      | none => rfl
      | some f =>
        obtain ⟨i, _, e⟩ := many_mem (mem_del.1 (get_mem h)).1
        have e1 : nmNew = keyM i := congrArg Prod.fst e
        have := congrArg List.length e1
        simp [nmNew, keyM] at this
    show (mst _).change _ = _
    rw [show (mst (del (many m) (keyM k))).files = del (many m) (keyM k) from rfl, hn]; rfl
  · rw [put_length, del_none]
    · have := del_length hap hg; rw [many_length] at this; omega
    · cases h : get (del (many m) (keyM k)) nmNew with
      | none => rfl
      | some f =>
        obtain ⟨i, _, e⟩ := many_mem (mem_del.1 (get_mem h)).1
        have e1 : nmNew = keyM i := congrArg Prod.fst e
        have := congrArg List.length e1
        simp [nmNew, keyM] at this
  · rw [put_total]
    have h1 := total_sub (del_sub (del (many m) (keyM k)) nmNew)
    have h2 := total_sub (del_sub (many m) (keyM k))
    rw [many_total] at h2
    show 0 + _ = 0
    omega
end Go.Proofs.Ytnngdflamkdgaaa.Dsk
