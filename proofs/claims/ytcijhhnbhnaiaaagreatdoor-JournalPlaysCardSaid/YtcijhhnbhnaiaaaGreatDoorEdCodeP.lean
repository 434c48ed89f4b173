/- Edits and states as bytes, plainly: written, read, and back. No program in sight. -/
import Derived.Test.YtcijhhnbhnaiaaaGreatDoorEdPlain
import Derived.Test.YtcijhhnbhnaiaaaGreatDoorVarP
namespace Go.Proofs.YtcijhhnbhnaiaaaGreatDoor.Ed
set_option linter.unusedSimpArgs false
set_option linter.unusedVariables false

abbrev Str := List UInt8
/-- A number that is not below 0. -/
def pn (n : Int) : Str := Var.putI (max n 0)
def encL (l : List Int) : Str := pn l.length ++ l.flatMap pn
def encT (t : Str) : Str := pn t.length ++ t
def encE (e : Edit) : Str := pn e.kind ++ (pn e.at_ ++ (pn e.file ++ (encL e.files ++ encT e.key.data.toList)))
def enc (l : List Edit) : Str := pn l.length ++ l.flatMap encE
def encB (t : Tab) : Str := encT t.frm.data.toList ++ encL t.tabs
def encS (s : St) : Str := pn s.log ++ (pn s.next ++ (pn s.l.length ++ s.l.flatMap encB))
/-- Reading: a text, numbers, edits, tablets. -/
def txt (s : Str) (p : Nat) : Option (Str × Nat) := match Var.get s p with
  | none => none
  | some (n, e) => if n ≤ s.length - e then some ((s.drop e).take n, e + n) else none
def runL (s : Str) : Nat → Nat → List Int → Option (List Int × Nat)
  | 0, p, acc => some (acc, p)
  | k + 1, p, acc => match Var.get s p with
    | none => none
    | some (n, e) => runL s k e (acc ++ [(n : Int)])
def lst (s : Str) (p : Nat) : Option (List Int × Nat) := match Var.get s p with
  | none => none
  | some (k, e) => runL s k e []
def edt (s : Str) (p : Nat) : Option (Edit × Nat) := match Var.get s p with
  | none => none
  | some (a, p) => match Var.get s p with
    | none => none
    | some (b, p) => match Var.get s p with
      | none => none
      | some (c, p) => match lst s p with
        | none => none
        | some (l, p) => match txt s p with
          | none => none
          | some (t, p) => some (⟨a, b, c, l, ⟨t.toArray⟩⟩, p)
def runE (s : Str) : Nat → Nat → List Edit → Option (List Edit × Nat)
  | 0, p, acc => some (acc, p)
  | k + 1, p, acc => match edt s p with
    | none => none
    | some (x, e) => runE s k e (acc ++ [x])
def tab (s : Str) (p : Nat) : Option (Tab × Nat) := match txt s p with
  | none => none
  | some (t, p) => match lst s p with
    | none => none
    | some (l, p) => some (⟨⟨t.toArray⟩, l⟩, p)
def runT (s : Str) : Nat → Nat → List Tab → Option (List Tab × Nat)
  | 0, p, acc => some (acc, p)
  | k + 1, p, acc => match tab s p with
    | none => none
    | some (x, e) => runT s k e (acc ++ [x])
/-- What is read, with where it ends. -/
def decE (s : Str) : Option (List Edit × Nat) := match Var.get s 0 with
  | none => none
  | some (k, e) => runE s k e []
def decS (s : Str) : Option (St × Nat) := match Var.get s 0 with
  | none => none
  | some (a, p) => match Var.get s p with
    | none => none
    | some (b, p) => match Var.get s p with
      | none => none
      | some (k, p) => match runT s k p [] with
        | none => none
        | some (l, p) => some (⟨l, a, b⟩, p)

theorem pow9' : (128 : Nat) ^ 9 = 9223372036854775808 := Var.pow9
/-- What is written is read, wherever it lies. -/
theorem get_pn {n : Int} (h0 : 0 ≤ n) (h : n < 9223372036854775808) (a r : Str) : Var.get (a ++ (pn n ++ r)) a.length = some (n.toNat, (a ++ pn n).length) := by
  have e : pn n = Var.put n.toNat := by unfold pn; rw [Int.max_eq_left h0]; unfold Var.putI; rw [if_neg (by omega)]
  rw [e, ← List.append_assoc, Var.get_put (by rw [pow9']; omega), List.length_append]
theorem get_nat {n : Nat} (h : (n : Int) < 9223372036854775808) (a r : Str) : Var.get (a ++ (pn n ++ r)) a.length = some (n, (a ++ pn n).length) := by
  have := get_pn (n := n) (by omega) h a r
  simpa using this
theorem txt_enc (t a r : Str) (h : (t.length : Int) < 9223372036854775808) : txt (a ++ (encT t ++ r)) a.length = some (t, (a ++ encT t).length) := by
  unfold txt encT
  rw [List.append_assoc, get_nat h]
  simp only
  have e : a ++ (pn t.length ++ (t ++ r)) = (a ++ pn t.length) ++ (t ++ r) := by rw [List.append_assoc]
  rw [e]
  rw [if_pos (by simp only [List.length_append]; omega), List.drop_left, List.take_left]
  simp only [List.length_append]
  congr 2
  omega
theorem runL_enc : ∀ (l : List Int) (a r : Str) (acc : List Int), (∀ n ∈ l, 0 ≤ n ∧ n < 9223372036854775808) → runL (a ++ (l.flatMap pn ++ r)) l.length a.length acc = some (acc ++ l, (a ++ l.flatMap pn).length)
  | [], a, r, acc, _ => by simp [runL]
  | n :: l, a, r, acc, h => by
    obtain ⟨h0, h1⟩ := h n List.mem_cons_self
    have e : a ++ ((n :: l).flatMap pn ++ r) = a ++ (pn n ++ (l.flatMap pn ++ r)) := by rw [List.flatMap_cons, List.append_assoc]
    rw [e, List.length_cons]
    unfold runL
    rw [get_pn h0 h1]
    simp only
    have e2 : a ++ (pn n ++ (l.flatMap pn ++ r)) = (a ++ pn n) ++ (l.flatMap pn ++ r) := by rw [List.append_assoc]
    rw [e2, runL_enc l (a ++ pn n) r _ fun m hm => h m (List.mem_cons_of_mem _ hm)]
    rw [Int.toNat_of_nonneg h0]
    simp [List.append_assoc]
theorem lst_enc (l : List Int) (a r : Str) (h : ∀ n ∈ l, 0 ≤ n ∧ n < 9223372036854775808) (hl : (l.length : Int) < 9223372036854775808) : lst (a ++ (encL l ++ r)) a.length = some (l, (a ++ encL l).length) := by
  unfold lst encL
  rw [List.append_assoc, get_nat hl]
  simp only
  have e : a ++ (pn l.length ++ (l.flatMap pn ++ r)) = (a ++ pn l.length) ++ (l.flatMap pn ++ r) := by rw [List.append_assoc]
  rw [e, runL_enc l _ r [] h]
  simp [List.append_assoc]
/-- An edit that can be written. -/
structure EncOk (e : Edit) : Prop where
  kind : 0 ≤ e.kind ∧ e.kind < 9223372036854775808
  at_ : 0 ≤ e.at_ ∧ e.at_ < 9223372036854775808
  file : 0 ≤ e.file ∧ e.file < 9223372036854775808
  files : ∀ n ∈ e.files, 0 ≤ n ∧ n < 9223372036854775808
  len : (e.files.length : Int) < 9223372036854775808
  key : (e.key.data.toList.length : Int) < 9223372036854775808
theorem edt_enc (e : Edit) (a r : Str) (h : EncOk e) : edt (a ++ (encE e ++ r)) a.length = some (e, (a ++ encE e).length) := by
  have e0 : a ++ (encE e ++ r) = a ++ (pn e.kind ++ (pn e.at_ ++ (pn e.file ++ (encL e.files ++ (encT e.key.data.toList ++ r))))) := by unfold encE; simp only [List.append_assoc]
  have e1 : a ++ (pn e.kind ++ (pn e.at_ ++ (pn e.file ++ (encL e.files ++ (encT e.key.data.toList ++ r))))) = (a ++ pn e.kind) ++ (pn e.at_ ++ (pn e.file ++ (encL e.files ++ (encT e.key.data.toList ++ r)))) := by simp only [List.append_assoc]
  have e2 : (a ++ pn e.kind) ++ (pn e.at_ ++ (pn e.file ++ (encL e.files ++ (encT e.key.data.toList ++ r)))) = (a ++ pn e.kind ++ pn e.at_) ++ (pn e.file ++ (encL e.files ++ (encT e.key.data.toList ++ r))) := by simp only [List.append_assoc]
  have e3 : (a ++ pn e.kind ++ pn e.at_) ++ (pn e.file ++ (encL e.files ++ (encT e.key.data.toList ++ r))) = (a ++ pn e.kind ++ pn e.at_ ++ pn e.file) ++ (encL e.files ++ (encT e.key.data.toList ++ r)) := by simp only [List.append_assoc]
  have e4 : (a ++ pn e.kind ++ pn e.at_ ++ pn e.file) ++ (encL e.files ++ (encT e.key.data.toList ++ r)) = (a ++ pn e.kind ++ pn e.at_ ++ pn e.file ++ encL e.files) ++ (encT e.key.data.toList ++ r) := by simp only [List.append_assoc]
  unfold edt
  rw [e0, get_pn h.kind.1 h.kind.2]
  simp only
  rw [e1, get_pn h.at_.1 h.at_.2]
  simp only
  rw [e2, get_pn h.file.1 h.file.2]
  simp only
  rw [e3, lst_enc _ _ _ h.files h.len]
  simp only
  rw [e4, txt_enc _ _ _ h.key]
  simp only [Int.toNat_of_nonneg h.kind.1, Int.toNat_of_nonneg h.at_.1, Int.toNat_of_nonneg h.file.1]
  unfold encE
  simp only [List.append_assoc]
theorem runE_enc : ∀ (l : List Edit) (a r : Str) (acc : List Edit), (∀ e ∈ l, EncOk e) → runE (a ++ (l.flatMap encE ++ r)) l.length a.length acc = some (acc ++ l, (a ++ l.flatMap encE).length)
  | [], a, r, acc, _ => by simp [runE]
  | x :: l, a, r, acc, h => by
    have e : a ++ ((x :: l).flatMap encE ++ r) = a ++ (encE x ++ (l.flatMap encE ++ r)) := by rw [List.flatMap_cons, List.append_assoc]
    rw [e, List.length_cons]
    unfold runE
    rw [edt_enc x a _ (h x List.mem_cons_self)]
    simp only
    have e2 : a ++ (encE x ++ (l.flatMap encE ++ r)) = (a ++ encE x) ++ (l.flatMap encE ++ r) := by rw [List.append_assoc]
    rw [e2, runE_enc l (a ++ encE x) r _ fun m hm => h m (List.mem_cons_of_mem _ hm)]
    simp [List.append_assoc]
/-- Edits that are written are read. -/
theorem decE_enc (l : List Edit) (h : ∀ e ∈ l, EncOk e) (hl : (l.length : Int) < 9223372036854775808) : decE (enc l) = some (l, (enc l).length) := by
  unfold decE enc
  have h1 := get_nat hl [] (l.flatMap encE)
  simp only [List.nil_append, List.length_nil] at h1
  rw [h1]
  simp only
  have h2 := runE_enc l (pn l.length) [] [] h
  simpa using h2
/-- A tablet that can be written. -/
structure TabOk (t : Tab) : Prop where
  tabs : ∀ n ∈ t.tabs, 0 ≤ n ∧ n < 9223372036854775808
  len : (t.tabs.length : Int) < 9223372036854775808
  frm : (t.frm.data.toList.length : Int) < 9223372036854775808
theorem tab_enc (t : Tab) (a r : Str) (h : TabOk t) : tab (a ++ (encB t ++ r)) a.length = some (t, (a ++ encB t).length) := by
  have e0 : a ++ (encB t ++ r) = a ++ (encT t.frm.data.toList ++ (encL t.tabs ++ r)) := by unfold encB; simp only [List.append_assoc]
  have e1 : a ++ (encT t.frm.data.toList ++ (encL t.tabs ++ r)) = (a ++ encT t.frm.data.toList) ++ (encL t.tabs ++ r) := by simp only [List.append_assoc]
  unfold tab
  rw [e0, txt_enc _ _ _ h.frm]
  simp only
  rw [e1, lst_enc _ _ _ h.tabs h.len]
  unfold encB
  simp only [List.append_assoc]
theorem runT_enc : ∀ (l : List Tab) (a r : Str) (acc : List Tab), (∀ e ∈ l, TabOk e) → runT (a ++ (l.flatMap encB ++ r)) l.length a.length acc = some (acc ++ l, (a ++ l.flatMap encB).length)
  | [], a, r, acc, _ => by simp [runT]
  | x :: l, a, r, acc, h => by
    have e : a ++ ((x :: l).flatMap encB ++ r) = a ++ (encB x ++ (l.flatMap encB ++ r)) := by rw [List.flatMap_cons, List.append_assoc]
    rw [e, List.length_cons]
    unfold runT
    rw [tab_enc x a _ (h x List.mem_cons_self)]
    simp only
    have e2 : a ++ (encB x ++ (l.flatMap encB ++ r)) = (a ++ encB x) ++ (l.flatMap encB ++ r) := by rw [List.append_assoc]
    rw [e2, runT_enc l (a ++ encB x) r _ fun m hm => h m (List.mem_cons_of_mem _ hm)]
    simp [List.append_assoc]
/-- A state that is written is read; bytes behind it are left. -/
theorem decS_enc (s : St) (r : Str) (h : ∀ t ∈ s.l, TabOk t) (hl : (s.l.length : Int) < 9223372036854775808) (h1 : 0 ≤ s.log ∧ s.log < 9223372036854775808) (h2 : 0 ≤ s.next ∧ s.next < 9223372036854775808) :
    decS (encS s ++ r) = some (s, (encS s).length) := by
  have g0 := get_pn h1.1 h1.2 [] (pn s.next ++ (pn s.l.length ++ (s.l.flatMap encB ++ r)))
  have g1 := get_pn h2.1 h2.2 (pn s.log) (pn s.l.length ++ (s.l.flatMap encB ++ r))
  have g2 := get_nat hl (pn s.log ++ pn s.next) (s.l.flatMap encB ++ r)
  have g3 := runT_enc s.l (pn s.log ++ pn s.next ++ pn s.l.length) r [] h
  simp only [List.nil_append, List.length_nil, List.append_assoc] at g0 g1 g2 g3
  unfold decS encS
  simp only [List.append_assoc]
  rw [g0]
  simp only
  rw [g1]
  simp only
  rw [g2]
  simp only
  rw [g3]
  simp only [Int.toNat_of_nonneg h1.1, Int.toNat_of_nonneg h2.1]
end Go.Proofs.YtcijhhnbhnaiaaaGreatDoor.Ed
