/- Cursors saved on a disk that never fails: other files stay. No program in sight. -/
import Derived.Test.YtenbgfejonokdaaSave
namespace Go.Proofs.Ytenbgfejonokdaa
open Dsk

theorem del_ins (k : Str) (f : Fl) : ∀ r : Files, del (ins (k, f) r) k = del r k
  | [] => by simp [ins, del]
  | y :: r => by
    unfold ins
    split
    · simp [del]
    · have ih := del_ins k f r
      unfold del at ih ⊢
      simp only [List.filter_cons]
      split
      · rw [ih]
      · exact ih
theorem del_del (m : Files) (k : Str) : del (del m k) k = del m k := by unfold del; rw [List.filter_filter]; congr 1; funext p; simp
theorem del_put (m : Files) (k : Str) (f : Fl) : del (put m k f) k = del m k := by unfold put; rw [del_ins, del_del]
theorem put_put (m : Files) (k : Str) (f g : Fl) : put (put m k f) k g = put m k g := by
  have h := del_put m k f
  show ins (k, g) (del (put m k f) k) = ins (k, g) (del m k)
  rw [h]
def wf (d : Dk) (m : Files) : Dk := { d with files := m }
theorem calm_change {d : Dk} (hf : d.fail = none) (m : Files) : d.change m = (0, wf d m) := by
  obtain ⟨a1, a2, a3, a4, fl, a5⟩ := d
  obtain rfl : fl = none := hf
  rfl
theorem saveD_calm {d : Dk} (hoff : d.off = false) (hf : d.fail = none) (hr : Rising d.files) {a b : Int} (hm : Cur.May a b) (hd : get d.files draN = none) (hl : d.files.length < 1024) (ht : total d.files + 19 ≤ d.room) :
    saveD d a b = (0, wf d (put d.files curN ⟨(Cur.enc a b).1, (Cur.enc a b).1.length⟩)) := by
  have hE := Cur.enc_length a b
  unfold saveD
  rw [if_neg (by rw [hoff]; decide), if_neg (fun h => h hm)]
  generalize (Cur.enc a b).1 = E at hE ⊢
  have e1 : d.remove draN = (4, d) := by unfold Dk.remove; rw [if_neg (by rw [hoff]; decide), hd]
  rw [e1]
  simp only
  rw [if_neg (by omega)]
  have e2 : d.append draN E = (0, wf d (put d.files draN ⟨E, 0⟩)) := by
    unfold Dk.append
    rw [if_neg (by rw [hoff]; decide), if_neg (show ¬ ¬ Named draN by decide), if_neg (by omega), hd]
    exact calm_change (d := wf d (put d.files draN ⟨E, 0⟩)) hf _
  rw [e2]
  simp only
  rw [if_neg (by omega)]
  have e3 : (wf d (put d.files draN ⟨E, 0⟩)).sync draN = (0, wf d (put d.files draN ⟨E, E.length⟩)) := by
    unfold Dk.sync
    rw [if_neg (by show ¬ d.off = true; rw [hoff]; decide), show get (wf d (put d.files draN ⟨E, 0⟩)).files draN = some ⟨E, 0⟩ from get_put_same hr draN _]
    refine (calm_change (d := wf d (put d.files draN ⟨E, 0⟩)) hf _).trans ?_
    rw [show (wf d (put d.files draN ⟨E, 0⟩)).files = put d.files draN ⟨E, 0⟩ from rfl, put_put]
    rfl
  rw [e3]
  simp only
  rw [if_neg (by omega)]
  unfold Dk.rename
  rw [if_neg (by show ¬ d.off = true; rw [hoff]; decide), show get (wf d (put d.files draN ⟨E, E.length⟩)).files draN = some ⟨E, E.length⟩ from get_put_same hr draN _]
  simp only
  rw [if_neg (show ¬ ¬ Named curN by decide)]
  refine (calm_change (d := wf d (put d.files draN ⟨E, E.length⟩)) hf _).trans ?_
  rw [show (wf d (put d.files draN ⟨E, E.length⟩)).files = put d.files draN ⟨E, E.length⟩ from rfl, del_put, del_none hd]
  rfl
/-- The disk while cursors are saved: a file nm (or none), the cursor's (or none), no draft. -/
structure AInv (nm data : Str) (app saved : Bool) (d : Dk) : Prop where
  off : d.off = false
  fail : d.fail = none
  room : d.room = 1000
  rising : Rising d.files
  dra : get d.files draN = none
  file : app = true → get d.files nm = some ⟨data, 0⟩
  cur : saved = (get d.files curN).isSome
  len : ∀ f, get d.files curN = some f → f.data.length ≤ 19
  many : d.files.length = (if app then 1 else 0) + (if saved then 1 else 0)
  tot : total (del d.files curN) ≤ data.length
theorem AInv.total {nm data : Str} {app saved : Bool} {d : Dk} (h : AInv nm data app saved d) : total d.files ≤ data.length + 19 := by
  have ht := h.tot
  cases hg : get d.files curN with
  | none => rw [del_none hg] at ht; omega
  | some f =>
    have := del_total (rising_apart h.rising) hg
    have := h.len f hg
    omega
theorem AInv.save {nm data : Str} {app saved : Bool} {d : Dk} (h : AInv nm data app saved d) (hn : nm ≠ curN) (hdl : data.length ≤ 300) {a b : Int} (hm : Cur.May a b) :
    ∃ d', saveD d a b = (0, d') ∧ AInv nm data app true d' := by
  have htt := h.total
  have hmany : d.files.length ≤ 2 := by have := h.many; split at this <;> split at this <;> omega
  refine ⟨_, saveD_calm h.off h.fail h.rising hm h.dra (by omega) (by rw [h.room]; omega), ?_⟩
  generalize hE : (Cur.enc a b).1 = E
  have hE19 : E.length ≤ 19 := by rw [← hE]; exact Cur.enc_length a b
  refine ⟨h.off, h.fail, h.room, rising_put h.rising _ _, ?_, fun e => ?_, ?_, ?_, ?_, ?_⟩
  · exact (get_put_other h.rising (by decide) _).trans h.dra
  · exact (get_put_other h.rising hn _).trans (h.file e)
  · show true = (get (put d.files curN _) curN).isSome
    rw [get_put_same h.rising]; rfl
  · intro f hf
    rw [show (wf d (put d.files curN ⟨E, E.length⟩)).files = put d.files curN ⟨E, E.length⟩ from rfl, get_put_same h.rising] at hf
    cases hf
    exact hE19
  · show (put d.files curN _).length = _
    rw [put_length]
    have hmn := h.many
    have hc := h.cur
    cases hg : get d.files curN with
    | none =>
      rw [hg] at hc
      rw [del_none hg, hmn, hc]; rfl
    | some f =>
      have hl := del_length (rising_apart h.rising) hg
      rw [hg] at hc
      rw [hc] at hmn
      simp only [Option.isSome_some, if_true] at hmn ⊢
      omega
  · show Dsk.total (del (put d.files curN _) curN) ≤ _
    rw [del_put]
    exact h.tot
theorem AInv.save_not {nm data : Str} {app saved : Bool} {d : Dk} (h : AInv nm data app saved d) {a b : Int} (hm : ¬ Cur.May a b) : saveD d a b = (2, d) := by
  unfold saveD
  rw [if_neg (by rw [h.off]; decide), if_pos hm]
/-- At first. -/
theorem AInv.first {nm data : Str} (hn : nm ≠ curN) (hn2 : nm ≠ draN) (hdl : data.length ≤ 300) : ∃ e d, (Dk.new 1000).append nm data = (e, d) ∧ ((Named nm ∧ e = 0 ∧ AInv nm data true false d) ∨ (¬ Named nm ∧ e = 2 ∧ AInv nm data false false d)) := by
  by_cases h : Named nm
  · refine ⟨0, ⟨1000, 0, false, [(nm, ⟨data, 0⟩)], none, []⟩, ?_, .inl ⟨h, rfl, ?_⟩⟩
    · unfold Dk.append
      rw [if_neg (by decide), if_neg (fun x => x h), if_neg (by show ¬ ((_ ∧ 1024 ≤ 0) ∨ 1000 < 0 + data.length); omega)]
      rfl
    · have g : ∀ k, k ≠ nm → get [(nm, (⟨data, 0⟩ : Fl))] k = none := fun k hk => by
        unfold Dsk.get
        rw [List.find?_cons_of_neg (by simpa using fun e => hk e.symm)]
        rfl
      refine ⟨rfl, rfl, rfl, List.pairwise_singleton _ _, g _ (Ne.symm hn2), fun _ => ?_, ?_, ?_, rfl, ?_⟩
      · show get [(nm, (⟨data, 0⟩ : Fl))] nm = _
        unfold Dsk.get
        rw [List.find?_cons_of_pos (by simp)]
        rfl
      · show false = (get [(nm, (⟨data, 0⟩ : Fl))] curN).isSome
        rw [g _ (Ne.symm hn)]; rfl
      · intro f hf
        rw [show get [(nm, (⟨data, 0⟩ : Fl))] curN = none from g _ (Ne.symm hn)] at hf
        cases hf
      · show Dsk.total (del [(nm, (⟨data, 0⟩ : Fl))] curN) ≤ _
        rw [del_none (g _ (Ne.symm hn))]
        show data.length + 0 ≤ _
        omega
  · refine ⟨2, Dk.new 1000, ?_, .inr ⟨h, rfl, ?_⟩⟩
    · unfold Dk.append
      rw [if_neg (by decide), if_pos h]
    · exact ⟨rfl, rfl, rfl, List.Pairwise.nil, rfl, fun e => (by cases e), rfl, fun f hf => (by cases hf), rfl, Nat.zero_le _⟩
end Go.Proofs.Ytenbgfejonokdaa
