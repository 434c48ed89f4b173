/- The call's own row of edits whose files' rows came in; edits behind it. -/
import Derived.Test.YtenbgfejonokdaaEdOwnE
import Derived.Test.YtenbgfejonokdaaEdDoes
namespace Go.Proofs.Ytenbgfejonokdaa
set_option linter.unusedSimpArgs false
set_option linter.unusedVariables false
set_option maxRecDepth 100000
open Go.RowKit

/-- The call's own row of edits (or nil), from block B on; their files' rows lie ahead of block w0. -/
structure OwnEB (w : World) (w0 B : Nat) (v : Value) (fvs : List Value) (l : List Ed.Edit) : Prop where
  len : fvs.length = l.length
  row : w.ownsRow B 74 5 v l.length ((l.zip fvs).flatMap fun p => edRow p.1 p.2)
  each : ∀ (j : Nat) (hj : j < l.length) (hj' : j < fvs.length), RdIB w w0 fvs[j] l[j].files
theorem OwnEB.nil (w : World) (w0 B : Nat) : OwnEB w w0 B (.slice none 0 0) [] [] := ⟨rfl, World.ownsRow_nil w B _ 5, fun j hj => absurd hj (by simp)⟩
theorem OwnEB.chg {w w' : World} {w0 B : Nat} {v : Value} {fvs : List Value} {l : List Ed.Edit} {S : Nat → Prop} (h : OwnEB w w0 B v fvs l) (x : Chg S w w') (hS : ∀ g, S g → w0 ≤ g ∧ g < B) : OwnEB w' w0 B v fvs l :=
  ⟨h.len, ownsRow_chg h.row x fun g e => (hS g e).2, fun j hj hj' => (h.each j hj hj').chg x fun g e => (hS g e).1⟩
theorem OwnEB.below {w w' : World} {w0 B : Nat} {v : Value} {fvs : List Value} {l : List Ed.Edit} (h : OwnEB w w0 B v fvs l) (x : Below w.heap.size w w') : OwnEB w' w0 B v fvs l :=
  h.chg (S := fun _ => False) (Chg.of_below x) (fun _ e => e.elim)
theorem OwnEB.form {w : World} {w0 B : Nat} {v : Value} {fvs : List Value} {l : List Ed.Edit} (h : OwnEB w w0 B v fvs l) : ∃ x c, v = .slice x l.length c := by
  obtain ⟨_, ⟨rfl, hn⟩ | ⟨g, cap, cur, rfl, _⟩⟩ := h.row
  · exact ⟨none, 0, by rw [hn]⟩
  · exact ⟨_, _, rfl⟩
theorem flat5_len (l : List (Ed.Edit × Value)) : (l.flatMap fun p => edRow p.1 p.2).length = l.length * 5 := by
  induction l with
  | nil => rfl
  | cons p l ih => rw [List.flatMap_cons, List.length_append, ih, List.length_cons]; show 5 + _ = _; omega
theorem OwnEB.cells {w : World} {w0 B : Nat} {v : Value} {fvs : List Value} {l : List Ed.Edit} (h : OwnEB w w0 B v fvs l) : ∃ y c, v = .slice y l.length c ∧ (0 < l.length → ∃ b, y = some ⟨b, 0, none⟩ ∧ b < w.heap.size ∧ ∀ i u, ((l.zip fvs).flatMap fun p => edRow p.1 p.2)[i]? = some u → w.cell? ⟨b, i, none⟩ = some u) := by
  have hlt := World.ownsRow.lt h.row
  have hcs := fun g (hg : v.ownBlock = some g) => World.ownsRow.cells h.row hg
  obtain ⟨_, ⟨rfl, hn⟩ | ⟨g, cap, cur, rfl, _⟩⟩ := h.row
  · exact ⟨none, 0, by rw [hn], fun h0 => by omega⟩
  · refine ⟨_, _, rfl, fun _ => ⟨g, rfl, (hlt g rfl).2, fun i u hu => ?_⟩⟩
    have := hcs g rfl i u hu
    rw [add_zero_addr] at this
    exact this
theorem OwnEB.rd {w : World} {w0 B : Nat} {v : Value} {fvs : List Value} {l : List Ed.Edit} (h : OwnEB w w0 B v fvs l) : RdE w v l := by
  obtain ⟨y, c, rfl, hc⟩ := h.cells
  refine ⟨y, c, rfl, fun j hj => ?_⟩
  obtain ⟨g, rfl, hg, hc⟩ := hc (by omega)
  have hj' : j < fvs.length := by rw [h.len]; exact hj
  have hz : j < (l.zip fvs).length := by rw [List.length_zip]; omega
  have hc2 : ∀ i u, i < 5 → (edRow l[j] fvs[j])[i]? = some u → w.cell? ⟨g, 0 + (j * 5 + i), none⟩ = some u := fun i u hi hu => by
    rw [Nat.zero_add]
    refine hc _ _ ?_
    rw [flat5 _ j i hz hi, List.getElem_zip]
    exact hu
  refine ⟨g, 0, fvs[j], rfl, hg, ?_, ?_, ?_, ?_, ?_, (h.each j hj hj').rd⟩
  · exact hc2 0 _ (by omega) rfl
  · exact hc2 1 _ (by omega) rfl
  · exact hc2 2 _ (by omega) rfl
  · exact hc2 3 _ (by omega) rfl
  · exact hc2 4 _ (by omega) rfl
theorem RdIB.one {w : World} {B : Nat} {v : Value} {l : List Int} (h : RdIB w B v l) : v.oneCell' = true := h.rd.one
theorem edRow_one {e : Ed.Edit} {fv : Value} (h : fv.oneCell' = true) : ∀ u ∈ edRow e fv, u.oneCell' = true := by
  intro u hu
  simp [edRow] at hu
  rcases hu with rfl | rfl | rfl | rfl | rfl <;> first | rfl | exact h
/-- 'append(v, x...)' of edits. -/
theorem run_append_eb (w : World) (w0 B : Nat) (v : Value) (fvs : List Value) (l : List Ed.Edit) (hown : OwnEB w w0 B v fvs l) (x : Value) (gvs : List Value) (m : List Ed.Edit)
    (hx : ∃ y c, x = .slice y m.length c ∧ (0 < m.length → ∃ b, y = some ⟨b, 0, none⟩ ∧ ∀ i u, ((m.zip gvs).flatMap fun p => edRow p.1 p.2)[i]? = some u → w.cell? ⟨b, i, none⟩ = some u)) (hg : gvs.length = m.length)
    (hr : ∀ (j : Nat) (hj : j < m.length) (hj' : j < gvs.length), RdIB w w0 gvs[j] m[j].files) (ty : TypeId) (hl : l.length + m.length ≤ 1000000) (hB : B ≤ w.heap.size) (hw0 : w0 ≤ B) :
    ∃ v' w', (Builtin.append_ #[63, 63] ty #[v, x]).run Try.prog w = .ok v' w' ∧ OwnEB w' w0 B v' (fvs ++ gvs) (l ++ m) ∧ Below B w w' ∧ Chg (fun g => v.ownBlock = some g) w w' := by
  obtain ⟨i0, hi, hz0, hz1, hz2⟩ := info_parts Try.info_edit
  obtain ⟨y, c, rfl, x2⟩ := hx
  by_cases hm : m.length = 0
  · have e1 : m = [] := List.length_eq_zero_iff.1 hm
    have e2 : gvs = [] := List.length_eq_zero_iff.1 (by omega)
    subst e1 e2
    refine ⟨v, w, ?_, by rw [List.append_nil, List.append_nil]; exact hown, Below.refl _ _, Chg.refl _ _⟩
    obtain ⟨_, ⟨rfl, hn⟩ | ⟨g, cap, cur, rfl, _, _, hnc, _⟩⟩ := hown.row <;> cases y
    all_goals simp [Builtin.append_, run_underlying edts_under, sizeOf, typeInfo, hi, Builtin.lenOf, Builtin.firstCells, storeCells, loadCells, loadCellsFrom, *]
  · obtain ⟨b, rfl, hc⟩ := x2 (by omega)
    obtain ⟨f1, f2, f3⟩ := hown
    have hzl : (m.zip gvs).length = m.length := by rw [List.length_zip]; omega
    obtain ⟨v', w', h0, h1, h2, _, h4⟩ := run_append_own_at (P := Try.prog) w B 63 ty 74 i0 _ 5 64 edts_under hi hz0 hz1 hz2 rfl (by decide) v l.length _ f2 ⟨b, 0, none⟩ m.length c ((m.zip gvs).flatMap fun p => edRow p.1 p.2) (by rw [flat5_len, hzl]) (fun j u hj => by
        rw [add_zero_addr]; exact hc j u hj) (fun u hu => by
        obtain ⟨p, hp, hu⟩ := List.mem_flatMap.1 hu
        obtain ⟨j, hj, rfl⟩ := List.mem_iff_getElem.1 hp
        rw [List.getElem_zip] at hu
        exact edRow_one (hr j (by omega) (by omega)).one u hu) (by unfold maxLen; omega) (by omega) hB
    have hbel : Below B w w' := (Below.refl _ _).grown h2 hB fun k hk => ((World.ownsRow.lt f2) k hk).1
    have hch : Chg (fun g => B ≤ g) w w' := ⟨h2.os, h2.tape, h2.output, h2.size, fun k hk hs => h2.block k hk (fun e => by
      have := ((World.ownsRow.lt f2) k e.symm).1
      exact hs this)⟩
    refine ⟨v', w', h0, ⟨by simp [f1, hg], ?_, fun j hj hj' => ?_⟩, hbel, ⟨h2.os, h2.tape, h2.output, h2.size, fun k hk hs => h2.block k hk fun e => hs e.symm⟩⟩
    · rw [List.length_append, List.zip_append f1.symm, List.flatMap_append]
      exact h1
    · have key : ∀ (u : Value) (t : List Int), RdIB w w0 u t → RdIB w' w0 u t := fun u t hu => hu.chg hch fun g e => Nat.le_trans hw0 e
      by_cases hjl : j < l.length
      · rw [List.getElem_append_left hjl, List.getElem_append_left (by omega)]
        exact key _ _ (f3 j hjl (by omega))
      · simp at hj hj'
        rw [List.getElem_append_right (by omega), List.getElem_append_right (by omega)]
        have := hr (j - l.length) (by omega) (by omega)
        simp only [f1]
        exact key _ _ this
theorem wpList_append_eb {ops : Array Oper} {rest : List Oper} {o : Oper} {a : Act} {Q : Exit → Act → World → Prop} {w : World} (hgd : o.guard = none) (s x : Operand)
    (ho : o.op = .call { callee := .builtin .append, args := #[s, x], argTypes := #[63, 63] })
    (w0 B : Nat) (v : Value) (fvs : List Value) (l : List Ed.Edit) (hs : a.eval s = v) (hown : OwnEB w w0 B v fvs l) (y : Value) (hy : a.eval x = y) (gvs : List Value) (m : List Ed.Edit)
    (hx : ∃ z c, y = .slice z m.length c ∧ (0 < m.length → ∃ b, z = some ⟨b, 0, none⟩ ∧ ∀ i u, ((m.zip gvs).flatMap fun p => edRow p.1 p.2)[i]? = some u → w.cell? ⟨b, i, none⟩ = some u)) (hg : gvs.length = m.length)
    (hr : ∀ (j : Nat) (hj : j < m.length) (hj' : j < gvs.length), RdIB w w0 gvs[j] m[j].files) (hl : l.length + m.length ≤ 1000000) (hB : B ≤ w.heap.size) (hw0 : w0 ≤ B)
    (h : ∀ v' w', OwnEB w' w0 B v' (fvs ++ gvs) (l ++ m) → Below B w w' → Chg (fun g => v.ownBlock = some g) w w' → wpList Try.prog ops Q rest (a.put o.dst v') w') : wpList Try.prog ops Q (o :: rest) a w := by
  obtain ⟨v', w', h1, h2, h3, h4⟩ := run_append_eb w w0 B v fvs l hown y gvs m hx hg hr o.type hl hB hw0
  exact Lib.wpList_append_run w hgd s x _ _ ho v y hs hy v' w' h1 (h v' w' h2 h3 h4)
theorem allQ_snoc (s : Ed.St) (l : List Ed.Edit) (e : Ed.Edit) : Ed.allP s (l ++ [e]) = match Ed.allP s l with | some s' => Ed.applyP s' e | none => none := by
  induction l generalizing s with
  | nil =>
    show (match Ed.applyP s e with | some s' => Ed.allP s' [] | none => none) = Ed.applyP s e
    cases Ed.applyP s e <;> rfl
  | cons x l ih =>
    show (match Ed.applyP s x with | some s' => Ed.allP s' (l ++ [e]) | none => none) = match (match Ed.applyP s x with | some s' => Ed.allP s' l | none => none) with | some s' => Ed.applyP s' e | none => none
    cases Ed.applyP s x with
    | none => rfl
    | some s' => exact ih s'
end Go.Proofs.Ytenbgfejonokdaa
