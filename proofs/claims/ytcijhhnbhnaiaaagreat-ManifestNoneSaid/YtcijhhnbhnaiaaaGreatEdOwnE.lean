/- The call's own row of edits, and an edit behind it. -/
import Derived.Test.YtcijhhnbhnaiaaaGreatEdOpen
import Derived.Maps.AppendAt
namespace Go.Proofs.YtcijhhnbhnaiaaaGreat
set_option linter.unusedSimpArgs false
set_option linter.unusedVariables false
set_option maxRecDepth 100000
open Go.RowKit

/-- A row of numbers that is read, from block B on, in another block than o. -/
def RdIX (w : World) (B : Nat) (o : Option Nat) (v : Value) (l : List Int) : Prop :=
  (∃ x c, v = .slice x 0 c ∧ l = []) ∨ ∃ b off c, v = .slice (some ⟨b, off, none⟩) l.length c ∧ B ≤ b ∧ b < w.heap.size ∧ o ≠ some b ∧ ∀ j (hj : j < l.length), w.cell? ⟨b, off + j, none⟩ = some (.int .i64 l[j])
theorem RdIX.rd {w : World} {B : Nat} {o : Option Nat} {v : Value} {l : List Int} (h : RdIX w B o v l) : RdI w v l := by
  rcases h with h | ⟨b, off, c, h1, _, h2, _, h3⟩
  · exact .inl h
  · exact .inr ⟨b, off, c, h1, h2, h3⟩
theorem RdIX.chg {w w' : World} {B : Nat} {o : Option Nat} {v : Value} {l : List Int} {S : Nat → Prop} (h : RdIX w B o v l) (x : Chg S w w') (hS : ∀ g, S g → g < B) : RdIX w' B o v l := by
  rcases h with h | ⟨b, off, c, h1, h2, h3, h4, h5⟩
  · exact .inl h
  · exact .inr ⟨b, off, c, h1, h2, Nat.lt_of_lt_of_le h3 x.size, h4, fun j hj => (x.cell (p := ⟨b, off + j, none⟩) h3 (fun e => by have := hS _ e; simp at this; omega)).trans (h5 j hj)⟩
/-- The call's own row of edits (or nil), from block B on; their files' rows lie elsewhere. -/
def OwnEd (w : World) (B : Nat) (v : Value) (l : List Ed.Edit) : Prop :=
  ∃ fvs : List Value, fvs.length = l.length ∧ w.ownsRow B 44 5 v l.length ((l.zip fvs).flatMap fun p => edRow p.1 p.2) ∧ ∀ (j : Nat) (hj : j < l.length) (hj' : j < fvs.length), RdIX w B v.ownBlock fvs[j] l[j].files
theorem OwnEd.nil (w : World) (B : Nat) : OwnEd w B (.slice none 0 0) [] := ⟨[], rfl, World.ownsRow_nil w B _ 5, fun j hj => absurd hj (by simp)⟩
theorem ownsRow_chg {w w' : World} {B n k : Nat} {e : TypeId} {v : Value} {xs : List Value} {S : Nat → Prop} (h : w.ownsRow B e k v n xs) (x : Chg S w w') (hS : ∀ g, S g → g < B) : w'.ownsRow B e k v n xs := by
  have hlt := World.ownsRow.lt h
  obtain ⟨h1, h2⟩ := h
  refine ⟨h1, ?_⟩
  rcases h2 with h2 | ⟨g, cap, cur, hv, hg, hh, r⟩
  · exact .inl h2
  · refine .inr ⟨g, cap, cur, hv, hg, ?_, r⟩
    rw [x.block g (hlt g (by rw [hv]; rfl)).2 (fun e => by have := hS g e; omega), hh]
theorem OwnEd.chg {w w' : World} {B : Nat} {v : Value} {l : List Ed.Edit} {S : Nat → Prop} (h : OwnEd w B v l) (x : Chg S w w') (hS : ∀ g, S g → g < B) : OwnEd w' B v l := by
  obtain ⟨fvs, h1, h2, h3⟩ := h
  exact ⟨fvs, h1, ownsRow_chg h2 x hS, fun j hj hj' => (h3 j hj hj').chg x hS⟩
theorem flat5 : ∀ (l : List (Ed.Edit × Value)) (j i : Nat) (hj : j < l.length), i < 5 → (l.flatMap fun p => edRow p.1 p.2)[j * 5 + i]? = (edRow l[j].1 l[j].2)[i]?
  | [], j, i, hj, _ => absurd hj (by simp)
  | p :: l, 0, i, hj, hi => by
    rw [List.flatMap_cons, Nat.zero_mul, Nat.zero_add, List.getElem?_append_left (by show i < 5; exact hi)]; rfl
  | p :: l, j + 1, i, hj, hi => by
    rw [List.flatMap_cons, List.getElem?_append_right (by show 5 ≤ _; omega), show (j + 1) * 5 + i - (edRow p.1 p.2).length = j * 5 + i by show (j + 1) * 5 + i - 5 = _; omega, flat5 l j i (by simpa using hj) hi]
    rfl
theorem OwnEd.rd {w : World} {B : Nat} {v : Value} {l : List Ed.Edit} (h : OwnEd w B v l) : RdE w v l := by
  obtain ⟨fvs, h1, h2, h3⟩ := h
  have hlt := World.ownsRow.lt h2
  have hcs := fun g (hg : v.ownBlock = some g) => World.ownsRow.cells h2 hg
  obtain ⟨_, h4⟩ := h2
  rcases h4 with ⟨rfl, hz⟩ | ⟨g, cap, cur, hv, hg, hh, _⟩
  · refine ⟨none, 0, by rw [hz], fun j hj => absurd hj (by omega)⟩
  · refine ⟨some ⟨g, 0, none⟩, cap, hv, fun j hj => ?_⟩
    have hj' : j < fvs.length := by omega
    have hz : j < (l.zip fvs).length := by rw [List.length_zip]; omega
    have hc : ∀ i u, i < 5 → (edRow l[j] fvs[j])[i]? = some u → w.cell? ⟨g, 0 + (j * 5 + i), none⟩ = some u := fun i u hi hu => by
      have e : (⟨g, 0, none⟩ : Addr).add (j * 5 + i) = ⟨g, 0 + (j * 5 + i), none⟩ := by unfold Addr.add; split <;> simp_all
      rw [← e]
      refine hcs g (by rw [hv]; rfl) _ _ ?_
      rw [flat5 _ j i hz hi, List.getElem_zip]
      exact hu
    refine ⟨g, 0, fvs[j], rfl, (hlt g (by rw [hv]; rfl)).2, ?_, ?_, ?_, ?_, ?_, (h3 j hj hj').rd⟩
    · exact hc 0 _ (by omega) rfl
    · exact hc 1 _ (by omega) rfl
    · exact hc 2 _ (by omega) rfl
    · exact hc 3 _ (by omega) rfl
    · exact hc 4 _ (by omega) rfl
theorem Tryz.info_edit : (Tryz.prog.info? 44).map (fun i => (i.zero, i.size, i.bytes)) = some (some (.agg #[.int .i64 0, .int .i64 0, .int .i64 0, .slice none 0 0, .string ⟨#[]⟩]), 5, 64) := by kernel_rfl
theorem grown_ix {w w' : World} {B : Nat} {o o' : Option Nat} {v : Value} {l : List Int} (h : RdIX w B o v l) (x : w.grownBy w' o) (ho : o' = o ∨ o' = some w.heap.size) : RdIX w' B o' v l := by
  rcases h with h | ⟨b, off, c, h1, h2, h3, h4, h5⟩
  · exact .inl h
  · refine .inr ⟨b, off, c, h1, h2, Nat.lt_of_lt_of_le h3 x.size, ?_, fun j hj => ?_⟩
    · rcases ho with rfl | rfl
      · exact h4
      · intro e; injection e with e; omega
    · rw [World.cell?_of_block (w := w) (x.block b h3 (fun e => h4 e.symm))]; exact h5 j hj
/-- 'append(out, e)'. -/
theorem wpList_append_ed {ops : Array Oper} {rest : List Oper} {o : Oper} {a : Act} {Q : Exit → Act → World → Prop} {w : World} (hgd : o.guard = none) (s x : Operand)
    (ho : o.op = .call { callee := .builtin .append, args := #[s, x], argTypes := #[22, 22] })
    (B : Nat) (v : Value) (l : List Ed.Edit) (hs : a.eval s = v) (hown : OwnEd w B v l) (g : Nat) (hx : a.eval x = .slice (some ⟨g, 0, none⟩) 1 1) (e : Ed.Edit) (fv : Value)
    (hc : ∀ i u, (edRow e fv)[i]? = some u → w.cell? ⟨g, i, none⟩ = some u) (hfv : RdIX w B v.ownBlock fv e.files) (hone : fv.oneCell' = true)
    (hl : l.length + 1 ≤ 1000000) (hB : B ≤ w.heap.size)
    (h : ∀ v' w', OwnEd w' B v' (l ++ [e]) → Below B w w' → wpList Tryz.prog ops Q rest (a.put o.dst v') w') : wpList Tryz.prog ops Q (o :: rest) a w := by
  obtain ⟨i0, hi, hz0, hz1, hz2⟩ := info_parts Tryz.info_edit
  obtain ⟨fvs, f1, f2, f3⟩ := hown
  refine wpList_append_own_at _ hgd s x 22 ho B 44 i0 _ 5 64 edts_under hi hz0 hz1 hz2 rfl (by decide) v l.length _ hs f2 ⟨g, 0, none⟩ 1 1 (edRow e fv) hx rfl ?_ ?_ ?_ ?_ hB ?_
  · intro j u hj
    have e : (⟨g, 0, none⟩ : Addr).add j = ⟨g, j, none⟩ := by unfold Addr.add; split <;> simp_all
    rw [e]; exact hc j u hj
  · intro u hu
    simp [edRow] at hu
    rcases hu with rfl | rfl | rfl | rfl | rfl <;> first | rfl | exact hone
  · unfold maxLen; omega
  · omega
  · intro v' w' h1 h2 _ h4
    have hbel : Below B w w' := (Below.refl _ _).grown h2 hB fun k hk => ((World.ownsRow.lt f2) k hk).1
    refine h v' w' ⟨fvs ++ [fv], by simp [f1], ?_, fun j hj hj' => ?_⟩ hbel
    · rw [List.length_append, List.zip_append f1.symm, List.flatMap_append]
      simpa using h1
    · by_cases hjl : j < l.length
      · rw [List.getElem_append_left hjl, List.getElem_append_left (by omega)]
        exact grown_ix (f3 j hjl (by omega)) h2 h4
      · have hjj : j = l.length := by simp at hj; omega
        subst hjj
        rw [List.getElem_append_right (by omega), List.getElem_append_right (by omega)]
        simp only [f1, Nat.sub_self, List.getElem_cons_zero]
        exact grown_ix hfv h2 h4
end Go.Proofs.YtcijhhnbhnaiaaaGreat
