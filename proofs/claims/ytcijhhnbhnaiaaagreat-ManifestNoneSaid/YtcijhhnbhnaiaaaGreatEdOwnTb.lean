/- The call's own row of tablets, and a tablet behind it. -/
import Derived.Test.YtcijhhnbhnaiaaaGreatEdDec
namespace Go.Proofs.YtcijhhnbhnaiaaaGreat
set_option linter.unusedSimpArgs false
set_option linter.unusedVariables false
set_option maxRecDepth 100000
open Go.RowKit

def tbRow (t : Ed.Tab) (v : Value) : List Value := [.string t.frm, v]
/-- The call's own row of tablets (or nil), from block B on; their rows of numbers lie elsewhere. -/
def OwnTb (w : World) (B : Nat) (v : Value) (l : List Ed.Tab) : Prop :=
  ∃ fvs : List Value, fvs.length = l.length ∧ w.ownsRow B 65 2 v l.length ((l.zip fvs).flatMap fun p => tbRow p.1 p.2) ∧ ∀ (j : Nat) (hj : j < l.length) (hj' : j < fvs.length), RdIX w B v.ownBlock fvs[j] l[j].tabs
theorem OwnTb.nil (w : World) (B : Nat) : OwnTb w B (.slice none 0 0) [] := ⟨[], rfl, World.ownsRow_nil w B _ 2, fun j hj => absurd hj (by simp)⟩
theorem OwnTb.chg {w w' : World} {B : Nat} {v : Value} {l : List Ed.Tab} {S : Nat → Prop} (h : OwnTb w B v l) (x : Chg S w w') (hS : ∀ g, S g → g < B) : OwnTb w' B v l := by
  obtain ⟨fvs, h1, h2, h3⟩ := h
  exact ⟨fvs, h1, ownsRow_chg h2 x hS, fun j hj hj' => (h3 j hj hj').chg x hS⟩
theorem OwnTb.lt {w : World} {B : Nat} {v : Value} {l : List Ed.Tab} (h : OwnTb w B v l) : ∀ g, v.ownBlock = some g → B ≤ g ∧ g < w.heap.size := by
  obtain ⟨fvs, h1, h2, _⟩ := h
  exact World.ownsRow.lt h2
theorem flat2 : ∀ (l : List (Ed.Tab × Value)) (j i : Nat) (hj : j < l.length), i < 2 → (l.flatMap fun p => tbRow p.1 p.2)[j * 2 + i]? = (tbRow l[j].1 l[j].2)[i]?
  | [], j, i, hj, _ => absurd hj (by simp)
  | p :: l, 0, i, hj, hi => by
    rw [List.flatMap_cons, Nat.zero_mul, Nat.zero_add, List.getElem?_append_left (by show i < 2; exact hi)]; rfl
  | p :: l, j + 1, i, hj, hi => by
    rw [List.flatMap_cons, List.getElem?_append_right (by show 2 ≤ _; omega), show (j + 1) * 2 + i - (tbRow p.1 p.2).length = j * 2 + i by show (j + 1) * 2 + i - 2 = _; omega, flat2 l j i (by simpa using hj) hi]
    rfl
theorem OwnTb.rd {w : World} {B : Nat} {v : Value} {l : List Ed.Tab} (h : OwnTb w B v l) : RdT w v l := by
  obtain ⟨fvs, h1, h2, h3⟩ := h
  have hlt := World.ownsRow.lt h2
  have hcs := fun g (hg : v.ownBlock = some g) => World.ownsRow.cells h2 hg
  obtain ⟨_, h4⟩ := h2
  rcases h4 with ⟨rfl, hz⟩ | ⟨g, cap, cur, hv, hg, hh, _⟩
  · refine ⟨none, 0, by rw [hz], fun j hj => absurd hj (by omega)⟩
  · refine ⟨some ⟨g, 0, none⟩, cap, hv, fun j hj => ?_⟩
    have hj' : j < fvs.length := by omega
    have hz : j < (l.zip fvs).length := by rw [List.length_zip]; omega
    have hc : ∀ i u, i < 2 → (tbRow l[j] fvs[j])[i]? = some u → w.cell? ⟨g, 0 + (j * 2 + i), none⟩ = some u := fun i u hi hu => by
      have e : (⟨g, 0, none⟩ : Addr).add (j * 2 + i) = ⟨g, 0 + (j * 2 + i), none⟩ := by unfold Addr.add; split <;> simp_all
      rw [← e]
      refine hcs g (by rw [hv]; rfl) _ _ ?_
      rw [flat2 _ j i hz hi, List.getElem_zip]
      exact hu
    exact ⟨g, 0, fvs[j], rfl, (hlt g (by rw [hv]; rfl)).2, hc 0 _ (by omega) rfl, hc 1 _ (by omega) rfl, (h3 j hj hj').rd⟩
theorem Tryz.info_tab : (Tryz.prog.info? 65).map (fun i => (i.zero, i.size, i.bytes)) = some (some (.agg #[.string ⟨#[]⟩, .slice none 0 0]), 2, 40) := by kernel_rfl
theorem tabs_under' : Tryz.prog.underlying 26 = some (.slice 65) := by kernel_rfl
/-- 'append(s, t)' at a step of a region that draws its order. -/
theorem step_append_tb {ops : Array Oper} {o : Oper} {a : Act} {K : Act → World → Prop} {Q : Exit → Act → World → Prop} {E : Prop} {w : World} (hgd : o.guard = none) (s x : Operand)
    (ho : o.op = .call { callee := .builtin .append, args := #[s, x], argTypes := #[26, 26] })
    (B : Nat) (v : Value) (l : List Ed.Tab) (hs : a.eval s = v) (hown : OwnTb w B v l) (g : Nat) (hx : a.eval x = .slice (some ⟨g, 0, none⟩) 1 1) (t : Ed.Tab) (fv : Value)
    (hc : ∀ i u, (tbRow t fv)[i]? = some u → w.cell? ⟨g, i, none⟩ = some u) (hfv : RdIX w B v.ownBlock fv t.tabs) (hone : fv.oneCell' = true)
    (hl : l.length + 1 ≤ 1000000) (hB : B ≤ w.heap.size)
    (h : ∀ v' w', OwnTb w' B v' (l ++ [t]) → Below B w w' → K (a.put o.dst v') w') : if Region.wanted o (yielded ops a.tmps) = true then Oper.wp Tryz.prog o a w K Q else E := by
  have hw : Region.wanted o (yielded ops a.tmps) = true := by simp [Region.wanted, hgd]
  rw [if_pos hw]
  obtain ⟨i0, hi, hz0, hz1, hz2⟩ := info_parts Tryz.info_tab
  obtain ⟨fvs, f1, f2, f3⟩ := hown
  obtain ⟨v', w', h0, h1, h2, _, h4⟩ := run_append_own_at (P := Tryz.prog) w B 26 o.type 65 i0 _ 2 40 tabs_under' hi hz0 hz1 hz2 rfl (by decide) v l.length _ f2 ⟨g, 0, none⟩ 1 1 (tbRow t fv) rfl (fun j u hj => by
      have e : (⟨g, 0, none⟩ : Addr).add j = ⟨g, j, none⟩ := by unfold Addr.add; split <;> simp_all
      rw [e]; exact hc j u hj) (fun u hu => by
      simp [tbRow] at hu
      rcases hu with rfl | rfl
      · rfl
      · exact hone) (by unfold maxLen; omega) (by omega) hB
  have hbel : Below B w w' := (Below.refl _ _).grown h2 hB fun k hk => ((World.ownsRow.lt f2) k hk).1
  unfold Oper.wp execOp
  simp only [ho, resolve, invoke, builtin, Sem.run_bind, Sem.run_pure, Result.andThen_ok, List.map_toArray, List.map_cons, List.map_nil, hs, hx, h0]
  refine h v' w' ⟨fvs ++ [fv], by simp [f1], ?_, fun j hj hj' => ?_⟩ hbel
  · rw [List.length_append, List.zip_append f1.symm, List.flatMap_append]
    simpa using h1
  · by_cases hjl : j < l.length
    · rw [List.getElem_append_left hjl, List.getElem_append_left (by omega)]
      exact grown_ix (f3 j hjl (by omega)) h2 h4
    · have hjj : j = l.length := by simp at hj; omega
      subst hjj
      rw [List.getElem_append_right (by omega), List.getElem_append_right (by omega)]
      simp only [f1, Nat.sub_self, List.getElem_cons_zero]
      exact grown_ix hfv h2 h4
/-- A text and a row, one behind the other. -/
theorem tab_join {s : List UInt8} {q q1 q2 : Nat} {t : List UInt8} {l : List Int} {b1 b2 : Bool} (h1 : TxtR s q false t q1 b1) (h2 : LstR s q1 b1 l q2 b2) :
    b2 = false ∧ Ed.tab s q = some (⟨⟨t.toArray⟩, l⟩, q2) ∨ b2 = true ∧ Ed.tab s q = none := by
  unfold Ed.tab
  rcases h1 with ⟨e1, f1, _⟩ | ⟨e1, _, _, f1⟩
  case inr =>
    right
    rw [e1]
    exact ⟨h2.up f1, rfl⟩
  rw [e1]
  simp only
  rcases h2 with ⟨_, g2, e2⟩ | ⟨g2, e2⟩
  · left
    rw [e2]
    exact ⟨g2, rfl⟩
  · right
    rcases e2 with e2 | e2
    · rw [f1] at e2; cases e2
    · rw [e2]; exact ⟨g2, rfl⟩
end Go.Proofs.YtcijhhnbhnaiaaaGreat
