/- The call's own row of tablets, each with a row of numbers of its own; a tablet behind it; tablets behind it. -/
import Derived.Test.YtenbgfejonokdaaRefIn
import Derived.Test.YtenbgfejonokdaaEdOwnTb
import Derived.Test.YtenbgfejonokdaaEdTable
namespace Go.Proofs.Ytenbgfejonokdaa
set_option linter.unusedSimpArgs false
set_option linter.unusedVariables false
set_option maxRecDepth 100000
open Go.RowKit

/-- The call's own row of tablets, whose rows of numbers are its own, too, each in a block of its own. -/
structure OwnR (w : World) (B : Nat) (v : Value) (raw : List (ByteArray × Value)) (l : List Ed.Tab) : Prop where
  len : raw.length = l.length
  row : w.ownsRow B 70 2 v l.length (cellsT raw)
  each : ∀ (j : Nat) (hj : j < raw.length) (hj' : j < l.length), raw[j].1 = l[j].frm ∧ OwnI w B raw[j].2 l[j].tabs ∧ ∀ g, raw[j].2.ownBlock = some g → v.ownBlock ≠ some g
  apart : ∀ (i j : Nat) (hi : i < raw.length) (hj : j < raw.length) (g : Nat), i ≠ j → raw[i].2.ownBlock = some g → raw[j].2.ownBlock ≠ some g
theorem two_cells' {w : World} {t : TypeId} {a b : Value} : ∀ w1, w1 = w.alloc (.cells #[a, b] t (0, 0)) → Blk w1 w.heap.size t #[a, b] ∧ Below w.heap.size w w1 := fun w1 h => by
  rw [h]; exact ⟨Blk.alloc_new w _ _, (Below.refl _ _).alloc (Nat.le_refl _) _⟩
theorem OwnR.nil (w : World) (B : Nat) : OwnR w B (.slice none 0 0) [] [] := ⟨rfl, World.ownsRow_nil w B _ 2, fun j hj => absurd hj (by simp), fun i j hi => absurd hi (by simp)⟩
theorem OwnR.chg {w w' : World} {B : Nat} {v : Value} {raw : List (ByteArray × Value)} {l : List Ed.Tab} {S : Nat → Prop} (h : OwnR w B v raw l) (x : Chg S w w') (hS : ∀ g, S g → g < B) : OwnR w' B v raw l :=
  ⟨h.len, ownsRow_chg h.row x hS, fun j hj hj' => ⟨(h.each j hj hj').1, (h.each j hj hj').2.1.chg x (fun g hg e => by
    have := hS _ e
    have := ((World.ownsRow.lt (h.each j hj hj').2.1) g hg).1
    omega), (h.each j hj hj').2.2⟩, h.apart⟩
theorem OwnR.lt {w : World} {B : Nat} {v : Value} {raw : List (ByteArray × Value)} {l : List Ed.Tab} (h : OwnR w B v raw l) : (∀ g, v.ownBlock = some g → B ≤ g ∧ g < w.heap.size) ∧ ∀ (j : Nat) (hj : j < raw.length) (g : Nat), raw[j].2.ownBlock = some g → B ≤ g ∧ g < w.heap.size :=
  ⟨World.ownsRow.lt h.row, fun j hj g hg => World.ownsRow.lt (h.each j hj (by rw [← h.len]; exact hj)).2.1 g hg⟩
theorem OwnR.form {w : World} {B : Nat} {v : Value} {raw : List (ByteArray × Value)} {l : List Ed.Tab} (h : OwnR w B v raw l) : ∃ x c, v = .slice x l.length c ∧ l.length ≤ c ∧ c ≤ maxLen := by
  obtain ⟨_, ⟨rfl, hn⟩ | ⟨g, cap, cur, rfl, _, _, hn, hm, _⟩⟩ := h.row
  · exact ⟨none, 0, by rw [hn], by omega, Nat.zero_le _⟩
  · exact ⟨_, _, rfl, hn, hm⟩
theorem OwnR.weak {w : World} {B B' : Nat} {v : Value} {raw : List (ByteArray × Value)} {l : List Ed.Tab} (h : OwnR w B v raw l) (hB : B' ≤ B) : OwnR w B' v raw l := by
  refine ⟨h.len, ⟨h.row.1, ?_⟩, fun j hj hj' => ⟨(h.each j hj hj').1, (h.each j hj hj').2.1.base hB, (h.each j hj hj').2.2⟩, h.apart⟩
  rcases h.row.2 with h2 | ⟨g, cap, cur, hv, hg, r⟩
  · exact .inl h2
  · exact .inr ⟨g, cap, cur, hv, Nat.le_trans hB hg, r⟩
theorem OwnI.grown {w w' : World} {B : Nat} {v : Value} {l : List Int} {o : Option Nat} (h : OwnI w B v l) (x : w.grownBy w' o) (ho : ∀ g, v.ownBlock = some g → o ≠ some g) : OwnI w' B v l :=
  h.chg (chg_of_grown x) fun g hg e => ho g hg e
/-- 'append(s, t)' at a step of a region that draws its order. -/
theorem step_append_tr {ops : Array Oper} {o : Oper} {a : Act} {K : Act → World → Prop} {Q : Exit → Act → World → Prop} {E : Prop} {w : World} (hgd : o.guard = none) (s x : Operand)
    (ho : o.op = .call { callee := .builtin .append, args := #[s, x], argTypes := #[65, 65] })
    (B : Nat) (v : Value) (raw : List (ByteArray × Value)) (l : List Ed.Tab) (hs : a.eval s = v) (hown : OwnR w B v raw l) (g : Nat) (hx : a.eval x = .slice (some ⟨g, 0, none⟩) 1 1) (t : Ed.Tab) (fv : Value)
    (hc : ∀ i u, (tbRow t fv)[i]? = some u → w.cell? ⟨g, i, none⟩ = some u) (hfv : OwnI w B fv t.tabs) (hfa : ∀ g, fv.ownBlock = some g → v.ownBlock ≠ some g ∧ ∀ (j : Nat) (hj : j < raw.length), raw[j].2.ownBlock ≠ some g)
    (hl : l.length + 1 ≤ 1000000) (hB : B ≤ w.heap.size)
    (h : ∀ v' w', OwnR w' B v' (raw ++ [(t.frm, fv)]) (l ++ [t]) → Below B w w' → K (a.put o.dst v') w') : if Region.wanted o (yielded ops a.tmps) = true then Oper.wp Try.prog o a w K Q else E := by
  have hw : Region.wanted o (yielded ops a.tmps) = true := by simp [Region.wanted, hgd]
  rw [if_pos hw]
  obtain ⟨i0, hi, hz0, hz1, hz2⟩ := info_parts Try.info_tab
  have hlt := hown.lt
  obtain ⟨f1, f2, f3, f4⟩ := hown
  obtain ⟨v', w', h0, h1, h2, _, h4⟩ := run_append_own_at (P := Try.prog) w B 65 o.type 70 i0 _ 2 40 tabs_under' hi hz0 hz1 hz2 rfl (by decide) v l.length _ f2 ⟨g, 0, none⟩ 1 1 (tbRow t fv) rfl (fun j u hj => by
      have e : (⟨g, 0, none⟩ : Addr).add j = ⟨g, j, none⟩ := by unfold Addr.add; split <;> simp_all
      rw [e]; exact hc j u hj) (fun u hu => by
      simp [tbRow] at hu
      rcases hu with rfl | rfl
      · rfl
      · exact hfv.one) (by unfold maxLen; omega) (by omega) hB
  have hbel : Below B w w' := (Below.refl _ _).grown h2 hB fun k hk => ((World.ownsRow.lt f2) k hk).1
  unfold Oper.wp execOp
  simp only [ho, resolve, invoke, builtin, Sem.run_bind, Sem.run_pure, Result.andThen_ok, List.map_toArray, List.map_cons, List.map_nil, hs, hx, h0]
  have hfl := World.ownsRow.lt hfv
  have key : ∀ (u : Value) (m : List Int), OwnI w B u m → (∀ g, u.ownBlock = some g → v.ownBlock ≠ some g) → OwnI w' B u m ∧ ∀ g, u.ownBlock = some g → v'.ownBlock ≠ some g := fun u m hu hne =>
    ⟨hu.grown h2 hne, fun g hg => by
      rcases h4 with e | e
      · rw [e]; exact hne g hg
      · rw [e]
        intro e2
        injection e2 with e2
        have := ((World.ownsRow.lt hu) g hg).2
        omega⟩
  refine h v' w' ⟨by simp [f1], ?_, fun j hj hj' => ?_, fun i j hi hj g hij hg => ?_⟩ hbel
  · rw [List.length_append, cellsT_append]
    exact h1
  · by_cases hjl : j < l.length
    · rw [List.getElem_append_left hjl, List.getElem_append_left (by omega)]
      obtain ⟨g1, g2, g3⟩ := f3 j (by omega) hjl
      exact ⟨g1, key _ _ g2 g3⟩
    · have hjj : j = l.length := by simp at hj'; omega
      subst hjj
      rw [List.getElem_append_right (by omega), List.getElem_append_right (by omega)]
      simp only [f1, Nat.sub_self, List.getElem_cons_zero]
      exact ⟨trivial, key _ _ hfv fun g hg => (hfa g hg).1⟩
  · simp at hi hj
    by_cases h5 : i < raw.length
    · rw [List.getElem_append_left h5] at hg
      by_cases h6 : j < raw.length
      · rw [List.getElem_append_left h6]
        exact f4 i j h5 h6 g hij hg
      · have e : j = raw.length := by omega
        subst e
        rw [List.getElem_append_right (by omega)]
        simp only [Nat.sub_self, List.getElem_cons_zero]
        exact fun e => (hfa g e).2 i h5 hg
    · have e : i = raw.length := by omega
      subst e
      rw [List.getElem_append_right (by omega)] at hg
      simp only [Nat.sub_self, List.getElem_cons_zero] at hg
      rw [List.getElem_append_left (by omega)]
      exact (hfa g hg).2 j (by omega)
theorem OwnR.ownT {w : World} {B : Nat} {v : Value} {raw : List (ByteArray × Value)} {l : List Ed.Tab} (h : OwnR w B v raw l) (hne : 0 < l.length) : ∃ tb cap, v = .slice (some ⟨tb, 0, none⟩) l.length cap ∧ l.length ≤ cap ∧ cap ≤ maxLen ∧ OwnT w B tb raw l := by
  have hcs := fun g (hg : v.ownBlock = some g) => World.ownsRow.cells h.row hg
  have hlt := World.ownsRow.lt h.row
  obtain ⟨hxl, ⟨rfl, hn⟩ | ⟨g, cap, cur, rfl, hg, hh, hn, hm, hs, ht⟩⟩ := h.row
  · omega
  · refine ⟨g, cap, rfl, hn, hm, hg, ⟨(hlt g rfl).2, fun j hj => ?_, fun j hj => ?_⟩, h.len, fun j hj hj' => ?_, h.apart⟩
    · have := hcs g rfl j _ (List.getElem?_eq_getElem hj)
      rw [add_zero_addr] at this
      exact this
    · unfold World.frozen?
      rw [show (⟨g, j, none⟩ : Addr).block = g from rfl, hh]
      simp
    · obtain ⟨h1, h2, h3⟩ := h.each j hj hj'
      exact ⟨h1, h2, fun e => h3 g e rfl⟩
end Go.Proofs.Ytenbgfejonokdaa
