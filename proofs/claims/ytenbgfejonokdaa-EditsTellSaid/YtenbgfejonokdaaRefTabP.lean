/- A state of the call's own, the state it came of, and an edit, in memory; tablets behind tablets. -/
import Derived.Test.YtenbgfejonokdaaRefCopied
import Derived.Test.YtenbgfejonokdaaRefEdP
import Derived.Test.YtenbgfejonokdaaEdApply
import Derived.Test.YtenbgfejonokdaaEdSame
namespace Go.Proofs.Ytenbgfejonokdaa
set_option linter.unusedSimpArgs false
set_option linter.unusedVariables false
set_option maxRecDepth 100000
open Go.RowKit

/-- A slice that reads as these tablets; their rows have room for what they have. -/
def RdTC (w : World) (v : Value) (l : List Ed.Tab) : Prop :=
  ∃ x c, v = .slice x l.length c ∧ ∀ (j : Nat) (hj : j < l.length), ∃ b off tv, x = some ⟨b, off, none⟩ ∧ b < w.heap.size ∧ w.cell? ⟨b, off + j * 2, none⟩ = some (.string l[j].frm) ∧ w.cell? ⟨b, off + j * 2 + 1, none⟩ = some tv ∧ RdI w tv l[j].tabs ∧ CapOk tv
theorem RdTC.rd {w : World} {v : Value} {l : List Ed.Tab} (h : RdTC w v l) : RdT w v l := by
  obtain ⟨x, c, e, h⟩ := h
  refine ⟨x, c, e, fun j hj => ?_⟩
  obtain ⟨b, off, tv, h1, h2, h3, h4, h5, _⟩ := h j hj
  exact ⟨b, off, tv, h1, h2, h3, h4, h5⟩
theorem RdTC.below {w w' : World} {v : Value} {l : List Ed.Tab} (h : RdTC w v l) (x : Below w.heap.size w w') : RdTC w' v l := by
  obtain ⟨a, c, e, h⟩ := h
  refine ⟨a, c, e, fun j hj => ?_⟩
  obtain ⟨b, off, tv, e, hb, h1, h2, h3, h4⟩ := h j hj
  exact ⟨b, off, tv, e, Nat.lt_of_lt_of_le hb x.size, (x.cell (p := ⟨b, _, none⟩) hb).trans h1, (x.cell (p := ⟨b, _, none⟩) hb).trans h2, h3.below x, h4⟩
/-- .. ahead of block B. -/
def RdTCB (w : World) (B : Nat) (v : Value) (l : List Ed.Tab) : Prop :=
  ∃ x c, v = .slice x l.length c ∧ ∀ (j : Nat) (hj : j < l.length), ∃ b off tv, x = some ⟨b, off, none⟩ ∧ b < B ∧ b < w.heap.size ∧ w.cell? ⟨b, off + j * 2, none⟩ = some (.string l[j].frm) ∧ w.cell? ⟨b, off + j * 2 + 1, none⟩ = some tv ∧ RdIB w B tv l[j].tabs ∧ CapOk tv
theorem RdTC.base {w : World} {v : Value} {l : List Ed.Tab} (h : RdTC w v l) : RdTCB w w.heap.size v l := by
  obtain ⟨x, c, e, h⟩ := h
  refine ⟨x, c, e, fun j hj => ?_⟩
  obtain ⟨b, off, tv, h1, h2, h3, h4, h5, h6⟩ := h j hj
  exact ⟨b, off, tv, h1, h2, h2, h3, h4, h5.base, h6⟩
theorem RdTCB.chg {w w' : World} {B : Nat} {v : Value} {l : List Ed.Tab} {S : Nat → Prop} (h : RdTCB w B v l) (x : Chg S w w') (hS : ∀ g, S g → B ≤ g) : RdTCB w' B v l := by
  obtain ⟨y, c, e, h⟩ := h
  refine ⟨y, c, e, fun j hj => ?_⟩
  obtain ⟨b, off, tv, h1, hB, h2, h3, h4, h5, h6⟩ := h j hj
  have hn : ¬ S b := fun e => by have := hS _ e; omega
  exact ⟨b, off, tv, h1, hB, Nat.lt_of_lt_of_le h2 x.size, (x.cell (p := ⟨b, _, none⟩) h2 hn).trans h3, (x.cell (p := ⟨b, _, none⟩) h2 hn).trans h4, h5.chg x hS, h6⟩
theorem RdTCB.more {w : World} {B B' : Nat} {v : Value} {l : List Ed.Tab} (h : RdTCB w B v l) (hB : B ≤ B') : RdTCB w B' v l := by
  obtain ⟨y, c, e, h⟩ := h
  refine ⟨y, c, e, fun j hj => ?_⟩
  obtain ⟨b, off, tv, h1, h0, h2, h3, h4, h5, h6⟩ := h j hj
  exact ⟨b, off, tv, h1, Nat.lt_of_lt_of_le h0 hB, h2, h3, h4, h5.more hB, h6⟩
/-- A row of numbers that reads, in no block of N. -/
def RdN (w : World) (N : Nat → Prop) (v : Value) (l : List Int) : Prop :=
  (∃ x c, v = .slice x 0 c ∧ l = []) ∨ ∃ b off c, v = .slice (some ⟨b, off, none⟩) l.length c ∧ ¬ N b ∧ b < w.heap.size ∧ ∀ j (hj : j < l.length), w.cell? ⟨b, off + j, none⟩ = some (.int .i64 l[j])
theorem RdN.rd {w : World} {N : Nat → Prop} {v : Value} {l : List Int} (h : RdN w N v l) : RdI w v l := by
  rcases h with h | ⟨b, off, c, h1, _, h2, h3⟩
  · exact .inl h
  · exact .inr ⟨b, off, c, h1, h2, h3⟩
theorem RdN.chg {w w' : World} {N N' : Nat → Prop} {v : Value} {l : List Int} {S : Nat → Prop} (h : RdN w N v l) (x : Chg S w w') (hS : ∀ g, S g → N g) (hN : ∀ g, g < w.heap.size → N' g → N g) : RdN w' N' v l := by
  rcases h with h | ⟨b, off, c, h1, h2, h3, h4⟩
  · exact .inl h
  · exact .inr ⟨b, off, c, h1, fun e => h2 (hN b h3 e), Nat.lt_of_lt_of_le h3 x.size, fun j hj => (x.cell (p := ⟨b, off + j, none⟩) h3 (fun e => h2 (hS _ e))).trans (h4 j hj)⟩
theorem OwnI.rdn {w : World} {B : Nat} {N : Nat → Prop} {v : Value} {l : List Int} (h : OwnI w B v l) (hN : ∀ g, v.ownBlock = some g → ¬ N g) : RdN w N v l := by
  rcases h.rd with h1 | ⟨b, off, c, h1, h2, h3⟩
  · exact .inl h1
  · exact .inr ⟨b, off, c, h1, hN b (by rw [h1]; rfl), h2, h3⟩
theorem RdN.weak {w : World} {N N' : Nat → Prop} {v : Value} {l : List Int} (h : RdN w N v l) (hN : ∀ g, N' g → N g) : RdN w N' v l := by
  rcases h with h | ⟨b, off, c, h1, h2, h3, h4⟩
  · exact .inl h
  · exact .inr ⟨b, off, c, h1, fun e => h2 (hN b e), h3, h4⟩
/-- A slice that reads as these tablets, in no block of N. -/
def RdTCN (w : World) (N : Nat → Prop) (v : Value) (l : List Ed.Tab) : Prop :=
  ∃ x c, v = .slice x l.length c ∧ ∀ (j : Nat) (hj : j < l.length), ∃ b off tv, x = some ⟨b, off, none⟩ ∧ ¬ N b ∧ b < w.heap.size ∧ w.cell? ⟨b, off + j * 2, none⟩ = some (.string l[j].frm) ∧ w.cell? ⟨b, off + j * 2 + 1, none⟩ = some tv ∧ RdN w N tv l[j].tabs ∧ CapOk tv
theorem RdTCN.rd {w : World} {N : Nat → Prop} {v : Value} {l : List Ed.Tab} (h : RdTCN w N v l) : RdTC w v l := by
  obtain ⟨x, c, e, h⟩ := h
  refine ⟨x, c, e, fun j hj => ?_⟩
  obtain ⟨b, off, tv, h1, _, h2, h3, h4, h5, h6⟩ := h j hj
  exact ⟨b, off, tv, h1, h2, h3, h4, h5.rd, h6⟩
theorem RdTCN.chg {w w' : World} {N : Nat → Prop} {v : Value} {l : List Ed.Tab} {S : Nat → Prop} (h : RdTCN w N v l) (x : Chg S w w') (hS : ∀ g, S g → N g) : RdTCN w' N v l := by
  obtain ⟨y, c, e, h⟩ := h
  refine ⟨y, c, e, fun j hj => ?_⟩
  obtain ⟨b, off, tv, h1, hB, h2, h3, h4, h5, h6⟩ := h j hj
  have hn : ¬ S b := fun e => hB (hS _ e)
  exact ⟨b, off, tv, h1, hB, Nat.lt_of_lt_of_le h2 x.size, (x.cell (p := ⟨b, _, none⟩) h2 hn).trans h3, (x.cell (p := ⟨b, _, none⟩) h2 hn).trans h4, h5.chg x hS (fun _ _ e => e), h6⟩
theorem RdTCN.weak {w : World} {N N' : Nat → Prop} {v : Value} {l : List Ed.Tab} (h : RdTCN w N v l) (hN : ∀ g, N' g → N g) : RdTCN w N' v l := by
  obtain ⟨y, c, e, h⟩ := h
  refine ⟨y, c, e, fun j hj => ?_⟩
  obtain ⟨b, off, tv, h1, hB, h2, h3, h4, h5, h6⟩ := h j hj
  exact ⟨b, off, tv, h1, fun e => hB (hN b e), h2, h3, h4, h5.weak hN, h6⟩
/-- The call's own row of tablets, in no block of N; their rows in no block of N, nor in its own. -/
structure OwnN (w : World) (N : Nat → Prop) (v : Value) (raw : List (ByteArray × Value)) (l : List Ed.Tab) : Prop where
  len : raw.length = l.length
  row : w.ownsRow 0 70 2 v l.length (cellsT raw)
  out : ∀ g, v.ownBlock = some g → ¬ N g
  each : ∀ (j : Nat) (hj : j < raw.length) (hj' : j < l.length), raw[j].1 = l[j].frm ∧ RdN w (fun g => N g ∨ v.ownBlock = some g) raw[j].2 l[j].tabs ∧ CapOk raw[j].2
theorem OwnN.nil (w : World) (N : Nat → Prop) : OwnN w N (.slice none 0 0) [] [] := ⟨rfl, World.ownsRow_nil w 0 _ 2, fun g h => (by cases h), fun j hj => absurd hj (by simp)⟩
theorem ownsRow_chg' {w w' : World} {B n k : Nat} {e : TypeId} {v : Value} {xs : List Value} {S : Nat → Prop} (h : w.ownsRow B e k v n xs) (x : Chg S w w') (hS : ∀ g, v.ownBlock = some g → ¬ S g) : w'.ownsRow B e k v n xs := by
  have hlt := World.ownsRow.lt h
  obtain ⟨h1, h2⟩ := h
  refine ⟨h1, ?_⟩
  rcases h2 with h2 | ⟨g, cap, cur, hv, hg, hh, r⟩
  · exact .inl h2
  · refine .inr ⟨g, cap, cur, hv, hg, ?_, r⟩
    rw [x.block g (hlt g (by rw [hv]; rfl)).2 (hS g (by rw [hv]; rfl)), hh]
theorem OwnN.chg {w w' : World} {N : Nat → Prop} {v : Value} {raw : List (ByteArray × Value)} {l : List Ed.Tab} {S : Nat → Prop} (h : OwnN w N v raw l) (x : Chg S w w') (hS : ∀ g, S g → N g) : OwnN w' N v raw l :=
  ⟨h.len, ownsRow_chg' h.row x fun g hg e => h.out g hg (hS g e), h.out, fun j hj hj' => ⟨(h.each j hj hj').1, (h.each j hj hj').2.1.chg x (fun g e => .inl (hS g e)) (fun g _ e => e), (h.each j hj hj').2.2⟩⟩
theorem OwnN.below {w w' : World} {N : Nat → Prop} {v : Value} {raw : List (ByteArray × Value)} {l : List Ed.Tab} (h : OwnN w N v raw l) (x : Below w.heap.size w w') : OwnN w' N v raw l :=
  h.chg (S := fun _ => False) (Chg.of_below x) (fun _ e => e.elim)
theorem OwnN.form {w : World} {N : Nat → Prop} {v : Value} {raw : List (ByteArray × Value)} {l : List Ed.Tab} (h : OwnN w N v raw l) : ∃ x c, v = .slice x l.length c := by
  obtain ⟨_, ⟨rfl, hn⟩ | ⟨g, cap, cur, rfl, _⟩⟩ := h.row
  · exact ⟨none, 0, by rw [hn]⟩
  · exact ⟨_, _, rfl⟩
theorem OwnN.rd {w : World} {N : Nat → Prop} {v : Value} {raw : List (ByteArray × Value)} {l : List Ed.Tab} (h : OwnN w N v raw l) : RdTCN w N v l := by
  have hlt := World.ownsRow.lt h.row
  have hcs := fun g (hg : v.ownBlock = some g) => World.ownsRow.cells h.row hg
  obtain ⟨h1, h2, h0, h3⟩ := h
  obtain ⟨_, h4⟩ := h2
  rcases h4 with ⟨rfl, hz⟩ | ⟨g, cap, cur, hv, hg, hh, _⟩
  · exact ⟨none, 0, by rw [hz], fun j hj => absurd hj (by omega)⟩
  · refine ⟨some ⟨g, 0, none⟩, cap, hv, fun j hj => ?_⟩
    have hj' : j < raw.length := by omega
    obtain ⟨e1, e2, e3⟩ := h3 j hj' hj
    refine ⟨g, 0, raw[j].2, rfl, h0 g (by rw [hv]; rfl), (hlt g (by rw [hv]; rfl)).2, ?_, ?_, e2.weak (fun g e => .inl e), e3⟩
    · have := hcs g (by rw [hv]; rfl) _ _ (cellsT_get0 raw j hj')
      rw [add_zero_addr] at this
      rw [Nat.zero_add, ← e1]; exact this
    · have := hcs g (by rw [hv]; rfl) _ _ (cellsT_get1 raw j hj')
      rw [add_zero_addr] at this
      rw [Nat.zero_add]; exact this
/-- Tablets to be laid behind others: where they lie. -/
structure SrcT (w : World) (N : Nat → Prop) (x : Value) (raw : List (ByteArray × Value)) (l : List Ed.Tab) : Prop where
  len : raw.length = l.length
  at_ : ∃ y c, x = .slice y l.length c ∧ (0 < l.length → ∃ b off, y = some ⟨b, off, none⟩ ∧ ∀ i u, (cellsT raw)[i]? = some u → w.cell? ⟨b, off + i, none⟩ = some u)
  each : ∀ (j : Nat) (hj : j < raw.length) (hj' : j < l.length), raw[j].1 = l[j].frm ∧ RdN w N raw[j].2 l[j].tabs ∧ CapOk raw[j].2
theorem capOk_one {v : Value} (h : CapOk v) : v.oneCell' = true := by obtain ⟨x, n, c, rfl, _⟩ := h; rfl
/-- 'append(v, x...)' of tablets. -/
theorem run_append_tn (w : World) (N : Nat → Prop) (v : Value) (raw : List (ByteArray × Value)) (l : List Ed.Tab) (hown : OwnN w N v raw l) (x : Value) (rax : List (ByteArray × Value)) (m : List Ed.Tab) (hx : SrcT w (fun g => N g ∨ v.ownBlock = some g) x rax m)
    (ty : TypeId) (hl : l.length + m.length ≤ 1000000) (hN : ∀ g, N g → g < w.heap.size) :
    ∃ v' w', (Builtin.append_ #[65, 65] ty #[v, x]).run Try.prog w = .ok v' w' ∧ OwnN w' N v' (raw ++ rax) (l ++ m) ∧ w.grownBy w' v.ownBlock ∧ (v'.ownBlock = v.ownBlock ∨ v'.ownBlock = some w.heap.size) := by
  obtain ⟨i0, hi, hz0, hz1, hz2⟩ := info_parts Try.info_tab
  obtain ⟨x1, ⟨y, c, rfl, x2⟩, x3⟩ := hx
  by_cases hm : m.length = 0
  · have e1 : m = [] := List.length_eq_zero_iff.1 hm
    have e2 : rax = [] := List.length_eq_zero_iff.1 (by omega)
    subst e1 e2
    refine ⟨v, w, ?_, by rw [List.append_nil, List.append_nil]; exact hown, ⟨rfl, rfl, rfl, Nat.le_refl _, fun _ _ _ => rfl⟩, .inl rfl⟩
    obtain ⟨_, ⟨rfl, hn⟩ | ⟨g, cap, cur, rfl, _, _, hnc, _⟩⟩ := hown.row <;> cases y
    all_goals simp [Builtin.append_, run_underlying tabs_under', sizeOf, typeInfo, hi, Builtin.lenOf, Builtin.firstCells, storeCells, loadCells, loadCellsFrom, *]
  · obtain ⟨b, off, rfl, hc⟩ := x2 (by omega)
    obtain ⟨f1, f2, f3, f4⟩ := hown
    have hcl := cellsT_length rax
    obtain ⟨v', w', h0, h1, h2, _, h4⟩ := run_append_own_at (P := Try.prog) w 0 65 ty 70 i0 _ 2 40 tabs_under' hi hz0 hz1 hz2 rfl (by decide) v l.length _ f2 ⟨b, off, none⟩ m.length c (cellsT rax) (by omega) (fun j u hj => by
        have e : (⟨b, off, none⟩ : Addr).add j = ⟨b, off + j, none⟩ := by unfold Addr.add; split <;> simp_all
        rw [e]; exact hc j u hj) (cellsT_one fun j hj => capOk_one (x3 j hj (by omega)).2.2) (by unfold maxLen; omega) (by omega) (Nat.zero_le _)
    refine ⟨v', w', h0, ⟨by simp [f1, x1], by rw [List.length_append, cellsT_append]; exact h1, fun g hg hNg => ?_, fun j hj hj' => ?_⟩, h2, h4⟩
    · rcases h4 with e | e
      · rw [e] at hg; exact f3 g hg hNg
      · rw [e] at hg; injection hg with hg
        have := hN g hNg; omega
    · have key : ∀ (u : Value) (t : List Int), RdN w (fun g => N g ∨ v.ownBlock = some g) u t → RdN w' (fun g => N g ∨ v'.ownBlock = some g) u t := fun u t hu =>
        hu.chg (chg_of_grown h2) (fun g e => .inr e) fun g hg e => by
          rcases e with e | e
          · exact .inl e
          · rcases h4 with e2 | e2
            · exact .inr (by rw [← e2]; exact e)
            · rw [e2] at e; injection e with e; omega
      by_cases hjl : j < l.length
      · rw [List.getElem_append_left (by omega), List.getElem_append_left hjl]
        obtain ⟨g1, g2, g3⟩ := f4 j (by omega) hjl
        exact ⟨g1, key _ _ g2, g3⟩
      · simp at hj hj'
        rw [List.getElem_append_right (by omega), List.getElem_append_right (by omega)]
        obtain ⟨g1, g2, g3⟩ := x3 (j - raw.length) (by omega) (by omega)
        simp only [f1] at g1 g2 g3 ⊢
        exact ⟨g1, key _ _ g2, g3⟩
theorem step_append_tn {ops : Array Oper} {o : Oper} {a : Act} {K : Act → World → Prop} {Q : Exit → Act → World → Prop} {E : Prop} {w : World} (hgd : o.guard = none) (s x : Operand)
    (ho : o.op = .call { callee := .builtin .append, args := #[s, x], argTypes := #[65, 65] })
    (N : Nat → Prop) (v : Value) (raw : List (ByteArray × Value)) (l : List Ed.Tab) (hs : a.eval s = v) (hown : OwnN w N v raw l) (y : Value) (hx : a.eval x = y) (rax : List (ByteArray × Value)) (m : List Ed.Tab) (hy : SrcT w (fun g => N g ∨ v.ownBlock = some g) y rax m)
    (hl : l.length + m.length ≤ 1000000) (hN : ∀ g, N g → g < w.heap.size)
    (h : ∀ v' w', OwnN w' N v' (raw ++ rax) (l ++ m) → w.grownBy w' v.ownBlock → (v'.ownBlock = v.ownBlock ∨ v'.ownBlock = some w.heap.size) → K (a.put o.dst v') w') : if Region.wanted o (yielded ops a.tmps) = true then Oper.wp Try.prog o a w K Q else E := by
  have hw : Region.wanted o (yielded ops a.tmps) = true := by simp [Region.wanted, hgd]
  rw [if_pos hw]
  obtain ⟨v', w', h1, h2, h3, h4⟩ := run_append_tn w N v raw l hown y rax m hy o.type hl hN
  unfold Oper.wp execOp
  simp only [ho, resolve, invoke, builtin, Sem.run_bind, Sem.run_pure, Result.andThen_ok, List.map_toArray, List.map_cons, List.map_nil, hs, hx, h1]
  exact h v' w' h2 h3 h4
/-- The first tablets of a row that lies in block tb. -/
theorem srcT_take {w : World} {N : Nat → Prop} {tb k c : Nat} {raw : List (ByteArray × Value)} {l : List Ed.Tab} (h : RowAt w tb (cellsT raw)) (hlen : raw.length = l.length) (he : ∀ (j : Nat) (hj : j < raw.length) (hj' : j < l.length), raw[j].1 = l[j].frm ∧ RdN w N raw[j].2 l[j].tabs ∧ CapOk raw[j].2)
    (hk : k ≤ l.length) : SrcT w N (.slice (some ⟨tb, 0, none⟩) k c) (raw.take k) (l.take k) := by
  have hkl : (l.take k).length = k := by rw [List.length_take]; omega
  refine ⟨by simp [hlen], ⟨_, c, by rw [hkl], fun _ => ⟨tb, 0, rfl, fun i u hi => ?_⟩⟩, fun j hj hj' => ?_⟩
  · rw [← cellsT_take] at hi
    rw [Nat.zero_add]
    rw [List.getElem?_take] at hi
    split at hi
    · exact h.get i u hi
    · cases hi
  · simp at hj hj'
    rw [List.getElem_take, List.getElem_take]
    exact he j (by omega) (by omega)
/-- .. and those from place k on. -/
theorem srcT_drop {w : World} {N : Nat → Prop} {tb k c m : Nat} {raw : List (ByteArray × Value)} {l : List Ed.Tab} {y : Option Addr} (h : RowAt w tb (cellsT raw)) (hlen : raw.length = l.length) (he : ∀ (j : Nat) (hj : j < raw.length) (hj' : j < l.length), raw[j].1 = l[j].frm ∧ RdN w N raw[j].2 l[j].tabs ∧ CapOk raw[j].2)
    (hk : k ≤ l.length) (hm : m = l.length - k) (hy : k < l.length → y = some ⟨tb, k * 2, none⟩) : SrcT w N (.slice y m c) (raw.drop k) (l.drop k) := by
  refine ⟨by simp [hlen], ⟨y, c, by rw [List.length_drop, hm], fun h0 => ⟨tb, k * 2, hy (by rw [List.length_drop] at h0; omega), fun i u hi => ?_⟩⟩, fun j hj hj' => ?_⟩
  · rw [← cellsT_drop, List.getElem?_drop] at hi
    exact h.get _ u hi
  · simp at hj hj'
    rw [List.getElem_drop, List.getElem_drop]
    exact he _ (by omega) (by omega)
end Go.Proofs.Ytenbgfejonokdaa
