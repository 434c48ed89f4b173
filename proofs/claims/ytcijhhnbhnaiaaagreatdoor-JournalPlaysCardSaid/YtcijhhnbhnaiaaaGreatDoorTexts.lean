/- Rows of strings: one of the call's own; one that is only read. -/
import Derived.Test.YtcijhhnbhnaiaaaGreatDoorLib
namespace Go.Proofs.YtcijhhnbhnaiaaaGreatDoor
open Go.RowKit

theorem Tryz.info_str : (Tryz.prog.info? 9).map (fun i => (i.zero, i.size, i.bytes)) = some (some (.string ⟨#[]⟩), 1, 16) := by kernel_rfl
theorem under_strings : Tryz.prog.underlying 76 = some (.slice 9) := by kernel_rfl
/-- The call's own row of strings (or nil), from block B on. -/
def OwnS (w : World) (B : Nat) (v : Value) (l : List ByteArray) : Prop := w.ownsRow B 9 1 v l.length (l.map Value.string)
/-- A slice that reads as these strings. -/
def RdS (w : World) (v : Value) (l : List ByteArray) : Prop :=
  (∃ c, v = .slice none 0 c ∧ l = []) ∨ ∃ b off c, v = .slice (some ⟨b, off, none⟩) l.length c ∧ b < w.heap.size ∧ ∀ j (hj : j < l.length), w.cell? ⟨b, off + j, none⟩ = some (.string l[j])
theorem OwnS.nil (w : World) (B : Nat) : OwnS w B (.slice none 0 0) [] := World.ownsRow_nil w B _ 1
theorem OwnS.below {w : World} {B : Nat} {v : Value} {l : List ByteArray} (h : OwnS w B v l) {w' : World} (hg : w.grownBy w' v.ownBlock) (hB : B ≤ w.heap.size) : Below B w w' :=
  (Below.refl _ _).grown hg hB fun k hk => ((World.ownsRow.lt h) k hk).1
theorem OwnS.alloc {w : World} {B : Nat} {v : Value} {l : List ByteArray} (h : OwnS w B v l) (o : Obj) : OwnS (w.alloc o) B v l := World.ownsRow.alloc h o
theorem OwnS.kept {w w' : World} {B : Nat} {v : Value} {l : List ByteArray} (h : OwnS w B v l) (x : Below w.heap.size w w') : OwnS w' B v l := by
  have hlt := World.ownsRow.lt h
  obtain ⟨h1, h2⟩ := h
  refine ⟨h1, ?_⟩
  rcases h2 with h2 | ⟨g, cap, cur, hv, hg, hh, r⟩
  · exact .inl h2
  · refine .inr ⟨g, cap, cur, hv, hg, ?_, r⟩
    rw [x.block g (hlt g (by rw [hv]; rfl)).2, hh]
theorem OwnS.rd {w : World} {B : Nat} {v : Value} {l : List ByteArray} (h : OwnS w B v l) : RdS w v l := by
  have hlt := World.ownsRow.lt h
  have hcs := fun g (hg : v.ownBlock = some g) => World.ownsRow.cells h hg
  obtain ⟨h1, h2⟩ := h
  rcases h2 with ⟨rfl, h2⟩ | ⟨g, cap, cur, hv, hg, hh, r⟩
  · exact .inl ⟨0, rfl, List.length_eq_zero_iff.1 h2⟩
  · refine .inr ⟨g, 0, cap, hv, (hlt g (by rw [hv]; rfl)).2, fun j hj => ?_⟩
    have := hcs g (by rw [hv]; rfl) j (.string l[j]) (by rw [List.getElem?_map, List.getElem?_eq_getElem hj]; rfl)
    have e : (⟨g, 0, none⟩ : Addr).add j = ⟨g, 0 + j, none⟩ := by unfold Addr.add; split <;> simp_all
    rw [← e]; exact this
theorem RdS.below {w w' : World} {v : Value} {l : List ByteArray} (h : RdS w v l) (x : Below w.heap.size w w') : RdS w' v l := by
  rcases h with h | ⟨b, off, c, hv, hb, hc⟩
  · exact .inl h
  · exact .inr ⟨b, off, c, hv, by have := x.size; omega, fun j hj => (x.cell (p := ⟨b, off + j, none⟩) hb).trans (hc j hj)⟩
/-- 'append(xs, s)': one string behind the call's own row. -/
theorem wpList_append_str {ops : Array Oper} {rest : List Oper} {o : Oper} {a : Act} {Q : Exit → Act → World → Prop} {w : World} (hgd : o.guard = none) (s x : Operand)
    (ho : o.op = .call { callee := .builtin .append, args := #[s, x], argTypes := #[76, 76] })
    (B : Nat) (v : Value) (l : List ByteArray) (hs : a.eval s = v) (hown : OwnS w B v l) (g : Nat) (hx : a.eval x = .slice (some ⟨g, 0, none⟩) 1 1) (c : ByteArray) (hc : w.cell? ⟨g, 0, none⟩ = some (.string c))
    (hl : l.length + 1 ≤ 8796093022208) (hB : B ≤ w.heap.size)
    (h : ∀ v' w', OwnS w' B v' (l ++ [c]) → Below B w w' → wpList Tryz.prog ops Q rest (a.put o.dst v') w') : wpList Tryz.prog ops Q (o :: rest) a w := by
  obtain ⟨i0, hi, hz0, hz1, hz2⟩ := info_parts Tryz.info_str
  refine wpList_append_own _ hgd s x 76 ho B 9 i0 (.string ⟨#[]⟩) 1 16 under_strings hi hz0 hz1 hz2 rfl (by decide) v l.length (l.map Value.string) hs hown ⟨g, 0, none⟩ 1 1 [.string c] hx rfl ?_ ?_ ?_ ?_ hB ?_
  · intro j u hj
    match j, hj with
    | 0, hj => simp at hj; subst hj; simpa [Addr.add] using hc
    | (n + 1), hj => simp at hj
  · intro u hu; simp at hu; subst hu; rfl
  · unfold maxLen; omega
  · omega
  · intro v' w' h1 h2 _
    refine h v' w' ?_ (hown.below h2 hB)
    unfold OwnS
    rw [List.length_append, List.map_append]
    exact h1
end Go.Proofs.YtcijhhnbhnaiaaaGreatDoor
