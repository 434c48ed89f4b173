/- 'make' and 'append' of numbers at a step of a region that draws its order. -/
import Derived.Test.YtnngdflamkdgaaaRefSaid
import Derived.Test.YtnngdflamkdgaaaRefSame
import Derived.Test.YtnngdflamkdgaaaGreat
import Derived.OwnWalk
import Derived.Great.BuildSlice
namespace Go.Proofs.Ytnngdflamkdgaaa
set_option maxRecDepth 100000
open Go.RowKit Go.Maps
open Dsk

/-- 'make([]int, 0, n)'. -/
theorem step_make_ints {ops : Array Oper} {o : Oper} {a : Act} {K : Act → World → Prop} {Q : Exit → Act → World → Prop} {E : Prop} {w : World} (hgd : o.guard = none) (l c : Operand) (hop : o.op = Op.makeSlice 23 l c)
    (kl kc : IntKind) (C : Int) (n : Nat) (hl : a.eval l = .int kl 0) (hc : a.eval c = .int kc C) (hC : C = (n : Int)) (hn : n ≤ 1099511627776)
    (h : ∀ w', OwnI w' w.heap.size (.slice (some ⟨w.heap.size, 0, none⟩) 0 n) [] → Below w.heap.size w w' → K (a.put o.dst (.slice (some ⟨w.heap.size, 0, none⟩) 0 n)) w') : if Region.wanted o (yielded ops a.tmps) = true then Oper.wp Try.prog o a w K Q else E := by
  obtain ⟨i0, hi, hz0, hz1, hz2⟩ := info_parts Try.info_int
  have hw : Region.wanted o (yielded ops a.tmps) = true := by simp [Region.wanted, hgd]
  rw [if_pos hw]
  obtain ⟨w', hrun, r1, r2⟩ := run_make_own (P := Try.prog) w w.heap.size 23 3 i0 (.int .i64 0) 1 under_ints hi hz0 hz1 kl kc n (by rw [hz2]; omega) (by unfold maxLen; omega) (Nat.le_refl _)
  subst hC
  unfold Oper.wp
  simp [execOp, hop, hl, hc, hrun, Result.andThen]
  exact h w' r1 ((Below.refl _ _).grown r2 (Nat.le_refl _) fun k hk => by cases hk)
/-- 'append(s, l...)', numbers; what else lies there stays. -/
theorem step_app_ints {ops : Array Oper} {o : Oper} {a : Act} {K : Act → World → Prop} {Q : Exit → Act → World → Prop} {E : Prop} {w : World} (hgd : o.guard = none) (s x : Operand)
    (ho : o.op = .call { callee := .builtin .append, args := #[s, x], argTypes := #[23, 23] })
    (B : Nat) (v0 : Value) (l0 : List Int) (hs : a.eval s = v0) (hown : OwnI w B v0 l0) (v : Value) (hx : a.eval x = v) {S : Nat → Prop} (l : List Int) (hk : KeepR w S v l) (hl : l0.length + l.length ≤ 8796093022208) (hB : B ≤ w.heap.size)
    (h : ∀ v' w', OwnI w' B v' (l0 ++ l) → Chg (fun k => v0.ownBlock = some k) w w' → K (a.put o.dst v') w') : if Region.wanted o (yielded ops a.tmps) = true then Oper.wp Try.prog o a w K Q else E := by
  obtain ⟨i0, hi, hz0, hz1, hz2⟩ := info_parts Try.info_int
  have hw : Region.wanted o (yielded ops a.tmps) = true := by simp [Region.wanted, hgd]
  rw [if_pos hw]
  obtain ⟨y, c, rfl, hy, hc⟩ := hk
  cases y with
  | none =>
    obtain rfl := hy rfl
    have hl0 : l = [] := by
      cases l with
      | nil => rfl
      | cons z l => obtain ⟨b, off, e, _⟩ := hc 0 (by simp); cases e
    subst hl0
    have hrun := run_append_owned_none (P := Try.prog) (w := w) B 23 o.type 3 i0 1 under_ints hi v0 l0.length (l0.map (Value.int .i64)) hown
    unfold Oper.wp
    simp [execOp, ho, resolve, invoke, builtin, hs, hx, hrun, Result.andThen]
    simp only [Oper.upon]
    exact h v0 w (by rw [List.append_nil]; exact hown) (Chg.refl _ _)
  | some ad =>
    refine wp_append_own _ s x 23 ho B 3 i0 (.int .i64 0) 1 8 under_ints hi hz0 hz1 hz2 rfl (by decide) v0 l0.length (l0.map (Value.int .i64)) hs hown ad l.length c (l.map (Value.int .i64)) hx (by simp) ?_ ?_ ?_ ?_ hB ?_
    · intro j u hj
      have hj' : j < l.length := by
        have := (List.getElem?_eq_some_iff.1 hj).1
        simpa using this
      obtain ⟨b, off, e, _, _, hcell⟩ := hc j hj'
      obtain rfl := Option.some.inj e
      have e2 : (⟨b, off, none⟩ : Addr).add j = ⟨b, off + j, none⟩ := by unfold Addr.add; split <;> simp_all
      rw [e2, hcell]
      simp [hj'] at hj
      rw [← hj]
    · intro u hu
      obtain ⟨x, _, rfl⟩ := List.mem_map.1 hu
      rfl
    · unfold maxLen; omega
    · omega
    · intro v' w' h1 h2 _
      refine h v' w' ?_ ⟨h2.os, h2.tape, h2.output, h2.size, fun i hi hs => h2.block i hi (fun e => hs e.symm)⟩
      unfold OwnI
      rw [List.length_append, List.map_append]
      exact h1
/-- 'make([]int, 0, n + 1)', where the walk has laid the operation open. -/
theorem upon_make {o : Oper} {a : Act} {K : Act → World → Prop} {Q : Exit → Act → World → Prop} {w : World} {n : Nat} {f : Value → World → Result Next} (hn : n ≤ 1099511627776)
    (h : ∀ w', OwnI w' w.heap.size (.slice (some ⟨w.heap.size, 0, none⟩) 0 (n + 1)) [] → Below w.heap.size w w' → Oper.upon Try.prog o a K Q (f (.slice (some ⟨w.heap.size, 0, none⟩) 0 (n + 1)) w')) :
    Oper.upon Try.prog o a K Q ((Sem.run Try.prog (Instr.makeSlice 23 (.int .i64 0) (.int .i64 ((n : Int) + 1))) w).andThen f) := by
  obtain ⟨i0, hi, hz0, hz1, hz2⟩ := info_parts Try.info_int
  obtain ⟨w', hrun, r1, r2⟩ := run_make_own (P := Try.prog) w w.heap.size 23 3 i0 (.int .i64 0) 1 under_ints hi hz0 hz1 .i64 .i64 (n + 1) (by rw [hz2]; omega) (by unfold maxLen; omega) (Nat.le_refl _)
  have e : ((n + 1 : Nat) : Int) = (n : Int) + 1 := by push_cast; rfl
  rw [e] at hrun
  rw [hrun]
  exact h w' r1 ((Below.refl _ _).grown r2 (Nat.le_refl _) fun k hk => by cases hk)
/-- '[]int{c}'. -/
theorem step_build_int {ops : Array Oper} {o : Oper} {a : Act} {K : Act → World → Prop} {Q : Exit → Act → World → Prop} {E : Prop} {w : World} (hgd : o.guard = none) (c : Int)
    (ho : o.op = .buildSlice 23 1 #[(0, .const (.int .i64 c))])
    (h : ∀ w', w'.cell? ⟨w.heap.size, 0, none⟩ = some (.int .i64 c) → Below w.heap.size w w' → K (a.put o.dst (.slice (some ⟨w.heap.size, 0, none⟩) 1 1)) w') : if Region.wanted o (yielded ops a.tmps) = true then Oper.wp Try.prog o a w K Q else E := by
  obtain ⟨i0, hi, hz0, hz1, hz2⟩ := info_parts Try.info_int
  have hw : Region.wanted o (yielded ops a.tmps) = true := by simp [Region.wanted, hgd]
  rw [if_pos hw]
  refine wp_buildSlice 23 3 1 _ ho #[.int .i64 c] i0 (.int .i64 0) under_ints hi hz0 (by rw [hz1]; decide) (by rw [hz1]; decide) (by rw [parts_eval a #[(0, .const (.int .i64 c))] .i64 [c] rfl, hz1]; exact Great.fill_flat _ _ (fun v hv => by obtain ⟨n, _, rfl⟩ := List.mem_map.1 hv; rfl) (by simp)) ?_
  exact h _ ((Blk.alloc_new w 3 #[.int .i64 c]).cell 0) ((Below.refl _ _).alloc (Nat.le_refl _) _)
theorem app_cur {wA W wP : World} {v0 : Value} {l0 : List Int} (cur : Below wA.heap.size wA W) (ho : OwnI W wA.heap.size v0 l0) (hc : Chg (fun k => v0.ownBlock = some k) W wP) : Below wA.heap.size wA wP :=
  cur.trans (hc.below cur.size fun k hk e => by have := (World.ownsRow.lt ho k e).1; omega)
/-- A number's cell that lies in another block. -/
theorem app_cell {W wP : World} {v0 : Value} {b g : Nat} {c : Int} (hv : v0.ownBlock = some b) (hne : g ≠ b) (hc : Chg (fun k => v0.ownBlock = some k) W wP) (hG : W.cell? ⟨g, 0, none⟩ = some (.int .i64 c)) : wP.cell? ⟨g, 0, none⟩ = some (.int .i64 c) :=
  (hc.cell (p := ⟨g, 0, none⟩) (World.block_lt_of_cell? W _ hG) (fun e => hne (by rw [hv] at e; injection e with e; exact e.symm))).trans hG
theorem new_cell (w : World) (c : Int) : (w.alloc (.cells #[.int .i64 c] 3 (0, 0))).cell? ⟨w.heap.size, 0, none⟩ = some (.int .i64 c) := (Blk.alloc_new w 3 #[.int .i64 c]).cell 0
theorem OwnI.some_ {w : World} {B : Nat} {v : Value} {l : List Int} (h : OwnI w B v l) {n : Nat} (hn : l.length = n) (h0 : 0 < n) : ∃ g cap, v = .slice (some ⟨g, 0, none⟩) n cap ∧ n ≤ cap ∧ B ≤ g ∧ g < w.heap.size := by
  subst hn
  have hlt := World.ownsRow.lt h
  obtain ⟨h1, h2⟩ := h
  rcases h2 with ⟨_, h2⟩ | ⟨g, cap, cur, hv, hg, hh, hc, _⟩
  · omega
  · exact ⟨g, cap, hv, hc, hg, (hlt g (by rw [hv]; rfl)).2⟩
theorem OwnI.free {w : World} {B g n cap : Nat} {l : List Int} (h : OwnI w B (.slice (some ⟨g, 0, none⟩) n cap) l) (j : Nat) : w.frozen? ⟨g, j, none⟩ = false := by
  obtain ⟨h1, h2⟩ := h
  rcases h2 with ⟨e, _⟩ | ⟨g', cap', cur, hv, hg, hh, _⟩
  · cases e
  · injection hv with e1 _ _
    injection e1 with e1
    injection e1 with e1
    subst e1
    simp [World.frozen?, hh]
theorem OwnI.at_ {w : World} {B g n cap : Nat} {l : List Int} (h : OwnI w B (.slice (some ⟨g, 0, none⟩) n cap) l) (j : Nat) (hj : j < l.length) : w.cell? ⟨g, j, none⟩ = some (.int .i64 l[j]) := by
  obtain ⟨x, c, e, hc⟩ := h.each
  obtain ⟨b, e2, _, _, h4⟩ := hc j hj
  injection e with e1 _ _
  rw [← e1] at e2
  injection e2 with e2
  injection e2 with e2
  subst e2
  exact h4
/-- The row's front, as numbers that are kept. -/
theorem keepR_front {w : World} {B g n cap : Nat} {l : List Int} {z : Int} {S : Nat → Prop} (h : OwnI w B (.slice (some ⟨g, 0, none⟩) (n + 1) cap) (l ++ [z])) (hn : l.length = n) (hg : g < w.heap.size) (hS : ¬ S g) : KeepR w S (.slice (some ⟨g, 0, none⟩) n cap) l := by
  refine ⟨some ⟨g, 0, none⟩, cap, by rw [hn], fun e => (by cases e), fun j hj => ⟨g, 0, rfl, hg, hS, ?_⟩⟩
  have := h.at_ j (by simp; omega)
  rw [Nat.zero_add, this]
  simp [hj]
theorem OwnI.poke {w : World} {B g n cap : Nat} {l : List Int} (h : OwnI w B (.slice (some ⟨g, 0, none⟩) n cap) l) (j : Nat) (z : Int) : OwnI (w.setCell ⟨g, j, none⟩ (.int .i64 z)) B (.slice (some ⟨g, 0, none⟩) n cap) (l.set j z) := by
  obtain ⟨_, _, e, _⟩ := h.each
  injection e with _ e2 _
  subst e2
  have h3 := World.ownsRow.stored h j (.int .i64 z)
  unfold OwnI
  rw [List.length_set, List.map_set]
  exact h3.1
/-- Two lists of no number. -/
theorem sameInts_nil (xa xb : Option Addr) (ca cb : Nat) (w : World) : Calls Try.prog 26 #[.slice xa 0 ca, .slice xb 0 cb] w fun e w' => e = .returned (.bool true) ∧ Below w.heap.size w w' := by
  go_enter Try.func26, Try.ntmps26
  go_wp2_with fail
  go_loop [5] (fun i => i = .int .i64 0) (fun _ => 0)
  case atStart => rfl
  case round =>
    subst hrel
    go_wp2_with fail
    go_ret
    exact ⟨rfl, Below.refl _ _⟩
theorem KeepR.rd {w : World} {S : Nat → Prop} {x : Option Addr} {n c : Nat} {l : List Int} (h : KeepR w S (.slice x n c) l) (h0 : 0 < l.length) : RdI w (.slice x n c) l := by
  obtain ⟨y, c', e, _, hc⟩ := h
  injection e with e1 e2 e3
  subst e1 e2 e3
  obtain ⟨b, off, e, hb, _, _⟩ := hc 0 h0
  refine .inr ⟨b, off, c, by rw [e], hb, fun j hj => ?_⟩
  obtain ⟨b', off', e', _, _, h3⟩ := hc j hj
  rw [e] at e'
  injection e' with e'
  injection e' with e1 e2
  subst e1 e2
  exact h3
theorem sameInts_kept {w : World} {S T : Nat → Prop} {x y : Option Addr} {n c c' : Nat} {l : List Int} (h : KeepR w S (.slice x n c) l) (k : KeepR w T (.slice y n c') l) (hl : l.length ≤ 9223372036854775807) :
    Calls Try.prog 26 #[.slice x n c, .slice y n c'] w fun e w' => e = .returned (.bool true) ∧ Below w.heap.size w w' := by
  by_cases h0 : l.length = 0
  · obtain ⟨_, _, e, _⟩ := id h
    injection e with _ e2 _
    rw [e2, h0]
    exact sameInts_nil _ _ _ _ _
  · refine (sameInts_any _ _ l l w (h.rd (by omega)) (k.rd (by omega)) hl hl).mono ?_
    rintro e w' ⟨rfl, hb⟩
    exact ⟨by simp, hb⟩
/-- One number more. -/
theorem keepR_one {w : World} {g : Nat} {c : Int} (h : w.cell? ⟨g, 0, none⟩ = some (.int .i64 c)) : KeepR w (fun _ => False) (.slice (some ⟨g, 0, none⟩) 1 1) [c] :=
  ⟨some ⟨g, 0, none⟩, 1, rfl, fun e => (by cases e), fun j hj => by
    have : j = 0 := by simp at hj; omega
    subst this
    exact ⟨g, 0, rfl, World.block_lt_of_cell? w _ h, id, h⟩⟩
end Go.Proofs.Ytnngdflamkdgaaa
