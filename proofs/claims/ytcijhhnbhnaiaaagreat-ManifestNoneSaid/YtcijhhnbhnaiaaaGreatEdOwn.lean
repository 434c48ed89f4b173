/- Tablets that a call owns: a block of their cells; rows of numbers of its own. A state's copy, walked. -/
import Derived.Test.YtcijhhnbhnaiaaaGreatEdOps
import Derived.Deep.RegionHeld3
import Derived.Deep.DrawnRows
import Derived.Laws.IdiomCopy
import Derived.OwnWalk
namespace Go.Proofs.YtcijhhnbhnaiaaaGreat
set_option linter.unusedSimpArgs false
set_option linter.unusedVariables false
set_option maxRecDepth 100000
open Go.RowKit

def cellsT (raw : List (ByteArray × Value)) : List Value := raw.flatMap fun x => [.string x.1, x.2]
theorem cellsT_cons (x : ByteArray × Value) (r : List (ByteArray × Value)) : cellsT (x :: r) = .string x.1 :: x.2 :: cellsT r := rfl
theorem cellsT_length : ∀ raw : List (ByteArray × Value), (cellsT raw).length = raw.length * 2
  | [] => rfl
  | x :: r => by rw [cellsT_cons, List.length_cons, List.length_cons, cellsT_length r, List.length_cons]; omega
theorem cellsT_append (a b : List (ByteArray × Value)) : cellsT (a ++ b) = cellsT a ++ cellsT b := List.flatMap_append
theorem cellsT_get0 : ∀ (raw : List (ByteArray × Value)) (j : Nat) (hj : j < raw.length), (cellsT raw)[j * 2]? = some (.string raw[j].1)
  | x :: r, 0, _ => rfl
  | x :: r, j + 1, hj => by
    rw [cellsT_cons, show (j + 1) * 2 = j * 2 + 1 + 1 by omega, List.getElem?_cons_succ, List.getElem?_cons_succ]
    exact cellsT_get0 r j (by simpa using hj)
theorem cellsT_get1 : ∀ (raw : List (ByteArray × Value)) (j : Nat) (hj : j < raw.length), (cellsT raw)[j * 2 + 1]? = some raw[j].2
  | x :: r, 0, _ => rfl
  | x :: r, j + 1, hj => by
    rw [cellsT_cons, show (j + 1) * 2 + 1 = j * 2 + 1 + 1 + 1 by omega, List.getElem?_cons_succ, List.getElem?_cons_succ]
    exact cellsT_get1 r j (by simpa using hj)
theorem cellsT_set1 : ∀ (raw : List (ByteArray × Value)) (j : Nat) (hj : j < raw.length) (v : Value), (cellsT raw).set (j * 2 + 1) v = cellsT (raw.set j (raw[j].1, v))
  | x :: r, 0, _, v => rfl
  | x :: r, j + 1, hj, v => by
    rw [cellsT_cons, show (j + 1) * 2 + 1 = j * 2 + 1 + 1 + 1 by omega, List.set_cons_succ, List.set_cons_succ, cellsT_set1 r j (by simpa using hj) v, List.set_cons_succ, cellsT_cons]
    rfl
theorem cellsT_take : ∀ (raw : List (ByteArray × Value)) (j : Nat), (cellsT raw).take (j * 2) = cellsT (raw.take j)
  | [], j => by simp [cellsT]
  | x :: r, 0 => rfl
  | x :: r, j + 1 => by
    rw [cellsT_cons, show (j + 1) * 2 = j * 2 + 1 + 1 by omega, List.take_succ_cons, List.take_succ_cons, cellsT_take r j]; rfl
theorem cellsT_drop : ∀ (raw : List (ByteArray × Value)) (j : Nat), (cellsT raw).drop (j * 2) = cellsT (raw.drop j)
  | [], j => by simp [cellsT]
  | x :: r, 0 => rfl
  | x :: r, j + 1 => by
    rw [cellsT_cons, show (j + 1) * 2 = j * 2 + 1 + 1 by omega, List.drop_succ_cons, List.drop_succ_cons, cellsT_drop r j]; rfl

/-- Block b begins with these cells; none of them is frozen. -/
structure RowAt (w : World) (b : Nat) (vs : List Value) : Prop where
  lt : b < w.heap.size
  cell : ∀ (j : Nat) (hj : j < vs.length), w.cell? ⟨b, j, none⟩ = some vs[j]
  free : ∀ (j : Nat), j < vs.length → w.frozen? ⟨b, j, none⟩ = false
theorem RowAt.below {w w' : World} {b : Nat} {vs : List Value} (h : RowAt w b vs) (x : Below w.heap.size w w') : RowAt w' b vs :=
  ⟨Nat.lt_of_lt_of_le h.lt x.size, fun j hj => (x.cell (p := ⟨b, j, none⟩) h.lt).trans (h.cell j hj), fun j hj => (x.frozen (p := ⟨b, j, none⟩) h.lt).trans (h.free j hj)⟩
theorem RowAt.chg {w w' : World} {b : Nat} {vs : List Value} {S : Nat → Prop} (h : RowAt w b vs) (x : Chg S w w') (hS : ¬ S b) : RowAt w' b vs := by
  have e := x.block b h.lt hS
  refine ⟨Nat.lt_of_lt_of_le h.lt x.size, fun j hj => ?_, fun j hj => ?_⟩
  · rw [← h.cell j hj]; exact World.cell?_of_block (w := w) e
  · rw [← h.free j hj]; simp only [World.frozen?, e]
theorem RowAt.drewN {w : World} {b : Nat} {vs : List Value} (h : RowAt w b vs) (n : Nat) : RowAt (w.drewN n) b vs := ⟨h.lt, h.cell, h.free⟩
theorem RowAt.drew {w : World} {b : Nat} {vs : List Value} (h : RowAt w b vs) : RowAt w.drew b vs := ⟨h.lt, h.cell, h.free⟩
theorem RowAt.alloc {w : World} {b : Nat} {vs : List Value} (h : RowAt w b vs) (o : Obj) : RowAt (w.alloc o) b vs := h.below ((Below.refl _ _).alloc (Nat.le_refl _) _)
theorem RowAt.set {w : World} {b : Nat} {vs : List Value} (h : RowAt w b vs) (i : Nat) (hi : i < vs.length) (u : Value) : RowAt (w.setCell ⟨b, i, none⟩ u) b (vs.set i u) := by
  refine ⟨by simp [World.setCell]; exact h.lt, fun j hj => ?_, fun j hj => ?_⟩
  · rw [List.length_set] at hj
    by_cases e : i = j
    · subst e
      rw [World.cell?_setCell_same _ _ _ (h.cell i hi)]; simp
    · rw [World.cell?_setCell_other _ _ _ _ (by intro k; injection k; contradiction), h.cell j hj, List.getElem_set_ne e]
  · rw [World.frozen?_setCell]; exact h.free j (by simpa using hj)
theorem RowAt.set_ne {w : World} {b : Nat} {vs : List Value} (h : RowAt w b vs) (p : Addr) (hp : p.block ≠ b) (u : Value) : RowAt (w.setCell p u) b vs := by
  refine ⟨by simp [World.setCell]; exact h.lt, fun j hj => ?_, fun j hj => ?_⟩
  · rw [World.cell?_setCell_other _ _ _ _ (by intro k; exact hp (by rw [k])), h.cell j hj]
  · rw [World.frozen?_setCell]; exact h.free j hj
theorem RowAt.of_blk {w : World} {b : Nat} {t : TypeId} {cs : Array Value} (h : Blk w b t cs) : RowAt w b cs.toList :=
  ⟨h.lt, fun j hj => by rw [h.cell j]; simp at hj; simp [hj], fun j _ => h.free j⟩
theorem RowAt.cells {w : World} {b : Nat} {vs : List Value} (h : RowAt w b vs) (us : List Value) (hl : us.length = vs.length) : RowAt (w.setCells b 0 us) b us := by
  refine ⟨?_, fun j hj => ?_, fun j hj => ?_⟩
  · have : ∀ (us : List Value) (o : Nat) (w : World), (w.setCells b o us).heap.size = w.heap.size := by
      intro us
      induction us with
      | nil => intro o w; rfl
      | cons u us ih => intro o w; rw [World.setCells, ih]; simp [World.setCell]
    rw [this]; exact h.lt
  · have := World.cell?_setCells_in b us 0 w (fun i hi => by rw [Nat.zero_add, h.cell i (by omega)]; rfl) j hj
    rw [Nat.zero_add] at this; exact this
  · rw [World.frozen?_setCells]; exact h.free j (by omega)
theorem below_setCells {B : Nat} {w0 : World} {b : Nat} (hb : B ≤ b) : ∀ (us : List Value) (o : Nat) (w : World), Below B w0 w → Below B w0 (w.setCells b o us)
  | [], _, _, h => h
  | u :: us, o, w, h => by rw [World.setCells]; exact below_setCells hb us (o + 1) _ (h.setCell hb u)
/-- 'copy(d, s)' of rows of elements of two cells. -/
theorem run_copy_two {P : Program} (w : World) (dT sT ty elem : TypeId) (b o dLen dCap : Nat) (a : Addr) (sLen sCap : Nat) (cs : List Value)
    (hu : P.underlying dT = some (.slice elem)) (hs : (P.info? elem).map (·.size) = some 2) (hn : cs.length = Nat.min sLen dLen * 2)
    (hsrc : ∀ j v, cs[j]? = some v → w.cell? (a.add j) = some v) (hc : ∀ j, j < cs.length → (w.cell? ⟨b, o + j, none⟩).isSome = true) (hf : ∀ j, j < cs.length → w.frozen? ⟨b, o + j, none⟩ = false) (h1 : ∀ v ∈ cs, v.oneCell' = true) :
    (Builtin.copy_ #[dT, sT] ty #[.slice (some ⟨b, o, none⟩) dLen dCap, .slice (some a) sLen sCap]).run P w = .ok (goInt (Nat.min sLen dLen)) (w.setCells b o cs) := by
  have hl := run_loadCells_list (P := P) w a cs hsrc
  have hst := run_storeCells_cells (P := P) b o cs 0 w (by simpa using hc) (by simpa using hf) h1
  cases hq : P.info? elem with
  | none => simp [hq] at hs
  | some i =>
    have hi : i.size = 2 := by simpa [hq] using hs
    simp [Builtin.copy_, run_underlying hu, Builtin.lenOf, Builtin.firstCells, sizeOf, typeInfo, hq, hi, ← hn, hl, hst]
theorem wpList_copy_two (w : World) {P : Program} {ops : Array Oper} {rest : List Oper} {o : Oper} {a : Act} {Q : Exit → Act → World → Prop} (hgd : o.guard = none) (d s : Operand) (t t' : TypeId)
    (ho : o.op = .call { callee := .builtin .copy, args := #[d, s], argTypes := #[t, t'] }) (v u : Value) (hd : a.eval d = v) (hs : a.eval s = u) {v' : Value} {w' : World}
    (hr : (Builtin.copy_ #[t, t'] o.type #[v, u]).run P w = .ok v' w') (h : wpList P ops Q rest (a.put o.dst v') w') : wpList P ops Q (o :: rest) a w :=
  wpList_runs hgd (v := v') (w' := w') (by
    unfold execOp
    simp only [ho, resolve, invoke, builtin, Sem.run_bind, Sem.run_pure, Result.andThen_ok, List.map_toArray, List.map_cons, List.map_nil, hd, hs, hr]) h

theorem Tryz.info_tablet : (Tryz.prog.info? 65).map (fun i => (i.zero, i.size, i.bytes)) = some (some (.agg #[.string ⟨#[]⟩, .slice none 0 0]), 2, 40) := by kernel_rfl
theorem under_tablets : Tryz.prog.underlying 26 = some (.slice 65) := by kernel_rfl
theorem RdI.one {w : World} {v : Value} {l : List Int} (h : RdI w v l) : v.oneCell' = true := by obtain ⟨x, c, rfl, _⟩ := h.form; rfl
/-- The tablets that the call owns. -/
structure OwnT (w : World) (B tb : Nat) (raw : List (ByteArray × Value)) (l : List Ed.Tab) : Prop where
  base : B ≤ tb
  row : RowAt w tb (cellsT raw)
  len : raw.length = l.length
  each : ∀ (j : Nat) (hj : j < raw.length) (hj' : j < l.length), raw[j].1 = l[j].frm ∧ OwnI w B raw[j].2 l[j].tabs ∧ raw[j].2.ownBlock ≠ some tb
  apart : ∀ (i j : Nat) (hi : i < raw.length) (hj : j < raw.length) (g : Nat), i ≠ j → raw[i].2.ownBlock = some g → raw[j].2.ownBlock ≠ some g
theorem rdT_of_row {w : World} {tb c : Nat} {raw : List (ByteArray × Value)} {l : List Ed.Tab} (h : RowAt w tb (cellsT raw)) (hl : raw.length = l.length)
    (he : ∀ (j : Nat) (hj : j < raw.length) (hj' : j < l.length), raw[j].1 = l[j].frm ∧ RdI w raw[j].2 l[j].tabs) : RdT w (.slice (some ⟨tb, 0, none⟩) l.length c) l := by
  refine ⟨_, c, rfl, fun j hj => ?_⟩
  have hj' : j < raw.length := by omega
  have hlen := cellsT_length raw
  obtain ⟨h1, h2⟩ := he j hj' hj
  refine ⟨tb, 0, raw[j].2, rfl, h.lt, ?_, ?_, h2⟩
  · have := h.cell (j * 2) (by omega)
    have e := cellsT_get0 raw j hj'
    rw [List.getElem?_eq_getElem (by omega)] at e
    rw [Nat.zero_add, this, ← h1]
    exact congrArg some (Option.some.inj e)
  · have := h.cell (j * 2 + 1) (by omega)
    have e := cellsT_get1 raw j hj'
    rw [List.getElem?_eq_getElem (by omega)] at e
    rw [Nat.zero_add, this]
    exact congrArg some (Option.some.inj e)
theorem OwnT.rd {w : World} {B tb : Nat} {raw : List (ByteArray × Value)} {l : List Ed.Tab} (h : OwnT w B tb raw l) (c : Nat) : RdT w (.slice (some ⟨tb, 0, none⟩) l.length c) l :=
  rdT_of_row h.row h.len fun j hj hj' => ⟨(h.each j hj hj').1, (h.each j hj hj').2.1.rd⟩
/-- The cells behind a slice that reads as tablets. -/
theorem RdT.raw {w : World} {v : Value} {l : List Ed.Tab} (h : RdT w v l) (hne : 0 < l.length) :
    ∃ b off c raw, v = .slice (some ⟨b, off, none⟩) l.length c ∧ b < w.heap.size ∧ raw.length = l.length ∧ (∀ (j : Nat) (hj : j < raw.length) (hj' : j < l.length), raw[j].1 = l[j].frm ∧ RdI w raw[j].2 l[j].tabs) ∧
      ∀ j u, (cellsT raw)[j]? = some u → w.cell? ⟨b, off + j, none⟩ = some u := by
  obtain ⟨x, c, rfl, hel⟩ := h
  obtain ⟨b, off, _, rfl, hb, _⟩ := hel 0 hne
  have hex : ∀ i : Fin l.length, ∃ tv, w.cell? ⟨b, off + i * 2, none⟩ = some (.string l[i].frm) ∧ w.cell? ⟨b, off + i * 2 + 1, none⟩ = some tv ∧ RdI w tv l[i].tabs := fun i => by
    obtain ⟨b', off', tv, e, _, h1, h2, h3⟩ := hel i i.2
    cases e
    exact ⟨tv, h1, h2, h3⟩
  obtain ⟨f, hf⟩ := Classical.axiomOfChoice hex
  refine ⟨b, off, c, List.ofFn fun i => (l[i].frm, f i), rfl, hb, by simp, fun j hj hj' => ?_, fun j u hu => ?_⟩
  · simp only [List.getElem_ofFn]
    exact ⟨rfl, (hf ⟨j, hj'⟩).2.2⟩
  · have hlen := cellsT_length (List.ofFn fun i : Fin l.length => (l[i].frm, f i))
    have hjl := (List.getElem?_eq_some_iff.1 hu).1
    rw [hlen, List.length_ofFn] at hjl
    rcases Nat.mod_two_eq_zero_or_one j with hm | hm
    · obtain ⟨k, rfl⟩ : ∃ k, j = k * 2 := ⟨j / 2, by omega⟩
      rw [cellsT_get0 _ k (by simp; omega)] at hu
      injection hu with hu
      subst hu
      simp only [List.getElem_ofFn]
      exact (hf ⟨k, by omega⟩).1
    · obtain ⟨k, rfl⟩ : ∃ k, j = k * 2 + 1 := ⟨j / 2, by omega⟩
      rw [cellsT_get1 _ k (by simp; omega)] at hu
      injection hu with hu
      subst hu
      simp only [List.getElem_ofFn]
      exact (hf ⟨k, by omega⟩).2.1
end Go.Proofs.YtcijhhnbhnaiaaaGreat
