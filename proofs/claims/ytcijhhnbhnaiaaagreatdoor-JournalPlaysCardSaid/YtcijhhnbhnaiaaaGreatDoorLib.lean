/- Small words for what a call leaves as it was: 'Chg S w w'': only blocks of S, and new ones, may have turned. -/
import Derived.Test.YtcijhhnbhnaiaaaGreatDoorRows
import Derived.Test.YtcijhhnbhnaiaaaGreatDoorRegion
import Derived.WalkKit
import Derived.WalkSpells
import Derived.WalkLawsBesides
import Derived.Lib.Hide
import Derived.Lib.BufferRead
import Derived.Lib.AppendStr
import Derived.Laws.BitsAllLaws
namespace Go.Proofs.YtcijhhnbhnaiaaaGreatDoor
open Go.RowKit

/-- Of the blocks that w has, only those of S may have turned in w'; the streams are as they were. -/
structure Chg (S : Nat → Prop) (w w' : World) : Prop where
  os : w'.os = w.os
  tape : w'.tape = w.tape
  output : w'.output = w.output
  size : w.heap.size ≤ w'.heap.size
  block : ∀ k, k < w.heap.size → ¬ S k → w'.heap[k]? = w.heap[k]?

theorem Chg.refl (S : Nat → Prop) (w : World) : Chg S w w := ⟨rfl, rfl, rfl, Nat.le_refl _, fun _ _ _ => rfl⟩
theorem Chg.trans {S : Nat → Prop} {a b c : World} (h : Chg S a b) (k : Chg S b c) : Chg S a c :=
  ⟨k.os.trans h.os, k.tape.trans h.tape, k.output.trans h.output, Nat.le_trans h.size k.size, fun i hi hs => (k.block i (Nat.lt_of_lt_of_le hi h.size) hs).trans (h.block i hi hs)⟩
theorem Chg.mono {S T : Nat → Prop} {w w' : World} (h : Chg S w w') (hST : ∀ k, k < w.heap.size → S k → T k) : Chg T w w' :=
  ⟨h.os, h.tape, h.output, h.size, fun i hi hs => h.block i hi fun hk => hs (hST i hi hk)⟩
theorem Chg.drew {S : Nat → Prop} {a w : World} (h : Chg S a w) : Chg S a w.drew := ⟨h.os, h.tape, h.output, h.size, h.block⟩
theorem Chg.drewN {S : Nat → Prop} {a w : World} (h : Chg S a w) (n : Nat) : Chg S a (w.drewN n) := ⟨h.os, h.tape, h.output, h.size, h.block⟩
theorem Chg.alloc {S : Nat → Prop} {a w : World} (h : Chg S a w) (o : Obj) : Chg S a (w.alloc o) :=
  ⟨h.os, h.tape, h.output, by have := h.size; simp; omega, fun i hi hs => (Below.heap_alloc _ _ _ (by have := h.size; omega)).trans (h.block i hi hs)⟩
theorem Chg.setCell {S : Nat → Prop} {a w : World} (h : Chg S a w) {p : Addr} (hp : p.block < a.heap.size → S p.block) (u : Value) : Chg S a (w.setCell p u) :=
  ⟨h.os, h.tape, h.output, by have := h.size; simp [World.setCell]; omega, fun i hi hs => (Below.heap_setCell _ _ _ _ (fun e => hs (by rw [e]; exact hp (by omega)))).trans (h.block i hi hs)⟩
theorem Chg.of_below {S : Nat → Prop} {w w' : World} (h : Below w.heap.size w w') : Chg S w w' := ⟨h.os, h.tape, h.output, h.size, fun k hk _ => h.block k hk⟩
theorem Chg.below {S : Nat → Prop} {w w' : World} (h : Chg S w w') {B : Nat} (hB : B ≤ w.heap.size) (hS : ∀ k, k < B → ¬ S k) : Below B w w' :=
  ⟨h.os, h.tape, h.output, h.size, fun k hk => h.block k (by omega) (hS k hk)⟩
theorem below_chg {B : Nat} {a b c : World} {S : Nat → Prop} (h : Below B a b) (hB : B ≤ b.heap.size) (k : Chg S b c) (hS : ∀ i, i < B → ¬ S i) : Below B a c := h.trans (k.below hB hS)
theorem Chg.cell {S : Nat → Prop} {w w' : World} (h : Chg S w w') {p : Addr} (hp : p.block < w.heap.size) (hs : ¬ S p.block) : w'.cell? p = w.cell? p := World.cell?_of_block (w := w) (h.block p.block hp hs)

/-- Block b is just these cells, none of them frozen. -/
def Blk (w : World) (b : Nat) (t : TypeId) (cs : Array Value) : Prop := w.heap[b]? = some (.cells cs t (0, 0))
theorem Blk.lt {w : World} {b : Nat} {t : TypeId} {cs : Array Value} (h : Blk w b t cs) : b < w.heap.size := by
  rcases Nat.lt_or_ge b w.heap.size with hlt | hge
  · exact hlt
  · unfold Blk at h; rw [Array.getElem?_eq_none hge] at h; cases h
theorem Blk.cell {w : World} {b : Nat} {t : TypeId} {cs : Array Value} (h : Blk w b t cs) (i : Nat) : w.cell? ⟨b, i, none⟩ = cs[i]? := by
  unfold Blk at h; simp [World.cell?, h]
theorem Blk.free {w : World} {b : Nat} {t : TypeId} {cs : Array Value} (h : Blk w b t cs) (i : Nat) : w.frozen? ⟨b, i, none⟩ = false := by
  unfold Blk at h; simp [World.frozen?, h]
theorem Blk.alloc_new (w : World) (t : TypeId) (cs : Array Value) : Blk (w.alloc (.cells cs t (0, 0))) w.heap.size t cs := by
  unfold Blk; show (w.heap.push _)[w.heap.size]? = _; rw [Array.getElem?_push_size]
theorem Blk.drewN {w : World} {b : Nat} {t : TypeId} {cs : Array Value} (h : Blk w b t cs) (n : Nat) : Blk (w.drewN n) b t cs := h
theorem Blk.set {w : World} {b : Nat} {t : TypeId} {cs : Array Value} (h : Blk w b t cs) (i : Nat) (u : Value) : Blk (w.setCell ⟨b, i, none⟩ u) b t (cs.setIfInBounds i u) := by
  have hl := h.lt
  unfold Blk at *
  simp only [World.setCell, Array.getElem?_modify, if_true, h, Option.map_some]
  rfl

/-- A byte as a cell. -/
def byteV (c : UInt8) : Value := .int .u8 c.toNat
/-- The call's own row of bytes (or nil), from block B on. -/
def OwnB (w : World) (B : Nat) (v : Value) (l : List UInt8) : Prop := w.ownsRow B 5 1 v l.length (l.map byteV)
theorem OwnB.nil (w : World) (B : Nat) : OwnB w B (.slice none 0 0) [] := World.ownsRow_nil w B _ 1
theorem OwnB.form {w : World} {B : Nat} {v : Value} {l : List UInt8} (h : OwnB w B v l) :
    (v = .slice none 0 0 ∧ l = []) ∨ ∃ g cap, v = .slice (some ⟨g, 0, none⟩) l.length cap ∧ B ≤ g ∧ g < w.heap.size ∧ ∀ j (hj : j < l.length), w.cell? ((⟨g, 0, none⟩ : Addr).add j) = some (.int .u8 (l[j].toNat : Int)) := by
  obtain ⟨_, h | ⟨g, cap, cur, hv, hg, hh, hn, hm, hs, ht⟩⟩ := h
  · exact .inl ⟨h.1, List.length_eq_zero_iff.1 h.2⟩
  · refine .inr ⟨g, cap, hv, hg, ?_, ?_⟩
    · rcases Nat.lt_or_ge g w.heap.size with hlt | hge
      · exact hlt
      · rw [Array.getElem?_eq_none hge] at hh; cases hh
    · exact Lib.bytes_of_row hh (by rw [Nat.mul_one] at ht; exact ht)
theorem under_bytes : Tryz.prog.underlying 64 = some (.slice 5) := by kernel_rfl
theorem under_byte : Tryz.prog.underlying 5 = some (.int .u8) := by kernel_rfl
theorem under_string : Tryz.prog.underlying 9 = some .string := by kernel_rfl
/-- 'string(b)' of such a row. -/
theorem OwnB.text {w : World} {B : Nat} {v : Value} {l : List UInt8} (h : OwnB w B v l) : (convert 64 9 v).run Tryz.prog w = .ok (.string ⟨l.toArray⟩) w := by
  rcases h.form with ⟨rfl, rfl⟩ | ⟨g, cap, rfl, _, _, hc⟩
  · exact Lib.run_convert_nil_bytes w _ _ _ 0 under_bytes under_byte under_string
  · exact run_convert_bytes_back w _ _ _ _ _ _ under_bytes under_byte under_string hc
theorem Tryz.info_u8 : (Tryz.prog.info? 5).map (fun i => (i.zero, i.size, i.bytes)) = some (some (.int .u8 0), 1, 1) := by kernel_rfl

theorem OwnB.below {w : World} {B : Nat} {v : Value} {l : List UInt8} (h : OwnB w B v l) {w' : World} (hg : w.grownBy w' v.ownBlock) (hB : B ≤ w.heap.size) : Below B w w' :=
  (Below.refl _ _).grown hg hB fun k hk => ((World.ownsRow.lt h) k hk).1
/-- 'append(b, c)': one byte behind the call's own row. -/
theorem wpList_append_byte {ops : Array Oper} {rest : List Oper} {o : Oper} {a : Act} {Q : Exit → Act → World → Prop} {w : World} (hgd : o.guard = none) (s x : Operand)
    (ho : o.op = .call { callee := .builtin .append, args := #[s, x], argTypes := #[64, 64] })
    (B : Nat) (v : Value) (l : List UInt8) (hs : a.eval s = v) (hown : OwnB w B v l) (g : Nat) (hx : a.eval x = .slice (some ⟨g, 0, none⟩) 1 1) (c : Int) (hc : w.cell? ⟨g, 0, none⟩ = some (.int .u8 c)) (d : UInt8) (hd : (d.toNat : Int) = c)
    (hl : l.length + 1 ≤ 140737488355328) (hB : B ≤ w.heap.size)
    (h : ∀ v' w', OwnB w' B v' (l ++ [d]) → Below B w w' → wpList Tryz.prog ops Q rest (a.put o.dst v') w') : wpList Tryz.prog ops Q (o :: rest) a w := by
  obtain ⟨i0, hi, hz0, hz1, hz2⟩ := info_parts Tryz.info_u8
  refine wpList_append_own _ hgd s x 64 ho B 5 i0 (.int .u8 0) 1 1 under_bytes hi hz0 hz1 hz2 rfl (by decide) v l.length (l.map byteV) hs hown ⟨g, 0, none⟩ 1 1 [byteV d] hx rfl ?_ ?_ ?_ ?_ hB ?_
  · intro j u hj
    match j, hj with
    | 0, hj => simp at hj; subst hj; simpa [byteV, hd, Addr.add] using hc
    | (n + 1), hj => simp at hj
  · intro u hu; simp at hu; subst hu; rfl
  · unfold maxLen; omega
  · omega
  · intro v' w' h1 h2 _
    refine h v' w' ?_ (hown.below h2 hB)
    unfold OwnB
    rw [List.length_append, List.map_append]
    exact h1
theorem OwnB.alloc {w : World} {B : Nat} {v : Value} {l : List UInt8} (h : OwnB w B v l) (o : Obj) : OwnB (w.alloc o) B v l := World.ownsRow.alloc h o
theorem Blk.ext {w : World} {b : Nat} {t : TypeId} {cs : Array Value} (h : Blk w b t cs) (x : Ext w) : Blk x.wd b t cs := by
  have hl := h.lt
  unfold Blk at *; rw [x.le.block b hl, h]
theorem Blk.below {w w' : World} {b : Nat} {t : TypeId} {cs : Array Value} (h : Blk w b t cs) (x : Below w.heap.size w w') : Blk w' b t cs := h.ext ⟨w', x⟩
theorem Blk.chg {w w' : World} {b : Nat} {t : TypeId} {cs : Array Value} {S : Nat → Prop} (h : Blk w b t cs) (x : Chg S w w') (hS : ¬ S b) : Blk w' b t cs := by
  have hl := h.lt
  unfold Blk at *; rw [x.block b hl hS, h]

/-- 'append(b, c, d, ..)': some bytes behind the call's own row. -/
theorem wpList_append_bytes {ops : Array Oper} {rest : List Oper} {o : Oper} {a : Act} {Q : Exit → Act → World → Prop} {w : World} (hgd : o.guard = none) (s x : Operand)
    (ho : o.op = .call { callee := .builtin .append, args := #[s, x], argTypes := #[64, 64] })
    (B : Nat) (v : Value) (l : List UInt8) (hs : a.eval s = v) (hown : OwnB w B v l) (g m c : Nat) (hx : a.eval x = .slice (some ⟨g, 0, none⟩) m c) (news : List UInt8) (hm : news.length = m)
    (hc : ∀ j (hj : j < news.length), w.cell? ⟨g, j, none⟩ = some (.int .u8 (news[j].toNat : Int)))
    (hl : l.length + m ≤ 140737488355328) (hB : B ≤ w.heap.size)
    (h : ∀ v' w', OwnB w' B v' (l ++ news) → Below B w w' → wpList Tryz.prog ops Q rest (a.put o.dst v') w') : wpList Tryz.prog ops Q (o :: rest) a w := by
  obtain ⟨i0, hi, hz0, hz1, hz2⟩ := info_parts Tryz.info_u8
  subst hm
  refine wpList_append_own _ hgd s x 64 ho B 5 i0 (.int .u8 0) 1 1 under_bytes hi hz0 hz1 hz2 rfl (by decide) v l.length (l.map byteV) hs hown ⟨g, 0, none⟩ news.length c (news.map byteV) hx (by simp) ?_ ?_ ?_ ?_ hB ?_
  · intro j u hj
    have hj' : j < news.length := by
      have := (List.getElem?_eq_some_iff.1 hj).1
      simpa using this
    have e : (⟨g, 0, none⟩ : Addr).add j = ⟨g, j, none⟩ := by unfold Addr.add; split <;> simp_all
    rw [e, hc j hj']
    simp [hj'] at hj
    rw [← hj]; rfl
  · intro u hu
    obtain ⟨x, _, rfl⟩ := List.mem_map.1 hu
    rfl
  · unfold maxLen; omega
  · omega
  · intro v' w' h1 h2 _
    refine h v' w' ?_ (hown.below h2 hB)
    unfold OwnB
    rw [List.length_append, List.map_append]
    exact h1
/-- 'append(b, s...)': a string's bytes behind the call's own row. -/
theorem wpList_append_text {ops : Array Oper} {rest : List Oper} {o : Oper} {a : Act} {Q : Exit → Act → World → Prop} {w : World} (hgd : o.guard = none) (sl x : Operand)
    (ho : o.op = .call { callee := .builtin .append, args := #[sl, x], argTypes := #[64, 9] })
    (B : Nat) (v : Value) (l : List UInt8) (hs : a.eval sl = v) (hown : OwnB w B v l) (s : ByteArray) (hx : a.eval x = .string s)
    (hl : l.length + s.size ≤ 140737488355328) (hB : B ≤ w.heap.size)
    (h : ∀ v' w', OwnB w' B v' (l ++ s.data.toList) → Below B w w' → wpList Tryz.prog ops Q rest (a.put o.dst v') w') : wpList Tryz.prog ops Q (o :: rest) a w := by
  obtain ⟨i0, hi, hz0, hz1, hz2⟩ := info_parts Tryz.info_u8
  refine Lib.wpList_append_own_string w hgd sl x 64 9 ho B 5 i0 under_bytes under_string hi hz0 hz1 hz2 v l.length (l.map byteV) hs hown s hx (by unfold maxLen; omega) hl hB ?_
  intro v' w' h1 h2 _
  refine h v' w' ?_ (hown.below h2 hB)
  unfold OwnB
  rw [List.length_append, List.map_append, show s.data.toList.length = s.size by simp]
  exact h1
/-- 'make([]byte, 0, n)'. -/
theorem wpList_make_bytes {ops : Array Oper} {rest : List Oper} {o : Oper} {a : Act} {Q : Exit → Act → World → Prop} {w : World} (hg : o.guard = none) (l c : Operand) (hop : o.op = Op.makeSlice 64 l c)
    (B : Nat) (kl kc : IntKind) (C : Int) (n : Nat) (hl : a.eval l = .int kl 0) (hc : a.eval c = .int kc C) (hC : C = (n : Int)) (b2 : n ≤ 281474976710656) (b4 : B ≤ w.heap.size)
    (hK : ∀ v' w', OwnB w' B v' [] → Below B w w' → wpList Tryz.prog ops Q rest (a.put o.dst v') w') : wpList Tryz.prog ops Q (o :: rest) a w := by
  obtain ⟨i0, hi, hz0, hz1, hz2⟩ := info_parts Tryz.info_u8
  refine wpList_make_own w hg l c 64 hop B 5 i0 (.int .u8 0) 1 under_bytes hi hz0 hz1 kl kc C n hl hc hC (by rw [hz2]; omega) (by unfold maxLen; omega) b4 ?_
  intro w' h1 h2
  exact hK _ w' h1 ((Below.refl _ _).grown h2 b4 fun k hk => by cases hk)
theorem madeCells_one (n : Nat) : (madeCells (Value.int .u8 0).cells n).toList = List.replicate n (byteV 0) := by
  rw [List.eq_replicate_iff]
  refine ⟨by simp [madeCells], fun b hb => ?_⟩
  unfold madeCells at hb
  simp [Value.cells, Nat.mod_one] at hb
  obtain ⟨_, _, rfl⟩ := hb
  rfl
/-- 'make([]byte, n)'. -/
theorem wpList_make_full_bytes {ops : Array Oper} {rest : List Oper} {o : Oper} {a : Act} {Q : Exit → Act → World → Prop} {w : World} (hg : o.guard = none) (l c : Operand) (hop : o.op = Op.makeSlice 64 l c)
    (B : Nat) (kl kc : IntKind) (L C : Int) (n : Nat) (hl : a.eval l = .int kl L) (hc : a.eval c = .int kc C) (hL : L = (n : Int)) (hC : C = (n : Int)) (b2 : n ≤ 281474976710656) (b4 : B ≤ w.heap.size)
    (hK : ∀ v' w', OwnB w' B v' (List.replicate n 0) → Below w.heap.size w w' → wpList Tryz.prog ops Q rest (a.put o.dst v') w') : wpList Tryz.prog ops Q (o :: rest) a w := by
  obtain ⟨i0, hi, hz0, hz1, hz2⟩ := info_parts Tryz.info_u8
  refine wpList_make_full w hg l c 64 hop B 5 i0 (.int .u8 0) 1 under_bytes hi hz0 hz1 kl kc L C n hl hc hL hC (by rw [hz2]; omega) (by unfold maxLen; omega) b4 ?_
  intro w' h1 h2
  refine hK _ w' ?_ ((Below.refl _ _).grown h2 (Nat.le_refl _) fun k hk => by cases hk)
  unfold OwnB
  rw [List.length_replicate, List.map_replicate]
  have e : (madeCells (Value.int .u8 0).cells (n * 1)).toList = List.replicate n (byteV 0) := by
    rw [Nat.mul_one]
    exact madeCells_one n
  rw [← e]; exact h1
/-- 'string(b)', at the operation, of the call's own row. -/
theorem wpList_own_text {ops : Array Oper} {rest : List Oper} {o : Oper} {a : Act} {Q : Exit → Act → World → Prop} {w : World} (hgd : o.guard = none) (x : Operand)
    (ho : o.op = .convert 64 9 x) (B : Nat) (v : Value) (l : List UInt8) (hx : a.eval x = v) (hown : OwnB w B v l)
    (h : wpList Tryz.prog ops Q rest (a.put o.dst (.string ⟨l.toArray⟩)) w) : wpList Tryz.prog ops Q (o :: rest) a w :=
  wpList_plain hgd fun K hK => by
    unfold Oper.wp
    have e : (execOp a.eval o).run Tryz.prog w = .ok (.value (.string ⟨l.toArray⟩)) w := by
      have hr := hown.text
      simp only [execOp, ho, hx]
      rw [Sem.run_bind, hr]
      rfl
    rw [e]
    exact hK _ _ h
/-- Block b begins with these bytes, and none of them is frozen. -/
def BRow (w : World) (b : Nat) (l : List UInt8) : Prop := ∃ cs e lo hi, w.heap[b]? = some (.cells cs e (lo, hi)) ∧ (l.length ≤ lo ∨ hi = 0) ∧ ∀ j (hj : j < l.length), cs[j]? = some (.int .u8 (l[j].toNat : Int))
theorem BRow.lt {w : World} {b : Nat} {l : List UInt8} (h : BRow w b l) : b < w.heap.size := by
  obtain ⟨cs, e, lo, hi, h, _⟩ := h
  rcases Nat.lt_or_ge b w.heap.size with hlt | hge
  · exact hlt
  · rw [Array.getElem?_eq_none hge] at h; cases h
theorem BRow.cell {w : World} {b : Nat} {l : List UInt8} (h : BRow w b l) (j : Nat) (hj : j < l.length) : w.cell? ⟨b, j, none⟩ = some (.int .u8 (l[j].toNat : Int)) := by
  obtain ⟨cs, e, lo, hi, h, _, hc⟩ := h
  simp [World.cell?, h, hc j hj]
theorem BRow.free {w : World} {b : Nat} {l : List UInt8} (h : BRow w b l) (j : Nat) (hj : j < l.length) : w.frozen? ⟨b, j, none⟩ = false := by
  obtain ⟨cs, e, lo, hi, h, hf, hc⟩ := h
  simp only [World.frozen?, h]
  rcases hf with hf | rfl
  · simp; omega
  · simp
theorem BRow.set {w : World} {b : Nat} {l : List UInt8} (h : BRow w b l) (i : Nat) (c : UInt8) : BRow (w.setCell ⟨b, i, none⟩ (.int .u8 c.toNat)) b (l.set i c) := by
  obtain ⟨cs, e, lo, hi, h, hf, hc⟩ := h
  refine ⟨cs.setIfInBounds i (.int .u8 c.toNat), e, lo, hi, ?_, by simpa using hf, ?_⟩
  · simp only [World.setCell, Array.getElem?_modify, if_true, h, Option.map_some]
    rfl
  · intro j hj
    have hj' : j < l.length := by simpa using hj
    have := hc j hj'
    have hlt : j < cs.size := (Array.getElem?_eq_some_iff.1 this).1
    by_cases hij : i = j
    · subst hij
      simp [hlt]
    · rw [Array.getElem?_setIfInBounds_ne hij, this, List.getElem_set_ne hij]
theorem BRow.text {w : World} {b : Nat} {l : List UInt8} (h : BRow w b l) (cap : Nat) : (convert 64 9 (.slice (some ⟨b, 0, none⟩) l.length cap)).run Tryz.prog w = .ok (.string ⟨l.toArray⟩) w :=
  run_convert_bytes_back w _ _ _ _ _ _ under_bytes under_byte under_string fun j hj => by
    have e : (⟨b, 0, none⟩ : Addr).add j = ⟨b, j, none⟩ := by unfold Addr.add; split <;> simp_all
    rw [e]; exact h.cell j hj
theorem BRow.textn {w : World} {b : Nat} {l : List UInt8} (h : BRow w b l) (cap n : Nat) (hn : l.length = n) : (convert 64 9 (.slice (some ⟨b, 0, none⟩) n cap)).run Tryz.prog w = .ok (.string ⟨l.toArray⟩) w := by
  subst hn; exact h.text cap
theorem BRow.drewN {w : World} {b : Nat} {l : List UInt8} (h : BRow w b l) (n : Nat) : BRow (w.drewN n) b l := h
theorem BRow.of_string (w : World) (s : ByteArray) (cap m : Nat) (e : TypeId) (hm : s.size ≤ m) : BRow (w.alloc (.cells (bytesRow s cap) e (m, m + 1))) w.heap.size s.data.toList := by
  refine ⟨bytesRow s cap, e, m, m + 1, ?_, .inl (by simpa using hm), ?_⟩
  · show (w.heap.push _)[w.heap.size]? = _; rw [Array.getElem?_push_size]
  · intro j hj
    have hj' : j < s.data.size := by simpa using hj
    unfold bytesRow
    rw [Array.getElem?_append_left (by simpa using hj'), Array.getElem?_map, Array.getElem?_eq_getElem hj']
    simp
theorem BRow.below {w w' : World} {b : Nat} {l : List UInt8} (h : BRow w b l) (x : Below w.heap.size w w') : BRow w' b l := by
  have hl := h.lt
  obtain ⟨cs, e, lo, hi, h, r⟩ := h
  exact ⟨cs, e, lo, hi, by rw [x.block b hl, h], r⟩
theorem BRow.ext {w : World} {b : Nat} {l : List UInt8} (h : BRow w b l) (x : Ext w) : BRow x.wd b l := h.below x.le
theorem run_bytes_of (w : World) (s : ByteArray) : (convert 9 64 (.string s)).run Tryz.prog w = .ok (.slice (some ⟨w.heap.size, 0, none⟩) s.size (grownCap w s.size 0 5))
      (w.drew.alloc (.cells (bytesRow s (grownCap w s.size 0 5)) 5 ((bytesRow s (grownCap w s.size 0 5)).size, (bytesRow s (grownCap w s.size 0 5)).size + 1))) :=
  run_bytes_of_string w _ _ _ s under_string under_bytes under_byte
theorem bytesRow_size (s : ByteArray) (cap : Nat) : s.size ≤ (bytesRow s cap).size := by unfold bytesRow; rw [Array.size_append, Array.size_map]; exact Nat.le_add_right _ _
/-- An operation that comes to a value. -/
theorem wpList_runs {P : Program} {ops : Array Oper} {rest : List Oper} {o : Oper} {a : Act} {Q : Exit → Act → World → Prop} {w w' : World} {v : Value} (hgd : o.guard = none)
    (hr : (execOp a.eval o).run P w = .ok (.value v) w') (h : wpList P ops Q rest (a.put o.dst v) w') : wpList P ops Q (o :: rest) a w :=
  wpList_plain hgd fun K hK => by
    unfold Oper.wp
    rw [hr]
    exact hK _ _ h
/-- '[]byte(s)', at the operation: a block of its own that begins with the string's bytes. -/
theorem wpList_bytes_of {ops : Array Oper} {rest : List Oper} {o : Oper} {a : Act} {Q : Exit → Act → World → Prop} {w : World} (hgd : o.guard = none) (x : Operand)
    (ho : o.op = .convert 9 64 x) (s : ByteArray) (hx : a.eval x = .string s)
    (h : ∀ (b cap : Nat) w', w.heap.size ≤ b → BRow w' b s.data.toList → Below w.heap.size w w' → wpList Tryz.prog ops Q rest (a.put o.dst (.slice (some ⟨b, 0, none⟩) s.size cap)) w') : wpList Tryz.prog ops Q (o :: rest) a w :=
  wpList_runs hgd (v := .slice (some ⟨w.heap.size, 0, none⟩) s.size (grownCap w s.size 0 5)) (by
    have hr := run_bytes_of w s
    simp only [execOp, ho, hx]
    rw [Sem.run_bind, hr]
    rfl) (h w.heap.size (grownCap w s.size 0 5) _ (Nat.le_refl _) (BRow.drewN (BRow.of_string w s (grownCap w s.size 0 5) _ 5 (bytesRow_size s (grownCap w s.size 0 5))) 1) (((Below.refl w.heap.size w).alloc (Nat.le_refl _) _).drew))
/-- 'string(b)', at the operation, of a block that begins with these bytes. -/
theorem wpList_text_of {ops : Array Oper} {rest : List Oper} {o : Oper} {a : Act} {Q : Exit → Act → World → Prop} {w : World} (hgd : o.guard = none) (x : Operand)
    (ho : o.op = .convert 64 9 x) (b n cap : Nat) (hx : a.eval x = .slice (some ⟨b, 0, none⟩) n cap) (l : List UInt8) (hl : l.length = n) (hb : BRow w b l)
    (h : wpList Tryz.prog ops Q rest (a.put o.dst (.string ⟨l.toArray⟩)) w) : wpList Tryz.prog ops Q (o :: rest) a w :=
  wpList_runs hgd (v := .string ⟨l.toArray⟩) (by
    have hr := hb.textn cap n hl
    simp only [execOp, ho, hx]
    rw [Sem.run_bind, hr]
    rfl) h
theorem OwnB.kept {w w' : World} {B : Nat} {v : Value} {l : List UInt8} (h : OwnB w B v l) (x : Below w.heap.size w w') : OwnB w' B v l := by
  have hlt := World.ownsRow.lt h
  obtain ⟨h1, h2⟩ := h
  refine ⟨h1, ?_⟩
  rcases h2 with h2 | ⟨g, cap, cur, hv, hg, hh, r⟩
  · exact .inl h2
  · refine .inr ⟨g, cap, cur, hv, hg, ?_, r⟩
    rw [x.block g (hlt g (by rw [hv]; rfl)).2, hh]
theorem OwnB.drewN {w : World} {B : Nat} {v : Value} {l : List UInt8} (h : OwnB w B v l) (n : Nat) : OwnB (w.drewN n) B v l := h
theorem one_cell (w : World) (c : UInt8) (k : Int) (hk : (c.toNat : Int) = k) (j : Nat) (hj : j < [c].length) : (w.alloc (.cells #[.int .u8 k] 5)).cell? ⟨w.heap.size, j, none⟩ = some (.int .u8 ([c][j].toNat : Int)) := by
  rw [(Blk.alloc_new w _ _).cell j]
  obtain rfl : j = 0 := by simpa using hj
  simp [hk]
theorem i64_or_nat (a b : Nat) (ha : a < 2 ^ 62) (hb : b < 2 ^ 62) : bits .or .i64 (a : Int) (b : Int) = ((a ||| b : Nat) : Int) := by
  have hx : a ||| b < 2 ^ 62 := Nat.or_lt_two_pow ha hb
  show IntKind.i64.wrap ((BitVec.ofInt 64 (a : Int) ||| BitVec.ofInt 64 (b : Int)).toNat : Int) = _
  rw [BitVec.toNat_or, ofInt_u64 a (by omega), ofInt_u64 b (by omega)]
  exact IntWalk.i64_in _ ⟨by omega, by omega⟩
theorem i64_join (a b : Nat) (ha : a < 256) (hb : b < 256) : bits .or .i64 ((a : Int) * 256) (b : Int) = (a : Int) * 256 + b := by
  have e : (a : Int) * 256 = ((a * 256 : Nat) : Int) := by omega
  rw [e, i64_or_nat _ _ (by omega) (by omega), nat_join 8 _ _ (by omega) (by omega)]
  omega
theorem extract_list (s : ByteArray) (a b : Nat) : (s.extract a b).data.toList = (s.data.toList.drop a).take (b - a) := by
  rw [ByteArray.data_extract, Array.toList_extract, List.extract_eq_take_drop]
theorem data_append (a b : ByteArray) : (a ++ b).data.toList = a.data.toList ++ b.data.toList := by rw [ByteArray.data_append, Array.toList_append]
theorem bytes_ext {a b : ByteArray} (h : a.data.toList = b.data.toList) : a = b := by
  obtain ⟨⟨a⟩⟩ := a; obtain ⟨⟨b⟩⟩ := b; simp at h; rw [h]
end Go.Proofs.YtcijhhnbhnaiaaaGreatDoor
