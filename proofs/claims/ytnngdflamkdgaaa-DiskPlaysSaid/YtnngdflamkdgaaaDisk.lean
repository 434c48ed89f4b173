/- The disk in memory, and what each of its small functions computes. -/
import Derived.Test.YtnngdflamkdgaaaDiskPlain
import Derived.Test.YtnngdflamkdgaaaTexts
import Derived.Test.YtnngdflamkdgaaaInts
import Derived.Test.YtnngdflamkdgaaaIter
import Derived.Maps.OwnSet
import Derived.Maps.OwnOps
import Derived.StillTailTactics
import Derived.Deep.QuietTactic
namespace Go.Proofs.Ytnngdflamkdgaaa
set_option maxRecDepth 100000
open Go.RowKit Go.Maps
open Dsk

theorem under_files : Try.prog.underlying 57 = some (.map 9 72) := by kernel_rfl
theorem key_law : Keyed Try.prog 9 := string_keyed under_string
theorem zero_file (w : World) : (zeroValue 72).run Try.prog w = .ok (.agg #[.string ⟨#[]⟩, .int .i64 0]) w := by kernel_rfl

/-- How a file of the map reads. -/
def fileElem (v : Value) : Option (DataW Unit × List MemPlace) :=
  match v with
  | .agg a => match a.toList with
    | [.string s, .int .i64 n] => if 0 ≤ n then some (encF ⟨s.data.toList, n.toNat⟩, []) else none
    | _ => none
  | _ => none
theorem fileElem_mk (s : ByteArray) (n : Nat) : fileElem (.agg #[.string s, .int .i64 n]) = some (encF ⟨s.data.toList, n⟩, []) := by
  simp [fileElem]
theorem fileElem_inv {v : Value} {z : DataW Unit × List MemPlace} (h : fileElem v = some z) : ∃ (s : ByteArray) (n : Nat), v = .agg #[.string s, .int .i64 n] ∧ z = (encF ⟨s.data.toList, n⟩, []) := by
  unfold fileElem at h
  split at h
  · rename_i a
    split at h
    · rename_i s n ha
      split at h
      · rename_i hn
        refine ⟨s, n.toNat, ?_, (Option.some.inj h).symm⟩
        have e : a = #[.string s, .int .i64 n] := by
          apply Array.toList_inj.1; simpa using ha
        rw [e, Int.toNat_of_nonneg hn]
      · cases h
    · cases h
  · cases h
theorem fileElem_at {v : Value} {f : Fl} {ps : List MemPlace} (h : fileElem v = some (encF f, ps)) : v = .agg #[.string ⟨f.data.toArray⟩, .int .i64 f.safe] := by
  obtain ⟨s, n, rfl, e⟩ := fileElem_inv h
  obtain rfl := encF_inj (congrArg Prod.fst e)
  rfl

/-- The map of the files. -/
def OwnM (w : World) (b : Nat) (m : Files) : Prop := w.ownsMap Try.prog 9 fileElem b m.length (encD m)
theorem OwnM.lt {w : World} {b : Nat} {m : Files} (h : OwnM w b m) : b < w.heap.size := World.ownsMap.lt h
theorem OwnM.of {w : World} {b n : Nat} {m : Files} (h : w.ownsMap Try.prog 9 fileElem b n (encD m)) : OwnM w b m := by
  obtain ⟨es, clock, hb, F, hs, hD⟩ := h
  refine ⟨es, clock, hb, F, ?_, hD⟩
  have := congrArg Maps.size hD
  rw [encD_size] at this
  simp [Maps.size, length_sorted] at this
  omega
theorem OwnM.chg {S : Nat → Prop} {w w' : World} {b : Nat} {m : Files} (h : OwnM w b m) (x : Chg S w w') (hS : ¬ S b) : OwnM w' b m := by
  have hlt := h.lt
  obtain ⟨es, clock, hb, r⟩ := h
  exact ⟨es, clock, (x.block b hlt hS).trans hb, r⟩
theorem OwnM.below {w w' : World} {b : Nat} {m : Files} (h : OwnM w b m) (x : Below w.heap.size w w') : OwnM w' b m := h.chg (Chg.of_below x) (S := fun _ => False) (fun e => e)
theorem Chg.grown {w w' : World} {b : Nat} (h : w.grownBy w' (some b)) : Chg (· = b) w w' :=
  ⟨h.os, h.tape, h.output, h.size, fun i hi hs => h.block i hi (fun e => hs (Option.some.inj e))⟩

theorem OwnI.chg {S : Nat → Prop} {w w' : World} {B : Nat} {v : Value} {l : List Int} (h : OwnI w B v l) (x : Chg S w w') (hS : ∀ k, v.ownBlock = some k → ¬ S k) : OwnI w' B v l := by
  have hlt := World.ownsRow.lt h
  obtain ⟨h1, h2⟩ := h
  refine ⟨h1, ?_⟩
  rcases h2 with h2 | ⟨g, cap, cur, hv, hg, hh, r⟩
  · exact .inl h2
  · refine .inr ⟨g, cap, cur, hv, hg, ?_, r⟩
    have hb : v.ownBlock = some g := by rw [hv]; rfl
    rw [x.block g (hlt g hb).2 (hS g hb), hh]

/-- The scheduled crash: a closure over its counter. -/
def CrashFn (w : World) (F : Nat → Prop) (cv : Value) (fail : Option Int) : Prop :=
  match fail with
  | none => cv = .nilFunc
  | some n => ∃ bc, cv = .func (.func 44) #[] #[.pointer (some ⟨bc, 0, none⟩)] ∧ Blk w bc 3 #[.int .i64 n] ∧ F bc
/-- The parts of a disk in memory: the struct in block bd, the map in block bm, the closure cv, the row kv. -/
structure DiskIn (w : World) (F : Nat → Prop) (bd bm : Nat) (cv kv : Value) (d : Dk) : Prop where
  blk : Blk w bd 59 #[.int .i64 d.room, .int .i64 d.starts, .bool d.off, .map (some bm), cv, kv]
  map : OwnM w bm d.files
  fn : CrashFn w F cv d.fail
  row : OwnI w 0 kv d.keep
  fd : F bd
  fm : F bm
  fk : ∀ k, kv.ownBlock = some k → F k ∧ k ≠ bd ∧ cv ≠ .func (.func 44) #[] #[.pointer (some ⟨k, 0, none⟩)]
  ok : Ok d
  lt : ∀ k, F k → k < w.heap.size
/-- v is a disk, d, in the blocks of F. -/
def DiskAt (w : World) (F : Nat → Prop) (v : Value) (d : Dk) : Prop := ∃ bd bm cv kv, v = .pointer (some ⟨bd, 0, none⟩) ∧ DiskIn w F bd bm cv kv d ∧ FOk d

theorem map_ne_blk {w : World} {b : Nat} {m : Files} {bd : Nat} {t : TypeId} {cs : Array Value} (h : OwnM w b m) (k : Blk w bd t cs) : b ≠ bd := fun e => by
  subst e
  obtain ⟨es, clock, hb, _⟩ := h
  unfold Blk at k
  rw [hb] at k
  cases k
theorem map_ne_row {w : World} {b : Nat} {m : Files} {v : Value} {l : List Int} {B : Nat} (h : OwnM w b m) (k : OwnI w B v l) : v.ownBlock ≠ some b := fun e => by
  obtain ⟨es, clock, hb, _⟩ := h
  obtain ⟨_, h2 | ⟨g, cap, cur, hv, hg, hh, r⟩⟩ := k
  · rw [h2.1] at e; cases e
  · rw [hv] at e
    obtain rfl : g = b := Option.some.inj e
    rw [hb] at hh
    cases hh
theorem CrashFn.chg {w w' : World} {F S : Nat → Prop} {cv : Value} {fail : Option Int} (h : CrashFn w F cv fail) (x : Chg S w w') (hS : ∀ k, F k → ¬ S k) : CrashFn w' F cv fail := by
  unfold CrashFn at *
  split
  · exact h
  · obtain ⟨bc, e, hb, hF⟩ := h
    exact ⟨bc, e, hb.chg x (hS bc hF), hF⟩
theorem DiskIn.chg {w w' : World} {F S : Nat → Prop} {bd bm : Nat} {cv kv : Value} {d : Dk} (h : DiskIn w F bd bm cv kv d) (x : Chg S w w') (hS : ∀ k, F k → ¬ S k) : DiskIn w' F bd bm cv kv d :=
  ⟨h.blk.chg x (hS _ h.fd), h.map.chg x (hS _ h.fm), h.fn.chg x hS, h.row.chg x fun k hk => hS k (h.fk k hk).1, h.fd, h.fm, h.fk, h.ok, fun k hk => Nat.lt_of_lt_of_le (h.lt k hk) x.size⟩
theorem DiskAt.chg {w w' : World} {F S : Nat → Prop} {v : Value} {d : Dk} (h : DiskAt w F v d) (x : Chg S w w') (hS : ∀ k, F k → ¬ S k) : DiskAt w' F v d := by
  obtain ⟨bd, bm, cv, kv, rfl, h, hf⟩ := h
  exact ⟨bd, bm, cv, kv, rfl, h.chg x hS, hf⟩
theorem DiskAt.below {w w' : World} {F : Nat → Prop} {v : Value} {d : Dk} (h : DiskAt w F v d) (x : Below w.heap.size w w') : DiskAt w' F v d :=
  h.chg (S := fun _ => False) (Chg.of_below x) (fun _ _ e => e)
theorem DiskIn.below {w w' : World} {F : Nat → Prop} {bd bm : Nat} {cv kv : Value} {d : Dk} (h : DiskIn w F bd bm cv kv d) (x : Below w.heap.size w w') : DiskIn w' F bd bm cv kv d :=
  h.chg (S := fun _ => False) (Chg.of_below x) (fun _ _ e => e)
theorem DiskAt.ok {w : World} {F : Nat → Prop} {v : Value} {d : Dk} (h : DiskAt w F v d) : Ok d := by obtain ⟨_, _, _, _, _, h, _⟩ := h; exact h.ok
theorem DiskAt.lt {w : World} {F : Nat → Prop} {v : Value} {d : Dk} (h : DiskAt w F v d) : ∀ k, F k → k < w.heap.size := by obtain ⟨_, _, _, _, _, h, _⟩ := h; exact h.lt
/-- What an object in F has become is in F and in new blocks. -/
structure Grow (F F' : Nat → Prop) (w w' : World) : Prop where
  chg : Chg F w w'
  sub : ∀ k, F' k → F k ∨ w.heap.size ≤ k
theorem Grow.same {F : Nat → Prop} {w w' : World} (h : Below w.heap.size w w') : Grow F F w w' := ⟨Chg.of_below h, fun _ h => .inl h⟩
theorem Grow.trans {F F' F'' : Nat → Prop} {w w' w'' : World} (h : Grow F F' w w') (k : Grow F' F'' w' w'') : Grow F F'' w w'' :=
  ⟨⟨k.chg.os.trans h.chg.os, k.chg.tape.trans h.chg.tape, k.chg.output.trans h.chg.output, Nat.le_trans h.chg.size k.chg.size, fun i hi hs => (k.chg.block i (Nat.lt_of_lt_of_le hi h.chg.size) (fun hf => (h.sub i hf).elim hs (fun x => absurd hi (by omega)))).trans (h.chg.block i hi hs)⟩,
   fun i hi => (k.sub i hi).elim (h.sub i) (fun x => .inr (Nat.le_trans h.chg.size x))⟩
theorem Grow.below {F F' : Nat → Prop} {w w' : World} {B : Nat} (h : Grow F F' w w') (hB : B ≤ w.heap.size) (hF : ∀ k, F k → B ≤ k) : Below B w w' ∧ ∀ k, F' k → B ≤ k :=
  ⟨h.chg.below hB fun k hk hf => absurd (hF k hf) (by omega), fun k hk => (h.sub k hk).elim (hF k) (fun x => Nat.le_trans hB x)⟩

/-! ### at the operation -/
theorem strV (s : ByteArray) : Value.string s = .string ⟨s.data.toList.toArray⟩ := rfl
section
variable {ops : Array Oper} {rest : List Oper} {o : Oper} {a : Act} {Q : Exit → Act → World → Prop} {w : World}
/-- 'v, ok := files[name]'. -/
theorem wpList_look_ok (hg : o.guard = none) (mo x : Operand) (hop : o.op = Op.lookup 57 mo x true) (b : Nat) (m : Files) (hm : a.eval mo = .map (some b)) (hown : OwnM w b m)
    (name : ByteArray) (hx : a.eval x = .string name) (hn : name.size ≤ maxLen) (s : ByteArray) (n : Nat) (ok : Bool) (hf : (get m name.data.toList).getD ⟨[], 0⟩ = ⟨s.data.toList, n⟩) (hok : (get m name.data.toList).isSome = ok)
    (hK : wpList Try.prog ops Q rest (a.put o.dst (.tuple #[.agg #[.string s, .int .i64 n], .bool ok])) w) :
    wpList Try.prog ops Q (o :: rest) a w := by
  refine wpList_plain hg fun K' hK' => ?_
  obtain ⟨v, ps, hrun, hv⟩ := World.ownsMap.look_ok hown key_law under_files (zero_file w) (zd := encF ⟨[], 0⟩) (zp := []) (by exact fileElem_mk ⟨#[]⟩ 0) (WideMaps.keyOf_string_mk under_string hn)
  rw [encD_at] at hv
  rw [encD_has, hok] at hrun
  have e : v = .agg #[.string s, .int .i64 n] := by
    cases hgt : get m name.data.toList with
    | none => rw [hgt] at hv hf; obtain ⟨rfl, rfl⟩ : s = ⟨#[]⟩ ∧ n = 0 := by simp at hf; exact ⟨bytes_ext (by rw [hf.1]), hf.2.symm⟩
              exact fileElem_at hv
    | some f => rw [hgt] at hv hf; obtain rfl : f = ⟨s.data.toList, n⟩ := hf; exact fileElem_at hv
  subst e
  unfold Oper.wp
  simp only [execOp, hop, hm, hx]
  rw [Sem.run_bind, hrun]
  exact hK' _ _ hK
/-- 'files[name]'. -/
theorem wpList_look (hg : o.guard = none) (mo x : Operand) (hop : o.op = Op.lookup 57 mo x false) (b : Nat) (m : Files) (hm : a.eval mo = .map (some b)) (hown : OwnM w b m)
    (name : ByteArray) (hx : a.eval x = .string name) (hn : name.size ≤ maxLen) (s : ByteArray) (n : Nat) (hf : (get m name.data.toList).getD ⟨[], 0⟩ = ⟨s.data.toList, n⟩)
    (hK : wpList Try.prog ops Q rest (a.put o.dst (.agg #[.string s, .int .i64 n])) w) :
    wpList Try.prog ops Q (o :: rest) a w := by
  refine wpList_plain hg fun K' hK' => ?_
  obtain ⟨v, ps, hrun, hv⟩ := World.ownsMap.lookup hown key_law under_files (zero_file w) (zd := encF ⟨[], 0⟩) (zp := []) (by exact fileElem_mk ⟨#[]⟩ 0) (WideMaps.keyOf_string_mk under_string hn)
  rw [encD_at] at hv
  have e : v = .agg #[.string s, .int .i64 n] := by
    cases hgt : get m name.data.toList with
    | none => rw [hgt] at hv hf; obtain ⟨rfl, rfl⟩ : s = ⟨#[]⟩ ∧ n = 0 := by simp at hf; exact ⟨bytes_ext (by rw [hf.1]), hf.2.symm⟩
              exact fileElem_at hv
    | some f => rw [hgt] at hv hf; obtain rfl : f = ⟨s.data.toList, n⟩ := hf; exact fileElem_at hv
  subst e
  unfold Oper.wp
  simp only [execOp, hop, hm, hx]
  rw [Sem.run_bind, hrun]
  exact hK' _ _ hK
/-- 'files[name] = f'. -/
theorem wpList_put (hg : o.guard = none) (mo x v : Operand) (hop : o.op = Op.mapUpdate 57 mo x v) (b : Nat) (m : Files) (hm : a.eval mo = .map (some b)) (hown : OwnM w b m) (hc : m.length ≤ 100000)
    (name : ByteArray) (hx : a.eval x = .string name) (hn : name.size ≤ maxLen) (s : ByteArray) (n : Nat) (hv : a.eval v = .agg #[.string s, .int .i64 n])
    (hK : ∀ w', OwnM w' b (put m name.data.toList ⟨s.data.toList, n⟩) → Chg (· = b) w w' → wpList Try.prog ops Q rest (a.put o.dst undef) w') :
    wpList Try.prog ops Q (o :: rest) a w :=
  wpList_mapUpdate_own w hg mo x v _ hop _ _ key_law under_files fileElem b m.length (encD m) hm hown (by unfold maxLen; omega) _ _ _ hx hv (WideMaps.keyOf_string_mk under_string hn) _ [] (fileElem_mk s n) fun w' h1 h2 => hK w' (OwnM.of (by rw [← encD_put]; exact h1)) (Chg.grown h2)
/-- 'delete(files, name)'. -/
theorem wpList_del (hg : o.guard = none) (mo x : Operand) (hop : o.op = Op.call { callee := Callee.builtin Builtin.delete, args := #[mo, x], argTypes := #[57, 9] }) (b : Nat) (m : Files) (hm : a.eval mo = .map (some b)) (hown : OwnM w b m)
    (name : ByteArray) (hx : a.eval x = .string name) (hn : name.size ≤ maxLen)
    (hK : ∀ w', OwnM w' b (del m name.data.toList) → Chg (· = b) w w' → wpList Try.prog ops Q rest (a.put o.dst (.tuple #[])) w') :
    wpList Try.prog ops Q (o :: rest) a w :=
  wpList_delete_own w hg mo x _ _ hop _ key_law under_files fileElem b m.length (encD m) hm hown _ _ hx (WideMaps.keyOf_string_mk under_string hn) fun w' h1 h2 => hK w' (OwnM.of (by rw [← encD_del]; exact h1)) (Chg.grown h2.grown)
end
theorem OwnM.len {w : World} {b : Nat} {m : Files} (h : OwnM w b m) (ty : TypeId) : (Builtin.len_ #[57] ty #[.map (some b)]).run Try.prog w = .ok (.int .i64 m.length) w := by
  have := World.ownsMap.len h under_files ty
  rw [encD_size] at this
  exact this
end Go.Proofs.Ytnngdflamkdgaaa
