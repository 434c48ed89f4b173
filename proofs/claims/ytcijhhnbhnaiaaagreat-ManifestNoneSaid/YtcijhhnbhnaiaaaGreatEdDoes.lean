/- What an edit does to a state of the call's own, walked: a log's number; a table more; what may not be done. -/
import Derived.Test.YtcijhhnbhnaiaaaGreatEdIns
import Derived.Test.YtcijhhnbhnaiaaaGreatSink2
namespace Go.Proofs.YtcijhhnbhnaiaaaGreat
set_option linter.unusedSimpArgs false
set_option linter.unusedVariables false
set_option maxRecDepth 100000
open Go.RowKit
attribute [local go_sem ↓] Go.wp_at_zero Go.wp_at_succ

def edV (e : Ed.Edit) (fv : Value) : Value := .agg #[.int .i64 e.kind, .int .i64 e.at_, .int .i64 e.file, fv, .string e.key]
/-- A slice that reads as these numbers, ahead of block B. -/
def RdIB (w : World) (B : Nat) (v : Value) (l : List Int) : Prop :=
  (∃ x c, v = .slice x 0 c ∧ l = []) ∨ ∃ b off c, v = .slice (some ⟨b, off, none⟩) l.length c ∧ b < B ∧ b < w.heap.size ∧ ∀ j (hj : j < l.length), w.cell? ⟨b, off + j, none⟩ = some (.int .i64 l[j])
theorem RdIB.rd {w : World} {B : Nat} {v : Value} {l : List Int} (h : RdIB w B v l) : RdI w v l := by
  rcases h with h | ⟨b, off, c, h1, _, h2, h3⟩
  · exact .inl h
  · exact .inr ⟨b, off, c, h1, h2, h3⟩
theorem RdIB.chg {w w' : World} {B : Nat} {v : Value} {l : List Int} {S : Nat → Prop} (h : RdIB w B v l) (x : Chg S w w') (hS : ∀ g, S g → B ≤ g) : RdIB w' B v l := by
  rcases h with h | ⟨b, off, c, h1, h2, h3, h4⟩
  · exact .inl h
  · exact .inr ⟨b, off, c, h1, h2, Nat.lt_of_lt_of_le h3 x.size, fun j hj => (x.cell (p := ⟨b, off + j, none⟩) h3 (fun e => by have := hS _ e; simp at this; omega)).trans (h4 j hj)⟩
theorem RdIB.below {w w' : World} {B : Nat} {v : Value} {l : List Int} (h : RdIB w B v l) (x : Below w.heap.size w w') : RdIB w' B v l := h.chg (S := fun _ => False) (Chg.of_below x) fun _ e => e.elim
theorem RdI.base {w : World} {v : Value} {l : List Int} (h : RdI w v l) : RdIB w w.heap.size v l := by
  rcases h with h | ⟨b, off, c, h1, h2, h3⟩
  · exact .inl h
  · exact .inr ⟨b, off, c, h1, h2, h2, h3⟩
/-- A slice that reads as these numbers, from block B on. -/
def RdIU (w : World) (B : Nat) (v : Value) (l : List Int) : Prop :=
  (∃ x c, v = .slice x 0 c ∧ l = []) ∨ ∃ b off c, v = .slice (some ⟨b, off, none⟩) l.length c ∧ B ≤ b ∧ b < w.heap.size ∧ ∀ j (hj : j < l.length), w.cell? ⟨b, off + j, none⟩ = some (.int .i64 l[j])
theorem RdIU.rd {w : World} {B : Nat} {v : Value} {l : List Int} (h : RdIU w B v l) : RdI w v l := by
  rcases h with h | ⟨b, off, c, h1, _, h2, h3⟩
  · exact .inl h
  · exact .inr ⟨b, off, c, h1, h2, h3⟩
theorem RdIU.chg {w w' : World} {B : Nat} {v : Value} {l : List Int} {S : Nat → Prop} (h : RdIU w B v l) (x : Chg S w w') (hS : ∀ g, S g → g < B) : RdIU w' B v l := by
  rcases h with h | ⟨b, off, c, h1, h2, h3, h4⟩
  · exact .inl h
  · exact .inr ⟨b, off, c, h1, h2, Nat.lt_of_lt_of_le h3 x.size, fun j hj => (x.cell (p := ⟨b, off + j, none⟩) h3 (fun e => by have := hS _ e; simp at this; omega)).trans (h4 j hj)⟩
theorem OwnI.rdu {w : World} {B : Nat} {v : Value} {l : List Int} (h : OwnI w B v l) : RdIU w B v l := by
  have hlt := World.ownsRow.lt h
  rcases h.rd with h1 | ⟨b, off, c, h1, h2, h3⟩
  · exact .inl h1
  · exact .inr ⟨b, off, c, h1, (hlt b (by rw [h1]; rfl)).1, h2, h3⟩
/-- A slice that reads as these tablets, from block B on. -/
def RdTB (w : World) (B : Nat) (v : Value) (l : List Ed.Tab) : Prop :=
  ∃ x c, v = .slice x l.length c ∧ ∀ (j : Nat) (hj : j < l.length), ∃ b off tv, x = some ⟨b, off, none⟩ ∧ B ≤ b ∧ b < w.heap.size ∧ w.cell? ⟨b, off + j * 2, none⟩ = some (.string l[j].frm) ∧ w.cell? ⟨b, off + j * 2 + 1, none⟩ = some tv ∧ RdIU w B tv l[j].tabs
theorem RdTB.rd {w : World} {B : Nat} {v : Value} {l : List Ed.Tab} (h : RdTB w B v l) : RdT w v l := by
  obtain ⟨x, c, e, h⟩ := h
  refine ⟨x, c, e, fun j hj => ?_⟩
  obtain ⟨b, off, tv, h1, _, h2, h3, h4, h5⟩ := h j hj
  exact ⟨b, off, tv, h1, h2, h3, h4, h5.rd⟩
theorem RdTB.chg {w w' : World} {B : Nat} {v : Value} {l : List Ed.Tab} {S : Nat → Prop} (h : RdTB w B v l) (x : Chg S w w') (hS : ∀ g, S g → g < B) : RdTB w' B v l := by
  obtain ⟨y, c, e, h⟩ := h
  refine ⟨y, c, e, fun j hj => ?_⟩
  obtain ⟨b, off, tv, h1, hB, h2, h3, h4, h5⟩ := h j hj
  have hn : ¬ S b := fun e => by have := hS _ e; omega
  exact ⟨b, off, tv, h1, hB, Nat.lt_of_lt_of_le h2 x.size, (x.cell (p := ⟨b, _, none⟩) h2 hn).trans h3, (x.cell (p := ⟨b, _, none⟩) h2 hn).trans h4, h5.chg x hS⟩
theorem rdTB_of_row {w : World} {B tb c : Nat} {raw : List (ByteArray × Value)} {l : List Ed.Tab} (hB : B ≤ tb) (h : RowAt w tb (cellsT raw)) (hl : raw.length = l.length)
    (he : ∀ (j : Nat) (hj : j < raw.length) (hj' : j < l.length), raw[j].1 = l[j].frm ∧ RdIU w B raw[j].2 l[j].tabs) : RdTB w B (.slice (some ⟨tb, 0, none⟩) l.length c) l := by
  refine ⟨_, c, rfl, fun j hj => ?_⟩
  have hj' : j < raw.length := by omega
  obtain ⟨h1, h2⟩ := he j hj' hj
  refine ⟨tb, 0, raw[j].2, rfl, hB, h.lt, ?_, ?_, h2⟩
  · have hlen := cellsT_length raw
    have := h.cell (j * 2) (by omega)
    have e := cellsT_get0 raw j hj'
    rw [List.getElem?_eq_getElem (by omega)] at e
    rw [Nat.zero_add, this, ← h1]
    exact congrArg some (Option.some.inj e)
  · have hlen := cellsT_length raw
    have := h.cell (j * 2 + 1) (by omega)
    have e := cellsT_get1 raw j hj'
    rw [List.getElem?_eq_getElem (by omega)] at e
    rw [Nat.zero_add, this]
    exact congrArg some (Option.some.inj e)
/-- A state of the call's own, and an edit. -/
structure Pre (w : World) (B sb tb : Nat) (raw : List (ByteArray × Value)) (s : Ed.St) (e : Ed.Edit) (fv : Value) : Prop where
  blk : Blk w sb 28 #[.slice (some ⟨tb, 0, none⟩) s.l.length s.l.length, .int .i64 s.log, .int .i64 s.next]
  own : OwnT w B tb raw s.l
  ne : sb ≠ tb
  far : ∀ (j : Nat) (hj : j < raw.length), raw[j].2.ownBlock ≠ some sb
  some : 0 < s.l.length
  few : s.l.length ≤ 1000
  tabs : ∀ (j : Nat) (hj : j < s.l.length), s.l[j].tabs.length ≤ 1000
  files : RdIB w B fv e.files
  fewf : e.files.length ≤ 1000
  file : 0 ≤ e.file ∧ e.file < 2147483647
  at_ : -9223372036854775808 ≤ e.at_ ∧ e.at_ ≤ 9223372036854775807
  key : e.key.size ≤ maxLen
/-- What it comes to. -/
def DoesPost (w : World) (B sb : Nat) (r : Option Ed.St) (e : Ending) (w' : World) : Prop :=
  Chg (fun g => g = sb ∨ B ≤ g) w w' ∧ match r with
    | some s' => e = .returned (.bool true) ∧ ∃ tv', Blk w' sb 28 #[tv', .int .i64 s'.log, .int .i64 s'.next] ∧ RdTB w' B tv' s'.l
    | none => e = .returned (.bool false)
theorem Pre.lt {w : World} {B sb tb : Nat} {raw : List (ByteArray × Value)} {s : Ed.St} {e : Ed.Edit} {fv : Value} (h : Pre w B sb tb raw s e fv) : B ≤ w.heap.size ∧ sb < w.heap.size ∧ tb < w.heap.size :=
  ⟨Nat.le_of_lt (Nat.lt_of_le_of_lt h.own.base h.own.row.lt), h.blk.lt, h.own.row.lt⟩
theorem OwnT.below {w w' : World} {B tb : Nat} {raw : List (ByteArray × Value)} {l : List Ed.Tab} (h : OwnT w B tb raw l) (x : Below w.heap.size w w') : OwnT w' B tb raw l :=
  ⟨h.base, h.row.below x, h.len, fun j hj hj' => ⟨(h.each j hj hj').1, (h.each j hj hj').2.1.kept x, (h.each j hj hj').2.2⟩, h.apart⟩
theorem Pre.below {w w' : World} {B sb tb : Nat} {raw : List (ByteArray × Value)} {s : Ed.St} {e : Ed.Edit} {fv : Value} (h : Pre w B sb tb raw s e fv) (x : Below w.heap.size w w') : Pre w' B sb tb raw s e fv :=
  ⟨h.blk.below x, h.own.below x, h.ne, h.far, h.some, h.few, h.tabs, h.files.below x, h.fewf, h.file, h.at_, h.key⟩
/-- The world with the edit in a box. -/
theorem does_box {w : World} {B sb tb : Nat} {raw : List (ByteArray × Value)} {s : Ed.St} {e : Ed.Edit} {fv : Value} (h : Pre w B sb tb raw s e fv) : ∀ w1, w1 = w.alloc (.cells #[.int .i64 e.kind, .int .i64 e.at_, .int .i64 e.file, fv, .string e.key] 44 (0, 0)) →
    Blk w1 w.heap.size 44 #[.int .i64 e.kind, .int .i64 e.at_, .int .i64 e.file, fv, .string e.key] ∧ Pre w1 B sb tb raw s e fv ∧ Below w.heap.size w w1 := by
  intro w1 hw
  have hb : Below w.heap.size w w1 := by rw [hw]; exact (Below.refl _ _).alloc (Nat.le_refl _) _
  exact ⟨by rw [hw]; exact Blk.alloc_new _ _ _, h.below hb, hb⟩
set_option maxHeartbeats 4000000 in
theorem does_log {w : World} {B sb tb : Nat} {raw : List (ByteArray × Value)} {s : Ed.St} {e : Ed.Edit} {fv : Value} (h : Pre w B sb tb raw s e fv) (hk : e.kind = 5) :
    Calls Tryz.prog 57 #[.pointer (some ⟨sb, 0, none⟩), edV e fv] w (DoesPost w B sb (Ed.doesP s e)) := by
  obtain ⟨w1, hw1⟩ : ∃ w1, w1 = w.alloc (.cells #[.int .i64 e.kind, .int .i64 e.at_, .int .i64 e.file, fv, .string e.key] 44 (0, 0)) := ⟨_, rfl⟩
  obtain ⟨hbx, hp, hb⟩ := does_box h w1 hw1
  have hD : Ed.doesP s e = if s.next ≤ e.file then some ⟨s.l, e.file, e.file + 1⟩ else none := by unfold Ed.doesP; rw [if_pos hk]
  have hf := h.file
  obtain ⟨R, hR⟩ : ∃ R, R = Ed.doesP s e := ⟨_, rfl⟩
  rw [← hR] at hD ⊢
  have HR := Lib.hid hD
  clear hR hD
  unfold edV
  obtain ⟨kind, at_, file, files, key⟩ := e
  obtain ⟨l, log, next⟩ := s
  simp only at hk hf hbx hw1 HR
  subst hk
  have s2 := hp.blk.cell 2
  have g1 := hp.blk.free 1
  have g2 := hp.blk.free 2
  have s1 := hp.blk.cell 1
  simp at s1 s2
  have e2 := hbx.cell 2
  simp at e2
  have HW := Lib.hid hw1
  have HP := Lib.hid hp
  have HB := Lib.hid hb
  have HL := Lib.hid h.lt
  obtain ⟨fx, fc, rfl, _⟩ := h.files.rd.form
  have hw2 : IntKind.i64.wrap (file + 1) = file + 1 := by rw [IntKind.wrap_i64]; omega
  clear h hp hb hbx
  rw [hw1] at s1 s2 g1 g2 e2
  clear hw1
  go_enter Tryz.func57, Tryz.ntmps57
  go_wp2_with fail
  rw [← HW.out] at s1 s2 g1 g2 e2 ⊢
  go_quiet (fail)
  go_wp2_with fail
  refine wp_region_two (T := fun W => W.cell? ⟨w.heap.size, 2, none⟩ = some (.int .i64 file)) (S := fun W => W.cell? ⟨w.heap.size, 2, none⟩ = some (.int .i64 file)) (n := 9) (by kernel_rfl) ?_
  obtain ⟨w2, hw2'⟩ : ∃ w2, w2 = (w1.drewN nq).drew := ⟨_, rfl⟩
  rw [← hw2']
  have HP2 := Lib.hid (HP.out.below (show Below w1.heap.size w1 w2 by rw [hw2']; exact (below_drewN (Below.refl _ _) nq).drew))
  have HB2 := Lib.hid (HB.out.trans (show Below w.heap.size w1 w2 by rw [hw2']; exact (below_drewN (Below.refl _ _) nq).drew))
  have hT : w2.cell? ⟨w.heap.size, 2, none⟩ = some (.int .i64 file) := by rw [hw2']; exact e2
  have hS : w2.cell? ⟨w.heap.size, 2, none⟩ = some (.int .i64 file) := hT
  have hne : sb ≠ w.heap.size := by have := HL.out.2.1; omega
  clear s1 s2 g1 g2 e2 hw2'
  refine two_takeT 0 (some 18) (v := ?_) rfl rfl (by kernel_rfl) (by kernel_rfl) (by kernel_rfl) (by decide) (fun _ _ _ h => h) (Or.inl ⟨by rfl, ?hy0⟩) hT hS ?_
  case hy0 => (intro w' hT'; go_simp; (try with_reducible rfl))
  try simp only [Act.put, List.setIfInBounds_toArray, List.set_cons_zero, List.set_cons_succ]
  refine two_takeT 1 (some 19) (v := ?_) rfl rfl (by kernel_rfl) (by kernel_rfl) (by kernel_rfl) (by decide) (fun _ _ _ h => h) (Or.inl ⟨by rfl, ?hy1⟩) hT hS ?_
  case hy1 => (intro w' hT'; go_simp; (try with_reducible rfl))
  try simp only [Act.put, List.setIfInBounds_toArray, List.set_cons_zero, List.set_cons_succ]
  refine two_takeT 2 (some 20) (v := ?_) rfl rfl (by kernel_rfl) (by kernel_rfl) (by kernel_rfl) (by decide) (fun _ _ _ h => h) (Or.inl ⟨by rfl, ?hy2⟩) hT hS ?_
  case hy2 => (intro w' hT'; go_simp; (try with_reducible rfl))
  try simp only [Act.put, List.setIfInBounds_toArray, List.set_cons_zero, List.set_cons_succ]
  refine two_takeT 3 (some 21) (v := ?_) rfl rfl (by kernel_rfl) (by kernel_rfl) (by kernel_rfl) (by decide) (fun _ _ _ h => h) (Or.inl ⟨by rfl, ?hy3⟩) hT hS ?_
  case hy3 => (intro w' hT'; go_simp; (try with_reducible rfl))
  try simp only [Act.put, List.setIfInBounds_toArray, List.set_cons_zero, List.set_cons_succ]
  refine two_takeT 4 (some 22) (v := ?_) rfl rfl (by kernel_rfl) (by kernel_rfl) (by kernel_rfl) (by decide) (fun _ _ _ h => h) (Or.inl ⟨by rfl, ?hy4⟩) hT hS ?_
  case hy4 => (intro w' hT'; go_simp; (try with_reducible rfl))
  try simp only [Act.put, List.setIfInBounds_toArray, List.set_cons_zero, List.set_cons_succ]
  refine two_takeT 5 (some 23) (v := ?_) rfl rfl (by kernel_rfl) (by kernel_rfl) (by kernel_rfl) (by decide) (fun _ _ _ h => h) (Or.inl ⟨by rfl, ?hy5⟩) hT hS ?_
  case hy5 => (intro w' hT'; go_simp; (try with_reducible rfl))
  try simp only [Act.put, List.setIfInBounds_toArray, List.set_cons_zero, List.set_cons_succ]
  refine two_takeT 6 (some 24) (v := ?_) rfl rfl (by kernel_rfl) (by kernel_rfl) (by kernel_rfl) (by decide) (fun _ _ _ h => h) (Or.inl ⟨by rfl, ?hy6⟩) hT hS ?_
  case hy6 => (intro w' hT'; go_simp; (try with_reducible rfl))
  try simp only [Act.put, List.setIfInBounds_toArray, List.set_cons_zero, List.set_cons_succ]
  refine two_takeT 7 (some 25) (v := ?_) rfl rfl (by kernel_rfl) (by kernel_rfl) (by kernel_rfl) (by decide) (fun _ _ _ h => h) (Or.inl ⟨by rfl, ?hy7⟩) hT hS ?_
  case hy7 => (intro w' hT'; go_simp; (try with_reducible rfl))
  try simp only [Act.put, List.setIfInBounds_toArray, List.set_cons_zero, List.set_cons_succ]
  refine two_takeT 8 (some 26) (v := ?_) rfl rfl (by kernel_rfl) (by kernel_rfl) (by kernel_rfl) (by decide) (fun _ _ _ h => h) (Or.inl ⟨by rfl, ?hy8⟩) hT hS ?_
  case hy8 => (intro w' hT'; go_simp; (try with_reducible rfl))
  try simp only [Act.put, List.setIfInBounds_toArray, List.set_cons_zero, List.set_cons_succ]
  have s1 := HP2.out.blk.cell 1
  have g1 := HP2.out.blk.free 1
  simp at s1
  refine two_one 9 rfl (by kernel_rfl) ?_
  intro K hK
  go_simp
  obtain ⟨w3, hw3⟩ : ∃ w3, w3 = w2.setCell ⟨sb, 1, none⟩ (.int .i64 file) := ⟨_, rfl⟩
  rw [← hw3]
  have hT3 : w3.cell? ⟨w.heap.size, 2, none⟩ = some (.int .i64 file) := by rw [hw3]; exact (World.cell?_setCell_far _ _ _ _ hne).trans hT
  have hB3 : Blk w3 sb 28 #[.slice (some ⟨tb, 0, none⟩) l.length l.length, .int .i64 file, .int .i64 next] := by rw [hw3]; exact HP2.out.blk.set 1 _
  have hC3 : Chg (fun g => g = sb) w2 w3 := by rw [hw3]; exact (Chg.refl _ _).setCell (S := fun g => g = sb) (fun _ => rfl) _
  refine hK.out _ _ hT3 (fun _ e => absurd rfl e) ?_
  clear hK K hw3 s1 g1 hT hS
  try simp only [Act.put, List.setIfInBounds_toArray, List.set_cons_zero, List.set_cons_succ]
  have hT := hT3
  have hS := hT3
  refine two_takeT 10 (some 27) (v := ?_) rfl rfl (by kernel_rfl) (by kernel_rfl) (by kernel_rfl) (by decide) (fun _ _ _ h => h) (Or.inl ⟨by rfl, ?hy10⟩) hT hS ?_
  case hy10 => (intro w' hT'; go_simp; (try with_reducible rfl))
  try simp only [Act.put, List.setIfInBounds_toArray, List.set_cons_zero, List.set_cons_succ]
  refine two_takeT 11 (some 28) (v := ?_) rfl rfl (by kernel_rfl) (by kernel_rfl) (by kernel_rfl) (by decide) (fun _ _ _ h => h) (Or.inl ⟨by rfl, ?hy11⟩) hT hS ?_
  case hy11 => (intro w' hT'; go_simp; (try with_reducible rfl))
  try simp only [Act.put, List.setIfInBounds_toArray, List.set_cons_zero, List.set_cons_succ]
  have s2 := hB3.cell 2
  have g2 := hB3.free 2
  simp at s2
  refine two_one 12 rfl (by kernel_rfl) ?_
  intro K hK
  go_simp
  obtain ⟨w4, hw4⟩ : ∃ w4, w4 = w3.setCell ⟨sb, 2, none⟩ (.int .i64 (file + 1)) := ⟨_, rfl⟩
  rw [← hw4]
  have hT4 : w4.cell? ⟨w.heap.size, 2, none⟩ = some (.int .i64 file) := by rw [hw4]; exact (World.cell?_setCell_far _ _ _ _ hne).trans hT
  have hB4 : Blk w4 sb 28 #[.slice (some ⟨tb, 0, none⟩) l.length l.length, .int .i64 file, .int .i64 (file + 1)] := by rw [hw4]; exact hB3.set 2 _
  have hC4 : Chg (fun g => g = sb) w2 w4 := by rw [hw4]; exact hC3.setCell (S := fun g => g = sb) (fun _ => rfl) _
  refine hK.out _ _ hT4 (fun _ _ => hT4) ?_
  refine two_done (by kernel_rfl) ?_ _
  have Hfin := Lib.hid (show Chg (fun g => g = sb ∨ B ≤ g) w w4 from (Chg.of_below HB2.out).trans (hC4.mono fun k _ h => .inl h))
  have HB4 := Lib.hid hB4
  have Hrd := Lib.hid (show RdTB w4 B (.slice (some ⟨tb, 0, none⟩) l.length l.length) l from rdTB_of_row HP2.out.own.base (HP2.out.own.row.chg hC4 (fun e => HP2.out.ne e.symm)) HP2.out.own.len fun j hj hj' => ⟨(HP2.out.own.each j hj hj').1, ((HP2.out.own.each j hj hj').2.1.chg hC4 fun g hg e => HP2.out.far j hj (by rw [hg, e])).rdu⟩)
  clear hK K hw4 s2 g2 hT hS hT3 hT4 hB3 hC3 hB4 hC4
  go_wp2_with fail
  go_ret
  refine ⟨Hfin.out, ?_⟩
  rw [HR.out]
  by_cases hle : next ≤ file
  · rw [if_pos hle, decide_eq_true hle]
    exact ⟨rfl, _, HB4.out, Hrd.out⟩
  · rw [if_neg hle, decide_eq_false hle]
    exact rfl
set_option maxHeartbeats 4000000 in
theorem does_out {w : World} {B sb tb : Nat} {raw : List (ByteArray × Value)} {s : Ed.St} {e : Ed.Edit} {fv : Value} (h : Pre w B sb tb raw s e fv) (hk : e.kind ≠ 5) (ho : ¬ (0 ≤ e.at_ ∧ e.at_ < s.l.length)) :
    Calls Tryz.prog 57 #[.pointer (some ⟨sb, 0, none⟩), edV e fv] w (DoesPost w B sb (Ed.doesP s e)) := by
  have hD : Ed.doesP s e = none := by unfold Ed.doesP; rw [if_neg hk, dif_neg ho]
  obtain ⟨w1, hw1⟩ : ∃ w1, w1 = w.alloc (.cells #[.int .i64 e.kind, .int .i64 e.at_, .int .i64 e.file, fv, .string e.key] 44 (0, 0)) := ⟨_, rfl⟩
  obtain ⟨hbx, hp, hb⟩ := does_box h w1 hw1
  have hf := h.file
  have ha := h.at_
  have hfew := h.few
  obtain ⟨R, hR⟩ : ∃ R, R = Ed.doesP s e := ⟨_, rfl⟩
  rw [← hR]
  have HR := Lib.hid hR
  clear hR
  unfold edV
  obtain ⟨kind, at_, file, files, key⟩ := e
  obtain ⟨l, log, next⟩ := s
  simp only at hk ho hf ha hfew hbx hw1 HR hD
  have HD := Lib.hid (HR.out.trans hD)
  clear HR hD
  have q0 : (kind == 5) = false := by rw [beq_eq_false_iff_ne]; exact hk
  have s0 := hp.blk.cell 0
  have s2 := hp.blk.cell 2
  simp at s0 s2
  have e0 := hbx.cell 0
  have e1 := hbx.cell 1
  have e2 := hbx.cell 2
  have e3 := hbx.cell 3
  have e4 := hbx.cell 4
  simp at e0 e1 e2 e3 e4
  have HW := Lib.hid hw1
  have HP := Lib.hid hp
  have HB := Lib.hid hb
  have HL := Lib.hid h.lt
  have HX := Lib.hid hbx
  obtain ⟨fx, fc, rfl, _⟩ := h.files.rd.form
  clear h hp hb hbx
  rw [hw1] at s0 s2 e0 e1 e2 e3 e4
  clear hw1
  by_cases hneg : at_ < 0
  case pos =>
    have d0 : decide (at_ < 0) = true := decide_eq_true hneg
    go_enter Tryz.func57, Tryz.ntmps57
    go_wp2_with fail
    rw [← HW.out] at s0 s2 e0 e1 e2 e3 e4 ⊢
    go_quiet (fail)
    go_wp2_with fail
    go_ret
    refine ⟨Chg.of_below (HB.out.trans (below_drewN ((Below.refl _ _)) nq)), ?_⟩
    rw [HD.out]
    exact rfl
  case neg =>
    have d0 : decide (at_ < 0) = false := decide_eq_false hneg
    have d1 : decide ((l.length : Int) ≤ at_) = true := decide_eq_true (by omega)
    go_enter Tryz.func57, Tryz.ntmps57
    go_wp2_with fail
    rw [← HW.out] at s0 s2 e0 e1 e2 e3 e4 ⊢
    go_quiet (fail)
    go_wp2_with fail
    go_ret
    refine ⟨Chg.of_below (HB.out.trans (below_drewN ((Below.refl _ _)) nq)), ?_⟩
    rw [HD.out]
    exact rfl
set_option maxHeartbeats 4000000 in
theorem does_other {w : World} {B sb tb : Nat} {raw : List (ByteArray × Value)} {s : Ed.St} {e : Ed.Edit} {fv : Value} (h : Pre w B sb tb raw s e fv) (hk : e.kind ≠ 5 ∧ e.kind ≠ 1 ∧ e.kind ≠ 2 ∧ e.kind ≠ 3 ∧ e.kind ≠ 4) (hr : 0 ≤ e.at_ ∧ e.at_ < s.l.length) :
    Calls Tryz.prog 57 #[.pointer (some ⟨sb, 0, none⟩), edV e fv] w (DoesPost w B sb (Ed.doesP s e)) := by
  have hD : Ed.doesP s e = none := by unfold Ed.doesP; rw [if_neg hk.1, dif_pos hr, if_neg hk.2.1, if_neg hk.2.2.1, if_neg hk.2.2.2.1, if_neg hk.2.2.2.2]
  obtain ⟨w1, hw1⟩ : ∃ w1, w1 = w.alloc (.cells #[.int .i64 e.kind, .int .i64 e.at_, .int .i64 e.file, fv, .string e.key] 44 (0, 0)) := ⟨_, rfl⟩
  obtain ⟨hbx, hp, hb⟩ := does_box h w1 hw1
  have hf := h.file
  have ha := h.at_
  have hfew := h.few
  obtain ⟨R, hR⟩ : ∃ R, R = Ed.doesP s e := ⟨_, rfl⟩
  rw [← hR]
  have HR := Lib.hid hR
  clear hR
  unfold edV
  obtain ⟨kind, at_, file, files, key⟩ := e
  obtain ⟨l, log, next⟩ := s
  simp only at hk hr hf ha hfew hbx hw1 HR hD
  have HD := Lib.hid (HR.out.trans hD)
  clear HR hD
  have q0 : (kind == 5) = false := by rw [beq_eq_false_iff_ne]; exact hk.1
  have q1 : (kind == 1) = false := by rw [beq_eq_false_iff_ne]; exact hk.2.1
  have q2 : (kind == 2) = false := by rw [beq_eq_false_iff_ne]; exact hk.2.2.1
  have q3 : (kind == 3) = false := by rw [beq_eq_false_iff_ne]; exact hk.2.2.2.1
  have q4 : (kind == 4) = false := by rw [beq_eq_false_iff_ne]; exact hk.2.2.2.2
  have s0 := hp.blk.cell 0
  have s2 := hp.blk.cell 2
  simp at s0 s2
  have e0 := hbx.cell 0
  have e1 := hbx.cell 1
  have e2 := hbx.cell 2
  have e3 := hbx.cell 3
  have e4 := hbx.cell 4
  simp at e0 e1 e2 e3 e4
  have HW := Lib.hid hw1
  have HP := Lib.hid hp
  have HB := Lib.hid hb
  have HL := Lib.hid h.lt
  have HX := Lib.hid hbx
  obtain ⟨fx, fc, rfl, _⟩ := h.files.rd.form
  clear h hp hb hbx
  rw [hw1] at s0 s2 e0 e1 e2 e3 e4
  clear hw1
  obtain ⟨hr0, hr1⟩ := hr
  obtain ⟨i, rfl⟩ : ∃ i : Nat, at_ = i := ⟨at_.toNat, by omega⟩
  have hil : i < l.length := by omega
  have d0 : decide ((i : Int) < 0) = false := decide_eq_false (by omega)
  have d1 : decide ((l.length : Int) ≤ i) = false := decide_eq_false (by omega)
  have hi0 : (0 : Int) ≤ i := by omega
  go_enter Tryz.func57, Tryz.ntmps57
  go_wp2_with fail
  rw [← HW.out] at s0 s2 e0 e1 e2 e3 e4 ⊢
  go_quiet (fail)
  go_wp2_with fail
  obtain ⟨wq, hwq⟩ : ∃ wq, wq = w1.drewN nq := ⟨_, rfl⟩
  rw [← hwq]
  have hbq : Below w1.heap.size w1 wq := by rw [hwq]; exact below_drewN (Below.refl _ _) nq
  have HPq := Lib.hid (HP.out.below hbq)
  have HXq := Lib.hid (HX.out.below hbq)
  have HBq := Lib.hid (HB.out.trans (hbq.mono HB.out.size))
  rw [show w1.cell? = wq.cell? by rw [hwq]; rfl] at s0 s2 e0 e1 e2 e3 e4
  clear hbq hwq
  go_quiet (fail)
  go_wp2_with fail
  go_ret
  refine ⟨Chg.of_below (HBq.out.trans (below_drewN ((Below.refl _ _)) nq)), ?_⟩
  rw [HD.out]
  exact rfl
end Go.Proofs.YtcijhhnbhnaiaaaGreat
