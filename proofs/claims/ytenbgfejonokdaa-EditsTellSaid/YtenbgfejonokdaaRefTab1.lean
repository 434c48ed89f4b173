/- An edit of a tablet, by the document, walked: what it needs; a tablet parted. -/
import Derived.Test.YtenbgfejonokdaaRefTabP
namespace Go.Proofs.Ytenbgfejonokdaa
set_option linter.unusedSimpArgs false
set_option linter.unusedVariables false
set_option maxRecDepth 100000
open Go.RowKit
attribute [local go_sem ↓] Go.wp_at_zero Go.wp_at_succ

/-- A state of the call's own, the one it came of, and an edit of its tablet i. -/
structure RPre (w : World) (B sb tb cap : Nat) (raw : List (ByteArray × Value)) (s : Ed.St) (tv0 : Value) (e : Ed.Edit) (fv : Value) (i : Nat) : Prop where
  blk : Blk w sb 67 #[.slice (some ⟨tb, 0, none⟩) s.l.length cap, .int .i64 s.log, .int .i64 s.next]
  own : OwnT w B tb raw s.l
  capl : s.l.length ≤ cap
  capm : cap ≤ maxLen
  ne : sb ≠ tb
  sbB : B ≤ sb
  far : ∀ (j : Nat) (hj : j < raw.length), raw[j].2.ownBlock ≠ some sb
  rd : RdTCB w B tv0 s.l
  files : RdIB w B fv e.files
  fewf : e.files.length ≤ 1000
  file : 0 ≤ e.file ∧ e.file < 2147483647
  at_ : e.at_ = i
  il : i < s.l.length
  valid : Ed.Valid s
  key : e.key.size ≤ maxLen
/-- What it comes to. -/
def RTPost (w : World) (B sb : Nat) (r : Option Ed.St) (e : Ending) (w' : World) : Prop :=
  Below B w w' ∧ match r with
    | some s' => e = .returned (.bool true) ∧ ∃ tv', Blk w' sb 67 #[tv', .int .i64 s'.log, .int .i64 s'.next] ∧ RdTCN w' (fun g => g < B) tv' s'.l
    | none => e = .returned (.bool false)
theorem RPre.lt {w : World} {B sb tb cap : Nat} {raw : List (ByteArray × Value)} {s : Ed.St} {tv0 : Value} {e : Ed.Edit} {fv : Value} {i : Nat} (h : RPre w B sb tb cap raw s tv0 e fv i) : B ≤ w.heap.size ∧ sb < w.heap.size ∧ tb < w.heap.size ∧ B ≤ tb ∧ B ≤ sb ∧ sb ≠ tb :=
  ⟨Nat.le_of_lt (Nat.lt_of_le_of_lt h.own.base h.own.row.lt), h.blk.lt, h.own.row.lt, h.own.base, h.sbB, h.ne⟩
theorem RPre.below {w w' : World} {B sb tb cap : Nat} {raw : List (ByteArray × Value)} {s : Ed.St} {tv0 : Value} {e : Ed.Edit} {fv : Value} {i : Nat} (h : RPre w B sb tb cap raw s tv0 e fv i) (x : Below w.heap.size w w') : RPre w' B sb tb cap raw s tv0 e fv i :=
  ⟨h.blk.below x, h.own.below x, h.capl, h.capm, h.ne, h.sbB, h.far, h.rd.chg (S := fun _ => False) (Chg.of_below x) (fun _ e => e.elim), h.files.below x, h.fewf, h.file, h.at_, h.il, h.valid, h.key⟩
theorem RPre.old {w : World} {B sb tb cap : Nat} {raw : List (ByteArray × Value)} {s : Ed.St} {tv0 : Value} {e : Ed.Edit} {fv : Value} {i : Nat} (h : RPre w B sb tb cap raw s tv0 e fv i) : ∀ (j : Nat) (hj : j < raw.length) (g : Nat), raw[j].2.ownBlock = some g → B ≤ g ∧ g < w.heap.size :=
  fun j hj g hg => World.ownsRow.lt (h.own.each j hj (by rw [← h.own.len]; exact hj)).2.1 g hg
/-- The rows of tablets that are the call's own read, in no block that is written. -/
theorem RPre.each {w w' : World} {B sb tb cap : Nat} {raw : List (ByteArray × Value)} {s : Ed.St} {tv0 : Value} {e : Ed.Edit} {fv : Value} {i : Nat} (h : RPre w B sb tb cap raw s tv0 e fv i) (x : Below w.heap.size w w') (v : Value) (hv : ∀ g, v.ownBlock = some g → w.heap.size ≤ g) :
    ∀ (j : Nat) (hj : j < raw.length) (hj' : j < s.l.length), raw[j].1 = s.l[j].frm ∧ RdN w' (fun g => (g = sb ∨ g < B) ∨ v.ownBlock = some g) raw[j].2 s.l[j].tabs ∧ CapOk raw[j].2 := fun j hj hj' => by
  obtain ⟨h1, h2, _⟩ := h.own.each j hj hj'
  refine ⟨h1, (h2.kept x).rdn fun g hg e => ?_, h2.cap⟩
  rcases e with (rfl | e) | e
  · exact h.far j hj hg
  · have := (h.old j hj g hg).1
    omega
  · have := hv g e
    have := (h.old j hj g hg).2
    omega
/-- An edit's box. -/
def T8 (p : Nat) (i file : Int) (fv : Value) (key : ByteArray) (W : World) : Prop :=
  W.cell? ⟨p + 1, 1, none⟩ = some (.int .i64 i) ∧ W.cell? ⟨p + 1, 2, none⟩ = some (.int .i64 file) ∧ W.cell? ⟨p + 1, 3, none⟩ = some fv ∧ W.cell? ⟨p + 1, 4, none⟩ = some (.string key)
theorem T8.chg {W W' : World} {p : Nat} {i file : Int} {fv : Value} {key : ByteArray} {S : Nat → Prop} (h : T8 p i file fv key W) (x : Chg S W W') (hp : p + 1 < W.heap.size) (hS : ¬ S (p + 1)) : T8 p i file fv key W' :=
  ⟨(x.cell (p := ⟨p + 1, 1, none⟩) hp hS).trans h.1, (x.cell (p := ⟨p + 1, 2, none⟩) hp hS).trans h.2.1, (x.cell (p := ⟨p + 1, 3, none⟩) hp hS).trans h.2.2.1, (x.cell (p := ⟨p + 1, 4, none⟩) hp hS).trans h.2.2.2⟩
theorem T8.below {W W' : World} {p : Nat} {i file : Int} {fv : Value} {key : ByteArray} (h : T8 p i file fv key W) (x : Below W.heap.size W W') (hp : p + 1 < W.heap.size) : T8 p i file fv key W' :=
  h.chg (S := fun _ => False) (Chg.of_below x) hp (fun e => e)
theorem doesR_split {s : Ed.St} {e : Ed.Edit} {i : Nat} (hk : e.kind = 3) (ha : e.at_ = i) (hi : i < s.l.length) : Ed.doesR s e = some ⟨s.l.take (i + 1) ++ [⟨e.key, s.l[i].tabs⟩] ++ s.l.drop (i + 1), s.log, s.next⟩ := by
  have e1 : Ed.doesP s e = some ⟨s.l.take (e.at_.toNat + 1) ++ ⟨e.key, (s.l[e.at_.toNat]'(by omega)).tabs⟩ :: s.l.drop (e.at_.toNat + 1), s.log, s.next⟩ := by
    unfold Ed.doesP; rw [if_neg (by omega), dif_pos ⟨by omega, by omega⟩, if_neg (by omega), if_neg (by omega), if_pos hk]
  unfold Ed.doesR
  rw [if_neg (by omega), e1]
  have : e.at_.toNat = i := by omega
  simp [this]
set_option maxHeartbeats 8000000 in
theorem tablet_split {w : World} {B sb tb cap : Nat} {raw : List (ByteArray × Value)} {s : Ed.St} {tv0 : Value} {e : Ed.Edit} {fv : Value} {i : Nat} (h : RPre w B sb tb cap raw s tv0 e fv i) (hk : e.kind = 3) :
    Calls Try.prog 99 #[.pointer (some ⟨sb, 0, none⟩), stV tv0 s.log s.next, edV e fv] w (RTPost w B sb (Ed.doesR s e)) := by
  have HH := Lib.hid h
  obtain ⟨w1, hw1⟩ : ∃ w1, w1 = (w.alloc (.cells #[tv0, .int .i64 s.log, .int .i64 s.next] 67 (0, 0))).alloc (.cells #[.int .i64 e.kind, .int .i64 e.at_, .int .i64 e.file, fv, .string e.key] 74 (0, 0)) := ⟨_, rfl⟩
  obtain ⟨k1, k2, kb⟩ := two_allocs w _ _ _ _ w1 hw1
  have hp := h.below kb
  have hlt := h.lt
  obtain ⟨x0, c0, htv0, hel0⟩ := h.rd
  obtain ⟨b0, o0, ov, rfl, hb0, _, d0, d1, hov, hovc⟩ := hel0 i h.il
  obtain ⟨ot, hot⟩ : ∃ ot, ∀ h2 : i < s.l.length, s.l[i].tabs = ot := ⟨(s.l[i]'h.il).tabs, fun _ => rfl⟩
  rw [hot] at hov
  have HOT := Lib.hid hot
  have HTL := Lib.hid (show ot.length ≤ 128 by rw [← hot h.il]; exact (h.valid.each i h.il).2.2.2)
  have hat := h.at_
  have hil := h.il
  have hfew := h.valid.few
  have hcapl := h.capl
  have hcapm := h.capm
  obtain ⟨R, hR⟩ : ∃ R, R = Ed.doesR s e := ⟨_, rfl⟩
  rw [← hR]
  have HR := Lib.hid hR
  obtain ⟨l, log, next⟩ := s
  obtain ⟨kind, at_, file, files, key⟩ := e
  simp only at hw1 k1 k2 hat hil hfew hk d1 hov htv0 hcapl HR hR
  subst hat hk
  obtain ⟨n, hn⟩ : ∃ n, n = l.length := ⟨_, rfl⟩
  rw [← hn] at hil htv0 hcapl hfew
  subst htv0
  have HN := Lib.hid hn

  have e5 := (kb.cell (p := ⟨b0, o0 + i * 2 + 1, none⟩) (Nat.lt_of_lt_of_le hb0 hlt.1)).trans d1
  have HOV := Lib.hid ((RdIB.rd hov).below kb)
  have HOC := Lib.hid hovc
  have HOVB := Lib.hid (RdIB.below hov kb)
  obtain ⟨ox, on, oc, hovv, _⟩ := hovc
  subst hovv
  obtain ⟨a0, a1, a2, _⟩ := blk3 k1
  obtain ⟨e0, e1, e2, e3, e4⟩ := blk5 k2
  obtain ⟨s0, s1, s2, sf0, sf1, sf2⟩ := blk3 hp.blk
  simp only at s0 s1 s2
  rw [← hn] at s0
  have HW := Lib.hid hw1
  have HP := Lib.hid hp
  have HB := Lib.hid kb
  have HK1 := Lib.hid k1
  have HK2 := Lib.hid k2
  have HLT := Lib.hid hlt
  obtain ⟨fx, fc, rfl, _⟩ := h.files.rd.form
  obtain ⟨p, hpp⟩ : ∃ p, p = w.heap.size := ⟨_, rfl⟩
  have HPP := Lib.hid hpp
  have hi0 : (0 : Int) ≤ i := by omega
  have hi1 : (i : Int) < n := by omega
  rw [hw1] at a0 a1 a2 e0 e1 e2 e3 e4 e5 s0 s1 s2 sf0 sf1 sf2
  unfold stV edV
  try dsimp only
  clear h hp hlt hel0 hb0 hot d0 d1 hov hR hn kb k1 k2 hw1 hpp
  go_enter Try.func99, Try.ntmps99
  have HD := Lib.hid (show R = some ⟨l.take (i + 1) ++ [⟨key, ot⟩] ++ l.drop (i + 1), log, next⟩ by
    rw [HR.out, doesR_split (i := i) rfl rfl (by show i < l.length; rw [← HN.out]; exact hil)]
    simp only [HOT.out])
  clear HR
  go_wp2_with fail
  rw [← HW.out] at s0 s1 s2 sf0 sf1 sf2 e1 e2 e3 e4 ⊢
  have hw2 : IntKind.i64.wrap ((i : Int) + 1) = (i : Int) + 1 := by rw [IntKind.wrap_i64]; omega
  have htn : ((i : Int) + 1).toNat = i + 1 := by omega
  have hbd1 : (0 : Int) ≤ (i : Int) + 1 := by omega
  have hbd2 : (i : Int) + 1 ≤ (cap : Int) := by omega
  have hbd3 : i + 1 ≤ cap := by omega
  refine wp_region_two (T := fun W => T8 w.heap.size i file (.slice fx files.length fc) key W ∧ W.cell? ⟨sb, 0, none⟩ = some (.slice (some ⟨tb, 0, none⟩) n cap)) (S := fun _ => True) (n := 9) (by kernel_rfl) ?_
  obtain ⟨x0, hx0⟩ : ∃ x0, x0 = w1.drew := ⟨_, rfl⟩
  rw [← hx0]
  have hb0 : Below w1.heap.size w1 x0 := by rw [hx0]; exact (Below.refl _ _).drew
  have hS : True := trivial
  have hp1 : w.heap.size + 1 < w1.heap.size := HK2.out.lt
  have hsb1 := HP.out.lt.2.1
  have hT : T8 w.heap.size i file (.slice fx files.length fc) key x0 ∧ x0.cell? ⟨sb, 0, none⟩ = some (.slice (some ⟨tb, 0, none⟩) n cap) := ⟨T8.below ⟨e1, e2, e3, e4⟩ hb0 hp1, (hb0.cell (p := ⟨sb, 0, none⟩) hsb1).trans s0⟩
  have HP0 := Lib.hid (HP.out.below hb0)
  have HB0 := Lib.hid (HB.out.trans (hb0.mono HB.out.size))
  have HB00 := Lib.hid hb0
  have HOV0 := Lib.hid (HOV.out.below hb0)
  have hz0 := hb0.size
  clear s0 s1 s2 sf0 sf1 sf2 a0 a1 a2 e0 e1 e2 e3 e4 e5 hx0 hb0
  refine two_takeT 0 (some 109) (v := ?_) rfl rfl (by kernel_rfl) (by kernel_rfl) (by kernel_rfl) (by decide) (fun _ _ _ h => h) (Or.inl ⟨by rfl, ?hy0⟩) hT hS ?_
  case hy0 => (intro w' hT'; (try unfold T8 at hT'); go_simp; (try with_reducible rfl))
  try simp only [Act.put, List.setIfInBounds_toArray, List.set_cons_zero, List.set_cons_succ]
  refine two_takeT 1 (some 110) (v := ?_) rfl rfl (by kernel_rfl) (by kernel_rfl) (by kernel_rfl) (by decide) (fun _ _ _ h => h) (Or.inl ⟨by rfl, ?hy1⟩) hT hS ?_
  case hy1 => (intro w' hT'; (try unfold T8 at hT'); go_simp; (try with_reducible rfl))
  try simp only [Act.put, List.setIfInBounds_toArray, List.set_cons_zero, List.set_cons_succ]
  refine two_takeT 2 (some 111) (v := ?_) rfl rfl (by kernel_rfl) (by kernel_rfl) (by kernel_rfl) (by decide) (fun _ _ _ h => h) (Or.inl ⟨by rfl, ?hy2⟩) hT hS ?_
  case hy2 => (intro w' hT'; (try unfold T8 at hT'); go_simp; (try with_reducible rfl))
  try simp only [Act.put, List.setIfInBounds_toArray, List.set_cons_zero, List.set_cons_succ]
  refine two_takeT 3 (some 112) (v := ?_) rfl rfl (by kernel_rfl) (by kernel_rfl) (by kernel_rfl) (by decide) (fun _ _ _ h => h) (Or.inl ⟨by rfl, ?hy3⟩) hT hS ?_
  case hy3 => (intro w' hT'; (try unfold T8 at hT'); go_simp; (try with_reducible rfl))
  try simp only [Act.put, List.setIfInBounds_toArray, List.set_cons_zero, List.set_cons_succ]
  refine two_takeT 4 (some 113) (v := ?_) rfl rfl (by kernel_rfl) (by kernel_rfl) (by kernel_rfl) (by decide) (fun _ _ _ h => h) (Or.inl ⟨by rfl, ?hy4⟩) hT hS ?_
  case hy4 => (intro w' hT'; (try unfold T8 at hT'); go_simp; (try with_reducible rfl))
  try simp only [Act.put, List.setIfInBounds_toArray, List.set_cons_zero, List.set_cons_succ]
  refine two_takeT 5 (some 114) (v := ?_) rfl rfl (by kernel_rfl) (by kernel_rfl) (by kernel_rfl) (by decide) (fun _ _ _ h => h) (Or.inl ⟨by rfl, ?hy5⟩) hT hS ?_
  case hy5 => (intro w' hT'; (try unfold T8 at hT'); go_simp; (try with_reducible rfl))
  try simp only [Act.put, List.setIfInBounds_toArray, List.set_cons_zero, List.set_cons_succ]
  refine two_takeT 6 (some 115) (v := ?_) rfl rfl (by kernel_rfl) (by kernel_rfl) (by kernel_rfl) (by decide) (fun _ _ _ h => h) (Or.inl ⟨by rfl, ?hy6⟩) hT hS ?_
  case hy6 => (intro w' hT'; (try unfold T8 at hT'); go_simp; (try with_reducible rfl))
  try simp only [Act.put, List.setIfInBounds_toArray, List.set_cons_zero, List.set_cons_succ]
  refine two_takeT 7 (some 116) (v := ?_) rfl rfl (by kernel_rfl) (by kernel_rfl) (by kernel_rfl) (by decide) (fun _ _ _ h => h) (Or.inl ⟨by rfl, ?hy7⟩) hT hS ?_
  case hy7 => (intro w' hT'; (try unfold T8 at hT'); go_simp; (try with_reducible rfl))
  try simp only [Act.put, List.setIfInBounds_toArray, List.set_cons_zero, List.set_cons_succ]
  refine two_one 8 rfl (by kernel_rfl) ?_
  intro K hK
  have hln : l.length = n := HN.out.symm
  refine step_append_tn rfl (.const (.slice none 0 0)) (.tmp 116) (by rfl) (fun g => g = sb ∨ g < B) (.slice none 0 0) [] [] (by rfl) (OwnN.nil _ _) (.slice (some ⟨tb, 0, none⟩) (i + 1) cap) (by rfl) (raw.take (i + 1)) (l.take (i + 1))
    (srcT_take HP0.out.own.row HP0.out.own.len (HP.out.each HB00.out _ (fun g hg => by cases hg)) (by omega)) (by simp only [List.length_nil, List.length_take]; omega) (fun g e => by have := HP0.out.lt; rcases e with rfl | e <;> omega) ?_
  intro v1 x1 ho1 hg1 hv1
  rw [List.nil_append, List.nil_append] at ho1
  have hb1 : Below x0.heap.size x0 x1 := (Below.refl _ _).grown hg1 (Nat.le_refl _) (fun g hg => by cases hg)
  obtain ⟨y1, z1, hy1⟩ := ho1.form
  rw [show (l.take (i + 1)).length = i + 1 by rw [List.length_take]; omega] at hy1
  subst hy1
  have HV1 := Lib.hid (show ∀ g, (Value.slice y1 (i + 1) z1).ownBlock = some g → w1.heap.size ≤ g from fun g hg => by
    rcases hv1 with e | e
    · rw [e] at hg; cases hg
    · rw [hg] at e; injection e with e; omega)
  have hT1 : T8 w.heap.size i file (.slice fx files.length fc) key x1 ∧ x1.cell? ⟨sb, 0, none⟩ = some (.slice (some ⟨tb, 0, none⟩) n cap) := ⟨hT.1.below hb1 (by omega), (hb1.cell (p := ⟨sb, 0, none⟩) (by show sb < _; omega)).trans hT.2⟩
  refine hK.out _ _ hT1 (fun _ _ => hS) ?_
  have HO1 := Lib.hid ho1
  have HP1 := Lib.hid (HP0.out.below hb1)
  have HB1 := Lib.hid (HB0.out.trans (hb1.mono HB0.out.size))
  have HB01 := Lib.hid (HB00.out.trans (hb1.mono HB00.out.size))
  have HOV1 := Lib.hid (HOV0.out.below hb1)
  have hz1 := hb1.size
  clear hK K hT ho1 hg1 hv1 hb1
  have hT := hT1
  clear hT1
  try simp only [Act.put, List.setIfInBounds_toArray, List.set_cons_zero, List.set_cons_succ]
  refine two_one 9 rfl (by kernel_rfl) ?_
  intro K hK
  go_simp
  refine hK.out _ _ hT (fun _ _ => hS) ?_
  clear hK K
  try simp only [Act.put, List.setIfInBounds_toArray, List.set_cons_zero, List.set_cons_succ]
  refine two_done (by kernel_rfl) ?_ _
  have s0 := hT.2
  obtain ⟨e1, e2, e3, e4⟩ := hT.1
  clear hT hS
  go_wp2_with fail
  -- the new tablet
  refine wp_region_two (T := fun W => T8 w.heap.size i file (.slice fx files.length fc) key W ∧ W.cell? ⟨sb, 0, none⟩ = some (.slice (some ⟨tb, 0, none⟩) n cap)) (S := fun _ => True) (n := 8) (by kernel_rfl) ?_
  obtain ⟨x2, hx2⟩ : ∃ x2, x2 = x1.drew := ⟨_, rfl⟩
  rw [← hx2]
  have hb2 : Below x1.heap.size x1 x2 := by rw [hx2]; exact (Below.refl _ _).drew
  have hS : True := trivial
  have hT : T8 w.heap.size i file (.slice fx files.length fc) key x2 ∧ x2.cell? ⟨sb, 0, none⟩ = some (.slice (some ⟨tb, 0, none⟩) n cap) := ⟨T8.below ⟨e1, e2, e3, e4⟩ hb2 (by omega), (hb2.cell (p := ⟨sb, 0, none⟩) (by show sb < _; omega)).trans s0⟩
  have HO2 := Lib.hid (HO1.out.below hb2)
  have HP2 := Lib.hid (HP1.out.below hb2)
  have HB2 := Lib.hid (HB1.out.trans (hb2.mono HB1.out.size))
  have HB02 := Lib.hid (HB01.out.trans (hb2.mono HB01.out.size))
  have HOV2 := Lib.hid (HOV1.out.below hb2)
  have hz2 := hb2.size
  clear s0 e1 e2 e3 e4 hx2 hb2 HO1 HP0 HB0
  refine two_takeT 0 (some 118) (v := ?_) rfl rfl (by kernel_rfl) (by kernel_rfl) (by kernel_rfl) (by decide) (fun _ _ _ h => h) (Or.inl ⟨by rfl, ?hy0⟩) hT hS ?_
  case hy0 => (intro w' hT'; (try unfold T8 at hT'); go_simp; (try with_reducible rfl))
  try simp only [Act.put, List.setIfInBounds_toArray, List.set_cons_zero, List.set_cons_succ]
  refine two_takeT 1 (some 119) (v := ?_) rfl rfl (by kernel_rfl) (by kernel_rfl) (by kernel_rfl) (by decide) (fun _ _ _ h => h) (Or.inl ⟨by rfl, ?hy1⟩) hT hS ?_
  case hy1 => (intro w' hT'; (try unfold T8 at hT'); go_simp; (try with_reducible rfl))
  try simp only [Act.put, List.setIfInBounds_toArray, List.set_cons_zero, List.set_cons_succ]
  refine two_takeT 2 (some 120) (v := ?_) rfl rfl (by kernel_rfl) (by kernel_rfl) (by kernel_rfl) (by decide) (fun _ _ _ h => h) (Or.inl ⟨by rfl, ?hy2⟩) hT hS ?_
  case hy2 => (intro w' hT'; (try unfold T8 at hT'); go_simp; (try with_reducible rfl))
  try simp only [Act.put, List.setIfInBounds_toArray, List.set_cons_zero, List.set_cons_succ]
  refine two_takeT 3 (some 121) (v := ?_) rfl rfl (by kernel_rfl) (by kernel_rfl) (by kernel_rfl) (by decide) (fun _ _ _ h => h) (Or.inl ⟨by rfl, ?hy3⟩) hT hS ?_
  case hy3 => (intro w' hT'; (try unfold T8 at hT'); go_simp; (try with_reducible rfl))
  try simp only [Act.put, List.setIfInBounds_toArray, List.set_cons_zero, List.set_cons_succ]
  refine two_one 4 rfl (by kernel_rfl) ?_
  intro K hK
  refine step_append_ints rfl (.const (.slice none 0 0)) (.tmp 121) (by rfl) x2.heap.size (.slice none 0 0) [] (by rfl) (OwnI.nil _ _) (.slice ox on oc) ot (by rfl) HOV2.out (by have := HTL.out; simp; omega) (Nat.le_refl _) ?_
  intro u2 x3 hown3 hg3 _
  rw [List.nil_append] at hown3
  have hb3 : Below x2.heap.size x2 x3 := (Below.refl _ _).grown hg3 (Nat.le_refl _) (fun g hg => by cases hg)
  obtain ⟨ux, uc, hu2, _⟩ := hown3.rd.form
  obtain ⟨un, hun⟩ : ∃ un, un = ot.length := ⟨_, rfl⟩
  rw [← hun] at hu2
  subst hu2
  have hT1 : T8 w.heap.size i file (.slice fx files.length fc) key x3 ∧ x3.cell? ⟨sb, 0, none⟩ = some (.slice (some ⟨tb, 0, none⟩) n cap) := ⟨hT.1.below hb3 (by omega), (hb3.cell (p := ⟨sb, 0, none⟩) (by show sb < _; omega)).trans hT.2⟩
  refine hK.out _ _ hT1 (fun _ _ => hS) ?_
  have HU3 := Lib.hid hown3
  have HO3 := Lib.hid (HO2.out.below hb3)
  have HP3 := Lib.hid (HP2.out.below hb3)
  have HB3 := Lib.hid (HB2.out.trans (hb3.mono HB2.out.size))
  have HB03 := Lib.hid (HB02.out.trans (hb3.mono HB02.out.size))
  have HUN := Lib.hid hun
  have hz3 := hb3.size
  have HO4' := Lib.hid HO2.out.row
  clear hK K hT hown3 hg3 hb3 HO2 HP1 HB1 hun
  have hT := hT1
  clear hT1
  try simp only [Act.put, List.setIfInBounds_toArray, List.set_cons_zero, List.set_cons_succ]
  refine two_one 5 rfl (by kernel_rfl) ?_
  intro K hK
  go_simp
  refine hK.out _ _ hT (fun _ _ => hS) ?_
  clear hK K
  try simp only [Act.put, List.setIfInBounds_toArray, List.set_cons_zero, List.set_cons_succ]
  refine two_one 6 rfl (by kernel_rfl) ?_
  intro K hK
  go_simp
  obtain ⟨x4, hx4⟩ : ∃ x4, x4 = x3.alloc (.cells #[.string key, .slice ux un uc] 70 (0, 0)) := ⟨_, rfl⟩
  obtain ⟨kt, ktb⟩ := two_cells' x4 hx4
  rw [← hx4]
  have hT1 : T8 w.heap.size i file (.slice fx files.length fc) key x4 ∧ x4.cell? ⟨sb, 0, none⟩ = some (.slice (some ⟨tb, 0, none⟩) n cap) := ⟨hT.1.below ktb (by omega), (ktb.cell (p := ⟨sb, 0, none⟩) (by show sb < _; omega)).trans hT.2⟩
  refine hK.out _ _ hT1 (fun _ _ => hS) ?_
  obtain ⟨g, hg⟩ : ∃ g, g = x3.heap.size := ⟨_, rfl⟩
  rw [← hg] at kt ⊢
  have Hkt := Lib.hid kt
  have HU4 := Lib.hid (HU3.out.kept ktb)
  have HO4 := Lib.hid (HO3.out.below ktb)
  have HP4 := Lib.hid (HP3.out.below ktb)
  have HB4 := Lib.hid (HB3.out.trans (ktb.mono HB3.out.size))
  have HB04 := Lib.hid (HB03.out.trans (ktb.mono HB03.out.size))
  have hz4 := ktb.size
  clear hK K hT kt ktb hx4 hg HO3 HP2 HB2 HU3
  have hT := hT1
  clear hT1
  try simp only [Act.put, List.setIfInBounds_toArray, List.set_cons_zero, List.set_cons_succ]
  refine two_one 7 rfl (by kernel_rfl) ?_
  intro K hK
  refine step_append_tn rfl (.tmp 118) (.tmp 124) (by rfl) (fun g => g = sb ∨ g < B) (.slice y1 (i + 1) z1) (raw.take (i + 1)) (l.take (i + 1)) (by rfl) HO4.out (.slice (some ⟨g, 0, none⟩) 1 1) (by rfl) [(key, .slice ux un uc)] [⟨key, ot⟩]
    ⟨rfl, ⟨_, 1, rfl, fun _ => ⟨g, 0, rfl, fun j u hu => by rw [Nat.zero_add]; exact blk_row Hkt.out rfl j u hu⟩⟩, fun j hj hj' => by
      obtain rfl : j = 0 := by simp at hj; omega
      refine ⟨rfl, HU4.out.rdn fun g' hg' e => ?_, HU4.out.cap⟩
      have h1 := ((World.ownsRow.lt HU4.out) g' hg').1
      rcases e with (rfl | e) | e
      · have := HP.out.lt.2.1; omega
      · have := HP.out.lt.1; omega
      · have := ((World.ownsRow.lt HO4'.out) g' e).2; omega⟩
    (by simp only [List.length_take, List.length_singleton]; omega) (fun g e => by have := HP4.out.lt; rcases e with rfl | e <;> omega) ?_
  intro v2 x5 ho5 hg5 hv5
  obtain ⟨y2, z2, hy2⟩ := ho5.form
  obtain ⟨m2, hm2⟩ : ∃ m2, m2 = (l.take (i + 1) ++ ([⟨key, ot⟩] : List Ed.Tab)).length := ⟨_, rfl⟩
  rw [← hm2] at hy2
  subst hy2
  have hC5 := chg_of_grown hg5
  have hnsb : ¬ ((Value.slice y1 (i + 1) z1).ownBlock = some sb) := fun e => by have := HV1.out sb e; omega
  have hnp : ¬ ((Value.slice y1 (i + 1) z1).ownBlock = some (w.heap.size + 1)) := fun e => by have := HV1.out _ e; omega
  have hT1 : T8 w.heap.size i file (.slice fx files.length fc) key x5 ∧ x5.cell? ⟨sb, 0, none⟩ = some (.slice (some ⟨tb, 0, none⟩) n cap) := ⟨hT.1.chg hC5 (by omega) hnp, (hC5.cell (p := ⟨sb, 0, none⟩) (by show sb < _; omega) hnsb).trans hT.2⟩
  refine hK.out _ _ hT1 (fun _ _ => hS) ?_
  have HV2 := Lib.hid (show ∀ g, (Value.slice y2 m2 z2).ownBlock = some g → w1.heap.size ≤ g from fun g hg => by
    rcases hv5 with e | e
    · rw [e] at hg; exact HV1.out g hg
    · rw [hg] at e; injection e with e; omega)
  have HO5 := Lib.hid ho5
  have HB05 := Lib.hid (show Below w1.heap.size w1 x5 from HB04.out.grown hg5 (by omega) (fun k hk => HV1.out k hk))
  have HM2 := Lib.hid hm2
  have hz5 := hC5.size
  clear hK K hT ho5 hg5 hv5 hm2 hC5 HP3 HP4 HO4 HU4 Hkt HB3 HB4 hnsb hnp
  have hT := hT1
  clear hT1
  try simp only [Act.put, List.setIfInBounds_toArray, List.set_cons_zero, List.set_cons_succ]
  refine two_one 8 rfl (by kernel_rfl) ?_
  intro K hK
  go_simp
  refine hK.out _ _ hT (fun _ _ => hS) ?_
  clear hK K
  try simp only [Act.put, List.setIfInBounds_toArray, List.set_cons_zero, List.set_cons_succ]
  refine two_done (by kernel_rfl) ?_ _
  have s0 := hT.2
  obtain ⟨e1, e2, e3, e4⟩ := hT.1
  clear hT hS
  go_wp2_with fail
  -- the tablets behind it
  refine wp_region_two (T := fun W => T8 w.heap.size i file (.slice fx files.length fc) key W) (S := fun W => W.cell? ⟨sb, 0, none⟩ = some (.slice (some ⟨tb, 0, none⟩) n cap)) (n := 13) (by kernel_rfl) ?_
  obtain ⟨x6, hx6⟩ : ∃ x6, x6 = x5.drew := ⟨_, rfl⟩
  rw [← hx6]
  have hb6 : Below x5.heap.size x5 x6 := by rw [hx6]; exact (Below.refl _ _).drew
  have hT : T8 w.heap.size i file (.slice fx files.length fc) key x6 := T8.below ⟨e1, e2, e3, e4⟩ hb6 (by omega)
  have hS : x6.cell? ⟨sb, 0, none⟩ = some (.slice (some ⟨tb, 0, none⟩) n cap) := (hb6.cell (p := ⟨sb, 0, none⟩) (by show sb < _; omega)).trans s0
  have HO6 := Lib.hid (HO5.out.below hb6)
  have HB06 := Lib.hid (HB05.out.trans (hb6.mono HB05.out.size))
  have HP6 := Lib.hid (HP.out.below HB06.out)
  have hz6 := hb6.size
  have hbd4 : (i : Int) + 1 ≤ (n : Int) := by omega
  clear s0 e1 e2 e3 e4 hx6 hb6 HO5 HB05
  by_cases hci : cap = i + 1
  · have hni : n = i + 1 := by omega
    subst hci
    subst hni
    refine two_takeT 0 (some 126) (v := ?_) rfl rfl (by kernel_rfl) (by kernel_rfl) (by kernel_rfl) (by decide) (fun _ _ _ h => h) (Or.inl ⟨by rfl, ?hy0⟩) hT hS ?_
    case hy0 => (intro w' hT'; (try unfold T8 at hT'); go_simp; (try with_reducible rfl))
    try simp only [Act.put, List.setIfInBounds_toArray, List.set_cons_zero, List.set_cons_succ]
    refine two_takeT 1 (some 127) (v := ?_) rfl rfl (by kernel_rfl) (by kernel_rfl) (by kernel_rfl) (by decide) (fun _ _ _ h => h) (Or.inl ⟨by rfl, ?hy1⟩) hT hS ?_
    case hy1 => (intro w' hT'; (try unfold T8 at hT'); go_simp; (try with_reducible rfl))
    try simp only [Act.put, List.setIfInBounds_toArray, List.set_cons_zero, List.set_cons_succ]
    refine two_takeT 2 (some 128) (v := ?_) rfl rfl (by kernel_rfl) (by kernel_rfl) (by kernel_rfl) (by decide) (fun _ _ _ h => h) (Or.inl ⟨by rfl, ?hy2⟩) hT hS ?_
    case hy2 => (intro w' hT'; (try unfold T8 at hT'); go_simp; (try with_reducible rfl))
    try simp only [Act.put, List.setIfInBounds_toArray, List.set_cons_zero, List.set_cons_succ]
    refine two_takeT 3 (some 129) (v := ?_) rfl rfl (by kernel_rfl) (by kernel_rfl) (by kernel_rfl) (by decide) (fun _ _ _ h => h) (Or.inl ⟨by rfl, ?hy3⟩) hT hS ?_
    case hy3 => (intro w' hT'; (try unfold T8 at hT'); go_simp; (try with_reducible rfl))
    try simp only [Act.put, List.setIfInBounds_toArray, List.set_cons_zero, List.set_cons_succ]
    refine two_takeT 4 (some 130) (v := ?_) rfl rfl (by kernel_rfl) (by kernel_rfl) (by kernel_rfl) (by decide) (fun _ _ _ h => h) (Or.inl ⟨by rfl, ?hy4⟩) hT hS ?_
    case hy4 => (intro w' hT'; (try unfold T8 at hT'); go_simp; (try with_reducible rfl))
    try simp only [Act.put, List.setIfInBounds_toArray, List.set_cons_zero, List.set_cons_succ]
    refine two_take 5 (some 131) (v := ?_) rfl rfl (by kernel_rfl) (by kernel_rfl) (by kernel_rfl) (by kernel_rfl) (by decide) (by kernel_rfl) (fun _ _ _ h => h) (Or.inl ⟨by rfl, ?hy5⟩) hT hS ?_
    case hy5 => (intro w' hS'; (try unfold S8 at hS'); (try unfold T8 at hS'); go_simp; (try with_reducible rfl))
    try simp only [Act.put, List.setIfInBounds_toArray, List.set_cons_zero, List.set_cons_succ]
    refine two_takeT 6 (some 132) (v := ?_) rfl rfl (by kernel_rfl) (by kernel_rfl) (by kernel_rfl) (by decide) (fun _ _ _ h => h) (Or.inl ⟨by rfl, ?hy6⟩) hT hS ?_
    case hy6 => (intro w' hT'; (try unfold T8 at hT'); go_simp; (try with_reducible rfl))
    try simp only [Act.put, List.setIfInBounds_toArray, List.set_cons_zero, List.set_cons_succ]
    refine two_takeT 7 (some 133) (v := ?_) rfl rfl (by kernel_rfl) (by kernel_rfl) (by kernel_rfl) (by decide) (fun _ _ _ h => h) (Or.inl ⟨by rfl, ?hy7⟩) hT hS ?_
    case hy7 => (intro w' hT'; (try unfold T8 at hT'); go_simp; (try with_reducible rfl))
    try simp only [Act.put, List.setIfInBounds_toArray, List.set_cons_zero, List.set_cons_succ]
    refine two_takeT 8 (some 134) (v := ?_) rfl rfl (by kernel_rfl) (by kernel_rfl) (by kernel_rfl) (by decide) (fun _ _ _ h => h) (Or.inl ⟨by rfl, ?hy8⟩) hT hS ?_
    case hy8 => (intro w' hT'; (try unfold T8 at hT'); go_simp; (try with_reducible rfl))
    try simp only [Act.put, List.setIfInBounds_toArray, List.set_cons_zero, List.set_cons_succ]
    refine two_takeT 9 (some 135) (v := ?_) rfl rfl (by kernel_rfl) (by kernel_rfl) (by kernel_rfl) (by decide) (fun _ _ _ h => h) (Or.inl ⟨by rfl, ?hy9⟩) hT hS ?_
    case hy9 => (intro w' hT'; (try unfold T8 at hT'); go_simp; (try with_reducible rfl))
    try simp only [Act.put, List.setIfInBounds_toArray, List.set_cons_zero, List.set_cons_succ]
    refine two_one 10 rfl (by kernel_rfl) ?_
    intro K hK
    refine step_append_tn rfl (.tmp 127) (.tmp 135) (by rfl) (fun g => g = sb ∨ g < B) (.slice y2 m2 z2) (raw.take (i + 1) ++ [(key, .slice ux un uc)]) (l.take (i + 1) ++ [⟨key, ot⟩]) (by rfl) HO6.out _ rfl (raw.drop (i + 1)) (l.drop (i + 1)) ?src
      (by simp only [List.length_append, List.length_take, List.length_singleton, List.length_drop]; omega) (fun g e => by have := HP6.out.lt; rcases e with rfl | e <;> omega) ?_
    case src =>
      refine srcT_drop HP6.out.own.row HP6.out.own.len (HP.out.each HB06.out _ HV2.out) (by show i + 1 ≤ l.length; omega) ?_ ?_
      · show _ = l.length - _; omega
      · intro hlt
        first
          | rfl
          | exact absurd hlt (by show ¬ _ < l.length; omega)
    intro v3 x7 ho7 hg7 hv7
    have hC7 := chg_of_grown hg7
    have hnsb : ¬ ((Value.slice y2 m2 z2).ownBlock = some sb) := fun e => by have := HV2.out sb e; omega
    have hnp : ¬ ((Value.slice y2 m2 z2).ownBlock = some (w.heap.size + 1)) := fun e => by have := HV2.out _ e; omega
    obtain ⟨y3, z3, hy3⟩ := ho7.form
    obtain ⟨m3, hm3⟩ : ∃ m3, m3 = (l.take (i + 1) ++ ([⟨key, ot⟩] : List Ed.Tab) ++ l.drop (i + 1)).length := ⟨_, rfl⟩
    rw [← hm3] at hy3
    subst hy3
    have hT1 : T8 w.heap.size i file (.slice fx files.length fc) key x7 := hT.chg hC7 (by omega) hnp
    have hS1 := (hC7.cell (p := ⟨sb, 0, none⟩) (by show sb < _; omega) hnsb).trans hS
    refine hK.out _ _ hT1 (fun _ _ => hS1) ?_
    have HO7 := Lib.hid ho7
    have HC7 := Lib.hid hC7
    have Hb7 := Lib.hid (show Below w1.heap.size w1 x7 from HB06.out.grown hg7 (by omega) (fun k hk => HV2.out k hk))
    have hz7 := hC7.size
    clear hK K hT hS ho7 hg7 hv7 hC7 hm3
    have hT := hT1
    have hS := hS1
    clear hT1 hS1
    try simp only [Act.put, List.setIfInBounds_toArray, List.set_cons_zero, List.set_cons_succ]
    refine two_one 11 rfl (by kernel_rfl) ?_
    intro K hK
    go_simp
    refine hK.out _ _ hT (fun _ _ => hS) ?_
    clear hK K
    try simp only [Act.put, List.setIfInBounds_toArray, List.set_cons_zero, List.set_cons_succ]
    refine two_one 12 rfl (by kernel_rfl) ?_
    intro K hK
    go_simp
    refine hK.out _ _ hT (fun _ _ => hS) ?_
    clear hK K
    try simp only [Act.put, List.setIfInBounds_toArray, List.set_cons_zero, List.set_cons_succ]
    have HS7 := Lib.hid (HP6.out.blk.chg HC7.out hnsb)
    obtain ⟨s0, s1, s2, sf0, sf1, sf2⟩ := blk3 HS7.out
    refine two_one 13 rfl (by kernel_rfl) ?_
    intro K hK
    go_simp
    obtain ⟨x8, hx8⟩ : ∃ x8, x8 = x7.setCell ⟨sb, 0, none⟩ (.slice y3 m3 z3) := ⟨_, rfl⟩
    rw [← hx8]
    have hC8 : Chg (fun g => g = sb) x7 x8 := by rw [hx8]; exact (Chg.refl _ _).setCell (S := fun g => g = sb) (fun _ => rfl) _
    have HF := Lib.hid (show Blk x8 sb 67 #[.slice y3 m3 z3, .int .i64 log, .int .i64 next] by rw [hx8]; exact HS7.out.set 0 _)
    have HRD := Lib.hid ((HO7.out.chg hC8 (fun g e => .inl e)).rd.weak (N' := fun g => g < B) (fun g e => .inr e))
    have HBF := Lib.hid (show Below B w x8 from (HB.out.mono HLT.out.1).trans ((Hb7.out.mono (by have := HLT.out.1; have := HB.out.size; omega)).trans (hC8.below (by have := HLT.out.1; have := HB.out.size; omega) (fun g hg e => by have := HLT.out; omega))))
    have hT1 : T8 w.heap.size i file (.slice fx files.length fc) key x8 := hT.chg hC8 (by omega) (by have := HLT.out; omega)
    refine hK.out _ _ hT1 (fun _ e => absurd rfl e) ?_
    refine two_done (by kernel_rfl) ?_ _
    clear hK K hT hS hx8 hC8 hT1 s0 s1 s2 sf0 sf1 sf2
    go_wp2_with fail
    go_ret
    refine ⟨HBF.out, ?_⟩
    rw [HD.out]
    exact ⟨rfl, _, HF.out, HRD.out⟩
  · have hci2 : ¬ (cap - (i + 1) = cap) := by omega
    refine two_takeT 0 (some 126) (v := ?_) rfl rfl (by kernel_rfl) (by kernel_rfl) (by kernel_rfl) (by decide) (fun _ _ _ h => h) (Or.inl ⟨by rfl, ?hy0⟩) hT hS ?_
    case hy0 => (intro w' hT'; (try unfold T8 at hT'); go_simp; (try with_reducible rfl))
    try simp only [Act.put, List.setIfInBounds_toArray, List.set_cons_zero, List.set_cons_succ]
    refine two_takeT 1 (some 127) (v := ?_) rfl rfl (by kernel_rfl) (by kernel_rfl) (by kernel_rfl) (by decide) (fun _ _ _ h => h) (Or.inl ⟨by rfl, ?hy1⟩) hT hS ?_
    case hy1 => (intro w' hT'; (try unfold T8 at hT'); go_simp; (try with_reducible rfl))
    try simp only [Act.put, List.setIfInBounds_toArray, List.set_cons_zero, List.set_cons_succ]
    refine two_takeT 2 (some 128) (v := ?_) rfl rfl (by kernel_rfl) (by kernel_rfl) (by kernel_rfl) (by decide) (fun _ _ _ h => h) (Or.inl ⟨by rfl, ?hy2⟩) hT hS ?_
    case hy2 => (intro w' hT'; (try unfold T8 at hT'); go_simp; (try with_reducible rfl))
    try simp only [Act.put, List.setIfInBounds_toArray, List.set_cons_zero, List.set_cons_succ]
    refine two_takeT 3 (some 129) (v := ?_) rfl rfl (by kernel_rfl) (by kernel_rfl) (by kernel_rfl) (by decide) (fun _ _ _ h => h) (Or.inl ⟨by rfl, ?hy3⟩) hT hS ?_
    case hy3 => (intro w' hT'; (try unfold T8 at hT'); go_simp; (try with_reducible rfl))
    try simp only [Act.put, List.setIfInBounds_toArray, List.set_cons_zero, List.set_cons_succ]
    refine two_takeT 4 (some 130) (v := ?_) rfl rfl (by kernel_rfl) (by kernel_rfl) (by kernel_rfl) (by decide) (fun _ _ _ h => h) (Or.inl ⟨by rfl, ?hy4⟩) hT hS ?_
    case hy4 => (intro w' hT'; (try unfold T8 at hT'); go_simp; (try with_reducible rfl))
    try simp only [Act.put, List.setIfInBounds_toArray, List.set_cons_zero, List.set_cons_succ]
    refine two_take 5 (some 131) (v := ?_) rfl rfl (by kernel_rfl) (by kernel_rfl) (by kernel_rfl) (by kernel_rfl) (by decide) (by kernel_rfl) (fun _ _ _ h => h) (Or.inl ⟨by rfl, ?hy5⟩) hT hS ?_
    case hy5 => (intro w' hS'; (try unfold S8 at hS'); (try unfold T8 at hS'); go_simp; (try with_reducible rfl))
    try simp only [Act.put, List.setIfInBounds_toArray, List.set_cons_zero, List.set_cons_succ]
    refine two_takeT 6 (some 132) (v := ?_) rfl rfl (by kernel_rfl) (by kernel_rfl) (by kernel_rfl) (by decide) (fun _ _ _ h => h) (Or.inl ⟨by rfl, ?hy6⟩) hT hS ?_
    case hy6 => (intro w' hT'; (try unfold T8 at hT'); go_simp; (try with_reducible rfl))
    try simp only [Act.put, List.setIfInBounds_toArray, List.set_cons_zero, List.set_cons_succ]
    refine two_takeT 7 (some 133) (v := ?_) rfl rfl (by kernel_rfl) (by kernel_rfl) (by kernel_rfl) (by decide) (fun _ _ _ h => h) (Or.inl ⟨by rfl, ?hy7⟩) hT hS ?_
    case hy7 => (intro w' hT'; (try unfold T8 at hT'); go_simp; (try with_reducible rfl))
    try simp only [Act.put, List.setIfInBounds_toArray, List.set_cons_zero, List.set_cons_succ]
    refine two_takeT 8 (some 134) (v := ?_) rfl rfl (by kernel_rfl) (by kernel_rfl) (by kernel_rfl) (by decide) (fun _ _ _ h => h) (Or.inl ⟨by rfl, ?hy8⟩) hT hS ?_
    case hy8 => (intro w' hT'; (try unfold T8 at hT'); go_simp; (try with_reducible rfl))
    try simp only [Act.put, List.setIfInBounds_toArray, List.set_cons_zero, List.set_cons_succ]
    refine two_takeT 9 (some 135) (v := ?_) rfl rfl (by kernel_rfl) (by kernel_rfl) (by kernel_rfl) (by decide) (fun _ _ _ h => h) (Or.inl ⟨by rfl, ?hy9⟩) hT hS ?_
    case hy9 => (intro w' hT'; (try unfold T8 at hT'); go_simp; (try with_reducible rfl))
    try simp only [Act.put, List.setIfInBounds_toArray, List.set_cons_zero, List.set_cons_succ]
    refine two_one 10 rfl (by kernel_rfl) ?_
    intro K hK
    refine step_append_tn rfl (.tmp 127) (.tmp 135) (by rfl) (fun g => g = sb ∨ g < B) (.slice y2 m2 z2) (raw.take (i + 1) ++ [(key, .slice ux un uc)]) (l.take (i + 1) ++ [⟨key, ot⟩]) (by rfl) HO6.out _ rfl (raw.drop (i + 1)) (l.drop (i + 1)) ?src
      (by simp only [List.length_append, List.length_take, List.length_singleton, List.length_drop]; omega) (fun g e => by have := HP6.out.lt; rcases e with rfl | e <;> omega) ?_
    case src =>
      refine srcT_drop HP6.out.own.row HP6.out.own.len (HP.out.each HB06.out _ HV2.out) (by show i + 1 ≤ l.length; omega) ?_ ?_
      · show _ = l.length - _; omega
      · intro hlt
        first
          | rfl
          | exact absurd hlt (by show ¬ _ < l.length; omega)
    intro v3 x7 ho7 hg7 hv7
    have hC7 := chg_of_grown hg7
    have hnsb : ¬ ((Value.slice y2 m2 z2).ownBlock = some sb) := fun e => by have := HV2.out sb e; omega
    have hnp : ¬ ((Value.slice y2 m2 z2).ownBlock = some (w.heap.size + 1)) := fun e => by have := HV2.out _ e; omega
    obtain ⟨y3, z3, hy3⟩ := ho7.form
    obtain ⟨m3, hm3⟩ : ∃ m3, m3 = (l.take (i + 1) ++ ([⟨key, ot⟩] : List Ed.Tab) ++ l.drop (i + 1)).length := ⟨_, rfl⟩
    rw [← hm3] at hy3
    subst hy3
    have hT1 : T8 w.heap.size i file (.slice fx files.length fc) key x7 := hT.chg hC7 (by omega) hnp
    have hS1 := (hC7.cell (p := ⟨sb, 0, none⟩) (by show sb < _; omega) hnsb).trans hS
    refine hK.out _ _ hT1 (fun _ _ => hS1) ?_
    have HO7 := Lib.hid ho7
    have HC7 := Lib.hid hC7
    have Hb7 := Lib.hid (show Below w1.heap.size w1 x7 from HB06.out.grown hg7 (by omega) (fun k hk => HV2.out k hk))
    have hz7 := hC7.size
    clear hK K hT hS ho7 hg7 hv7 hC7 hm3
    have hT := hT1
    have hS := hS1
    clear hT1 hS1
    try simp only [Act.put, List.setIfInBounds_toArray, List.set_cons_zero, List.set_cons_succ]
    refine two_one 11 rfl (by kernel_rfl) ?_
    intro K hK
    go_simp
    refine hK.out _ _ hT (fun _ _ => hS) ?_
    clear hK K
    try simp only [Act.put, List.setIfInBounds_toArray, List.set_cons_zero, List.set_cons_succ]
    refine two_one 12 rfl (by kernel_rfl) ?_
    intro K hK
    go_simp
    refine hK.out _ _ hT (fun _ _ => hS) ?_
    clear hK K
    try simp only [Act.put, List.setIfInBounds_toArray, List.set_cons_zero, List.set_cons_succ]
    have HS7 := Lib.hid (HP6.out.blk.chg HC7.out hnsb)
    obtain ⟨s0, s1, s2, sf0, sf1, sf2⟩ := blk3 HS7.out
    refine two_one 13 rfl (by kernel_rfl) ?_
    intro K hK
    go_simp
    obtain ⟨x8, hx8⟩ : ∃ x8, x8 = x7.setCell ⟨sb, 0, none⟩ (.slice y3 m3 z3) := ⟨_, rfl⟩
    rw [← hx8]
    have hC8 : Chg (fun g => g = sb) x7 x8 := by rw [hx8]; exact (Chg.refl _ _).setCell (S := fun g => g = sb) (fun _ => rfl) _
    have HF := Lib.hid (show Blk x8 sb 67 #[.slice y3 m3 z3, .int .i64 log, .int .i64 next] by rw [hx8]; exact HS7.out.set 0 _)
    have HRD := Lib.hid ((HO7.out.chg hC8 (fun g e => .inl e)).rd.weak (N' := fun g => g < B) (fun g e => .inr e))
    have HBF := Lib.hid (show Below B w x8 from (HB.out.mono HLT.out.1).trans ((Hb7.out.mono (by have := HLT.out.1; have := HB.out.size; omega)).trans (hC8.below (by have := HLT.out.1; have := HB.out.size; omega) (fun g hg e => by have := HLT.out; omega))))
    have hT1 : T8 w.heap.size i file (.slice fx files.length fc) key x8 := hT.chg hC8 (by omega) (by have := HLT.out; omega)
    refine hK.out _ _ hT1 (fun _ e => absurd rfl e) ?_
    refine two_done (by kernel_rfl) ?_ _
    clear hK K hT hS hx8 hC8 hT1 s0 s1 s2 sf0 sf1 sf2
    go_wp2_with fail
    go_ret
    refine ⟨HBF.out, ?_⟩
    rw [HD.out]
    exact ⟨rfl, _, HF.out, HRD.out⟩
end Go.Proofs.Ytenbgfejonokdaa
