/- A tablet parted; two made one; walked. -/
import Derived.Test.YtcijhhnbhnaiaaaGreatEdSwap
namespace Go.Proofs.YtcijhhnbhnaiaaaGreat
set_option linter.unusedSimpArgs false
set_option linter.unusedVariables false
set_option maxRecDepth 100000
open Go.RowKit
attribute [local go_sem ↓] Go.wp_at_zero Go.wp_at_succ

/-- Two rows, place by place. -/
def Rel {α β : Type} (R : α → β → Prop) (a : List α) (b : List β) : Prop := a.length = b.length ∧ ∀ x ∈ a.zip b, R x.1 x.2
theorem Rel.idx {α β : Type} {R : α → β → Prop} {a : List α} {b : List β} (h : Rel R a b) (j : Nat) (hj : j < a.length) (hj' : j < b.length) : R a[j] b[j] := by
  have := h.2 ((a.zip b)[j]'(by rw [List.length_zip]; omega)) (List.getElem_mem _)
  rw [List.getElem_zip] at this
  exact this
theorem Rel.of {α β : Type} {R : α → β → Prop} {a : List α} {b : List β} (hl : a.length = b.length) (h : ∀ (j : Nat) (hj : j < a.length) (hj' : j < b.length), R a[j] b[j]) : Rel R a b := by
  refine ⟨hl, fun x hx => ?_⟩
  obtain ⟨j, hj, rfl⟩ := List.mem_iff_getElem.1 hx
  rw [List.getElem_zip]
  rw [List.length_zip] at hj
  exact h j (by omega) (by omega)
theorem Rel.append {α β : Type} {R : α → β → Prop} {a a' : List α} {b b' : List β} (h : Rel R a b) (h' : Rel R a' b') : Rel R (a ++ a') (b ++ b') := by
  refine ⟨by rw [List.length_append, List.length_append, h.1, h'.1], fun x hx => ?_⟩
  rw [List.zip_append h.1] at hx
  rcases List.mem_append.1 hx with hx | hx
  · exact h.2 x hx
  · exact h'.2 x hx
theorem Rel.take {α β : Type} {R : α → β → Prop} {a : List α} {b : List β} (h : Rel R a b) (k : Nat) : Rel R (a.take k) (b.take k) :=
  Rel.of (by rw [List.length_take, List.length_take, h.1]) fun j hj hj' => by rw [List.getElem_take, List.getElem_take]; exact h.idx j _ _
theorem Rel.drop {α β : Type} {R : α → β → Prop} {a : List α} {b : List β} (h : Rel R a b) (k : Nat) : Rel R (a.drop k) (b.drop k) :=
  Rel.of (by rw [List.length_drop, List.length_drop, h.1]) fun j hj hj' => by rw [List.getElem_drop, List.getElem_drop]; exact h.idx _ _ _
theorem Rel.cons {α β : Type} {R : α → β → Prop} {a : List α} {b : List β} {x : α} {y : β} (h : R x y) (h' : Rel R a b) : Rel R (x :: a) (y :: b) := by
  refine ⟨by simp [h'.1], fun z hz => ?_⟩
  rw [List.zip_cons_cons] at hz
  rcases List.mem_cons.1 hz with rfl | hz
  · exact h
  · exact h'.2 z hz
theorem rdT_of_rel {w : World} {B tb c n : Nat} {raw : List (ByteArray × Value)} {l : List Ed.Tab} (hB : B ≤ tb) (h : RowAt w tb (cellsT raw)) (hn : n = l.length) (hr : Rel (fun p t => p.1 = t.frm ∧ RdIU w B p.2 t.tabs) raw l) : RdTB w B (.slice (some ⟨tb, 0, none⟩) n c) l := by
  subst hn
  exact rdTB_of_row hB h hr.1 hr.idx
set_option maxHeartbeats 4000000 in
theorem does_split {w : World} {B sb tb : Nat} {raw : List (ByteArray × Value)} {s : Ed.St} {e : Ed.Edit} {fv : Value} (h : Pre w B sb tb raw s e fv) (hk : e.kind = 3) (hr : 0 ≤ e.at_ ∧ e.at_ < s.l.length) :
    Calls Tryz.prog 57 #[.pointer (some ⟨sb, 0, none⟩), edV e fv] w (DoesPost w B sb (Ed.doesP s e)) := by
  have hD : Ed.doesP s e = some ⟨s.l.take (e.at_.toNat + 1) ++ ⟨e.key, (s.l[e.at_.toNat]'(by omega)).tabs⟩ :: s.l.drop (e.at_.toNat + 1), s.log, s.next⟩ := by
    unfold Ed.doesP; rw [if_neg (by omega), dif_pos hr, if_neg (by omega), if_neg (by omega), if_pos hk]
  have hky := h.key
  obtain ⟨w1, hw1⟩ : ∃ w1, w1 = w.alloc (.cells #[.int .i64 e.kind, .int .i64 e.at_, .int .i64 e.file, fv, .string e.key] 44 (0, 0)) := ⟨_, rfl⟩
  obtain ⟨hbx, hp, hb⟩ := does_box h w1 hw1
  have hf := h.file
  have ha := h.at_
  have hfew := h.few
  obtain ⟨R, hR⟩ : ∃ R, R = Ed.doesP s e := ⟨_, rfl⟩
  rw [← hR]
  have HR := Lib.hid hR
  clear hR
  unfold edV
  obtain ⟨kind, at_, file, files, key⟩ := e
  obtain ⟨l, log, next⟩ := s
  simp only at hk hr hf ha hfew hbx hw1 HR hD hky
  subst hk
  have s0 := hp.blk.cell 0
  have s2 := hp.blk.cell 2
  simp at s0 s2
  have e0 := hbx.cell 0
  have e1 := hbx.cell 1
  have e2 := hbx.cell 2
  have e3 := hbx.cell 3
  have e4 := hbx.cell 4
  simp at e0 e1 e2 e3 e4
  have HW := Lib.hid hw1
  have HP := Lib.hid hp
  have HB := Lib.hid hb
  have HL := Lib.hid h.lt
  have HX := Lib.hid hbx
  obtain ⟨fx, fc, rfl, _⟩ := h.files.rd.form
  have HL0 := Lib.hid (fun (j : Nat) (hj : j < raw.length) (g : Nat) (hg : raw[j].2.ownBlock = some g) => ((World.ownsRow.lt (h.own.each j hj (by have := h.own.len; omega)).2.1) g hg).2)
  clear h hp hb hbx
  rw [hw1] at s0 s2 e0 e1 e2 e3 e4
  clear hw1
  obtain ⟨hr0, hr1⟩ := hr
  obtain ⟨i, rfl⟩ : ∃ i : Nat, at_ = i := ⟨at_.toNat, by omega⟩
  have hil : i < l.length := by omega
  have d0 : decide ((i : Int) < 0) = false := decide_eq_false (by omega)
  have d1 : decide ((l.length : Int) ≤ i) = false := decide_eq_false (by omega)
  have hi0 : (0 : Int) ≤ i := by omega
  simp only [Int.toNat_natCast] at hD
  have HD := Lib.hid (HR.out.trans hD)
  clear HR hD
  go_enter Tryz.func57, Tryz.ntmps57
  go_wp2_with fail
  rw [← HW.out] at s0 s2 e0 e1 e2 e3 e4 ⊢
  go_quiet (fail)
  go_wp2_with fail
  obtain ⟨wq, hwq⟩ : ∃ wq, wq = w1.drewN nq := ⟨_, rfl⟩
  rw [← hwq]
  have hbq : Below w1.heap.size w1 wq := by rw [hwq]; exact below_drewN (Below.refl _ _) nq
  have HPq := Lib.hid (HP.out.below hbq)
  have HXq := Lib.hid (HX.out.below hbq)
  have HBq := Lib.hid (HB.out.trans (hbq.mono HB.out.size))
  rw [show w1.cell? = wq.cell? by rw [hwq]; rfl] at s0 s2 e0 e1 e2 e3 e4
  clear hbq hwq
  go_quiet (fail)
  go_wp2_with fail
  clear s0 s2 e0 e1 e2 e3 e4
  have hlr : raw.length = l.length := HP.out.own.len
  have hir : i < raw.length := by omega
  refine wp_region_two (T := fun _ => True) (S := fun W => W.cell? ⟨sb, 0, none⟩ = some (.slice (some ⟨tb, 0, none⟩) l.length l.length) ∧ W.cell? ⟨w.heap.size, 1, none⟩ = some (.int .i64 i) ∧ W.cell? ⟨w.heap.size, 4, none⟩ = some (.string key) ∧ W.cell? ⟨tb, i * 2 + 1, none⟩ = some raw[i].2) (n := 20) (by kernel_rfl) ?_
  obtain ⟨w3, hw3⟩ : ∃ w3, w3 = (wq.drewN nq).drew := ⟨_, rfl⟩
  rw [← hw3]
  have hb3 : Below wq.heap.size wq w3 := by rw [hw3]; exact (below_drewN (Below.refl _ _) nq).drew
  have HP3 := Lib.hid (HPq.out.below hb3)
  have hX3 := HXq.out.below hb3
  have HB3 := Lib.hid (HBq.out.trans (hb3.mono HBq.out.size))
  have hT : True := trivial
  have x1 := hX3.cell 1
  have x4 := hX3.cell 4
  have x0 := HP3.out.blk.cell 0
  simp at x1 x4 x0
  have hS : w3.cell? ⟨sb, 0, none⟩ = some (.slice (some ⟨tb, 0, none⟩) l.length l.length) ∧ w3.cell? ⟨w.heap.size, 1, none⟩ = some (.int .i64 i) ∧ w3.cell? ⟨w.heap.size, 4, none⟩ = some (.string key) ∧ w3.cell? ⟨tb, i * 2 + 1, none⟩ = some raw[i].2 := ⟨x0, x1, x4, HP3.out.own.row.get _ _ (cellsT_get1 raw i hir)⟩
  have hlb : w.heap.size < w3.heap.size := hX3.lt
  have hlsb : sb < w3.heap.size := HP3.out.lt.2.1
  have hltb : tb < w3.heap.size := HP3.out.lt.2.2
  have HS := Lib.hid (show ∀ W : World, Below w3.heap.size w3 W → W.cell? ⟨sb, 0, none⟩ = some (.slice (some ⟨tb, 0, none⟩) l.length l.length) ∧ W.cell? ⟨w.heap.size, 1, none⟩ = some (.int .i64 i) ∧ W.cell? ⟨w.heap.size, 4, none⟩ = some (.string key) ∧ W.cell? ⟨tb, i * 2 + 1, none⟩ = some raw[i].2 from fun W hb =>
    ⟨(hb.cell (p := ⟨sb, 0, none⟩) hlsb).trans hS.1, (hb.cell (p := ⟨w.heap.size, 1, none⟩) hlb).trans hS.2.1, (hb.cell (p := ⟨w.heap.size, 4, none⟩) hlb).trans hS.2.2.1, (hb.cell (p := ⟨tb, i * 2 + 1, none⟩) hltb).trans hS.2.2.2⟩)
  obtain ⟨tv, htv⟩ : ∃ tv, tv = raw[i].2 := ⟨_, rfl⟩
  rw [← htv] at hS HS ⊢
  have HTV := Lib.hid htv
  have hw4 : IntKind.i64.wrap ((i : Int) + 1) = (i : Int) + 1 := by rw [IntKind.wrap_i64]; omega
  have htl : l[i].tabs.length ≤ 1000 := HP3.out.tabs i hil
  have hrd : RdI w3 tv l[i].tabs := by rw [htv]; exact (HP3.out.own.each i hir hil).2.1.rd
  have HRD := Lib.hid hrd
  obtain ⟨tbs, htbs⟩ : ∃ tbs, tbs = l[i].tabs := ⟨_, rfl⟩
  rw [← htbs] at htl HRD
  have HTB := Lib.hid htbs
  clear hw3 hb3 htv x0 x1 x4 hX3 hrd htbs
  refine two_take 0 (some 86) (v := ?_) rfl rfl (by kernel_rfl) (by kernel_rfl) (by kernel_rfl) (by kernel_rfl) (by decide) (by kernel_rfl) (fun _ _ _ h => h) (Or.inl ⟨by rfl, ?hy0⟩) hT hS ?_
  case hy0 => (intro w' hS'; (try unfold S8 at hS'); go_simp; (try with_reducible rfl))
  try simp only [Act.put, List.setIfInBounds_toArray, List.set_cons_zero, List.set_cons_succ]
  refine two_take 1 (some 87) (v := ?_) rfl rfl (by kernel_rfl) (by kernel_rfl) (by kernel_rfl) (by kernel_rfl) (by decide) (by kernel_rfl) (fun _ _ _ h => h) (Or.inl ⟨by rfl, ?hy1⟩) hT hS ?_
  case hy1 => (intro w' hS'; (try unfold S8 at hS'); go_simp; (try with_reducible rfl))
  try simp only [Act.put, List.setIfInBounds_toArray, List.set_cons_zero, List.set_cons_succ]
  refine two_take 2 (some 88) (v := ?_) rfl rfl (by kernel_rfl) (by kernel_rfl) (by kernel_rfl) (by kernel_rfl) (by decide) (by kernel_rfl) (fun _ _ _ h => h) (Or.inl ⟨by rfl, ?hy2⟩) hT hS ?_
  case hy2 => (intro w' hS'; (try unfold S8 at hS'); go_simp; (try with_reducible rfl))
  try simp only [Act.put, List.setIfInBounds_toArray, List.set_cons_zero, List.set_cons_succ]
  refine two_take 3 (some 89) (v := ?_) rfl rfl (by kernel_rfl) (by kernel_rfl) (by kernel_rfl) (by kernel_rfl) (by decide) (by kernel_rfl) (fun _ _ _ h => h) (Or.inl ⟨by rfl, ?hy3⟩) hT hS ?_
  case hy3 => (intro w' hS'; (try unfold S8 at hS'); go_simp; (try with_reducible rfl))
  try simp only [Act.put, List.setIfInBounds_toArray, List.set_cons_zero, List.set_cons_succ]
  refine two_take 4 (some 90) (v := ?_) rfl rfl (by kernel_rfl) (by kernel_rfl) (by kernel_rfl) (by kernel_rfl) (by decide) (by kernel_rfl) (fun _ _ _ h => h) (Or.inl ⟨by rfl, ?hy4⟩) hT hS ?_
  case hy4 => (intro w' hS'; (try unfold S8 at hS'); go_simp; (try with_reducible rfl))
  try simp only [Act.put, List.setIfInBounds_toArray, List.set_cons_zero, List.set_cons_succ]
  refine two_take 5 (some 91) (v := ?_) rfl rfl (by kernel_rfl) (by kernel_rfl) (by kernel_rfl) (by kernel_rfl) (by decide) (by kernel_rfl) (fun _ _ _ h => h) (Or.inl ⟨by rfl, ?hy5⟩) hT hS ?_
  case hy5 => (intro w' hS'; (try unfold S8 at hS'); go_simp; (try with_reducible rfl))
  try simp only [Act.put, List.setIfInBounds_toArray, List.set_cons_zero, List.set_cons_succ]
  refine two_take 6 (some 92) (v := ?_) rfl rfl (by kernel_rfl) (by kernel_rfl) (by kernel_rfl) (by kernel_rfl) (by decide) (by kernel_rfl) (fun _ _ _ h => h) (Or.inl ⟨by rfl, ?hy6⟩) hT hS ?_
  case hy6 => (intro w' hS'; (try unfold S8 at hS'); go_simp; (try with_reducible rfl))
  try simp only [Act.put, List.setIfInBounds_toArray, List.set_cons_zero, List.set_cons_succ]
  refine two_take 7 (some 93) (v := ?_) rfl rfl (by kernel_rfl) (by kernel_rfl) (by kernel_rfl) (by kernel_rfl) (by decide) (by kernel_rfl) (fun _ _ _ h => h) (Or.inl ⟨by rfl, ?hy7⟩) hT hS ?_
  case hy7 => (intro w' hS'; (try unfold S8 at hS'); go_simp; (try with_reducible rfl))
  try simp only [Act.put, List.setIfInBounds_toArray, List.set_cons_zero, List.set_cons_succ]
  refine two_take 8 (some 94) (v := ?_) rfl rfl (by kernel_rfl) (by kernel_rfl) (by kernel_rfl) (by kernel_rfl) (by decide) (by kernel_rfl) (fun _ _ _ h => h) (Or.inl ⟨by rfl, ?hy8⟩) hT hS ?_
  case hy8 => (intro w' hS'; (try unfold S8 at hS'); go_simp; (try with_reducible rfl))
  try simp only [Act.put, List.setIfInBounds_toArray, List.set_cons_zero, List.set_cons_succ]
  refine two_take 9 (some 95) (v := ?_) rfl rfl (by kernel_rfl) (by kernel_rfl) (by kernel_rfl) (by kernel_rfl) (by decide) (by kernel_rfl) (fun _ _ _ h => h) (Or.inl ⟨by rfl, ?hy9⟩) hT hS ?_
  case hy9 => (intro w' hS'; (try unfold S8 at hS'); go_simp; (try with_reducible rfl))
  try simp only [Act.put, List.setIfInBounds_toArray, List.set_cons_zero, List.set_cons_succ]
  refine two_take 10 (some 96) (v := ?_) rfl rfl (by kernel_rfl) (by kernel_rfl) (by kernel_rfl) (by kernel_rfl) (by decide) (by kernel_rfl) (fun _ _ _ h => h) (Or.inl ⟨by rfl, ?hy10⟩) hT hS ?_
  case hy10 => (intro w' hS'; (try unfold S8 at hS'); go_simp; (try with_reducible rfl))
  try simp only [Act.put, List.setIfInBounds_toArray, List.set_cons_zero, List.set_cons_succ]
  refine two_take 11 (some 97) (v := ?_) rfl rfl (by kernel_rfl) (by kernel_rfl) (by kernel_rfl) (by kernel_rfl) (by decide) (by kernel_rfl) (fun _ _ _ h => h) (Or.inl ⟨by rfl, ?hy11⟩) hT hS ?_
  case hy11 => (intro w' hS'; (try unfold S8 at hS'); go_simp; (try with_reducible rfl))
  try simp only [Act.put, List.setIfInBounds_toArray, List.set_cons_zero, List.set_cons_succ]
  refine two_take 12 (some 98) (v := ?_) rfl rfl (by kernel_rfl) (by kernel_rfl) (by kernel_rfl) (by kernel_rfl) (by decide) (by kernel_rfl) (fun _ _ _ h => h) (Or.inl ⟨by rfl, ?hy12⟩) hT hS ?_
  case hy12 => (intro w' hS'; (try unfold S8 at hS'); go_simp; (try with_reducible rfl))
  try simp only [Act.put, List.setIfInBounds_toArray, List.set_cons_zero, List.set_cons_succ]
  refine two_take 13 (some 99) (v := ?_) rfl rfl (by kernel_rfl) (by kernel_rfl) (by kernel_rfl) (by kernel_rfl) (by decide) (by kernel_rfl) (fun _ _ _ h => h) (Or.inl ⟨by rfl, ?hy13⟩) hT hS ?_
  case hy13 => (intro w' hS'; (try unfold S8 at hS'); go_simp; (try with_reducible rfl))
  try simp only [Act.put, List.setIfInBounds_toArray, List.set_cons_zero, List.set_cons_succ]
  refine two_one 14 rfl (by kernel_rfl) ?_
  intro K hK
  go_simp
  refine (cloneI_any tv tbs w3 HRD.out (by omega)).mono ?_
  rintro e wA ⟨v2, rfl, ho, hbA⟩
  obtain ⟨x1, c1, hv1, _⟩ := ho.rd.form
  obtain ⟨LN, hLN⟩ : ∃ LN, LN = tbs.length := ⟨_, rfl⟩
  rw [← hLN] at hv1
  subst hv1
  have HLN := Lib.hid hLN
  have HO := Lib.hid ho
  have HbA := Lib.hid hbA
  have hSA := HS.out wA hbA
  refine hK.out _ _ trivial (fun _ _ => hSA) ?_
  clear hK K hS ho hbA hLN
  try simp only [Act.put, List.setIfInBounds_toArray, List.set_cons_zero, List.set_cons_succ]
  refine two_one 15 rfl (by kernel_rfl) ?_
  intro K hK
  go_simp
  refine hK.out _ _ trivial (fun _ _ => hSA) ?_
  clear hK K
  try simp only [Act.put, List.setIfInBounds_toArray, List.set_cons_zero, List.set_cons_succ]
  refine two_one 16 rfl (by kernel_rfl) ?_
  intro K hK
  go_simp
  obtain ⟨wB, hwB⟩ : ∃ wB, wB = wA.alloc (.cells #[.string key, .slice x1 LN c1] 65 (0, 0)) := ⟨_, rfl⟩
  rw [← hwB]
  have hbB : Below wA.heap.size wA wB := by rw [hwB]; exact (Below.refl _ _).alloc (Nat.le_refl _) _
  have hBB : Blk wB wA.heap.size 65 #[.string key, .slice x1 LN c1] := by rw [hwB]; exact Blk.alloc_new _ _ _
  have hb3B : Below w3.heap.size w3 wB := HbA.out.trans (hbB.mono HbA.out.size)
  have hSB := HS.out wB hb3B
  have HPB := Lib.hid (HP3.out.below hb3B)
  have HOB := Lib.hid (HO.out.kept hbB)
  have HI := Lib.hid (insertT_any tb l.length (i + 1) wA.heap.size raw (key, .slice x1 LN c1) wB HPB.out.own.row hlr (by omega) (by omega) (by omega) (fun j hj => (HPB.out.own.each j hj (show j < l.length by omega)).2.1.rd.one) rfl (RowAt.of_blk hBB))
  have Hb3B := Lib.hid hb3B
  refine hK.out _ _ trivial (fun _ _ => hSB) ?_
  clear hK K hSA hwB hbB hBB hb3B
  try simp only [Act.put, List.setIfInBounds_toArray, List.set_cons_zero, List.set_cons_succ]
  refine two_one 17 rfl (by kernel_rfl) ?_
  intro K hK
  go_simp
  rw [show ((i : Int) + 1) = ((i + 1 : Nat) : Int) by push_cast; rfl]
  refine HI.out.mono ?_
  rintro e wC ⟨g, c, hgB, rfl, hrow, hbC⟩
  have hbC3 : Below w3.heap.size w3 wC := Hb3B.out.trans (hbC.mono Hb3B.out.size)
  have hSC := HS.out wC hbC3
  have HPC := Lib.hid (HPB.out.below hbC)
  have HOC := Lib.hid (HOB.out.kept hbC)
  have HRW := Lib.hid hrow
  have HBC := Lib.hid (HB3.out.trans (hbC3.mono HB3.out.size))
  refine hK.out _ _ trivial (fun _ _ => hSC) ?_
  have s0 := HPC.out.blk.cell 0
  have f0 := HPC.out.blk.free 0
  simp at s0
  clear hK K hSB hrow hbC hbC3 HI
  try simp only [Act.put, List.setIfInBounds_toArray, List.set_cons_zero, List.set_cons_succ]
  refine two_one 18 rfl (by kernel_rfl) ?_
  intro K hK
  go_simp
  refine hK.out _ _ trivial (fun _ _ => hSC) ?_
  clear hK K
  try simp only [Act.put, List.setIfInBounds_toArray, List.set_cons_zero, List.set_cons_succ]
  refine two_one 19 rfl (by kernel_rfl) ?_
  intro K hK
  go_simp
  refine hK.out _ _ trivial (fun _ _ => hSC) ?_
  clear hK K
  try simp only [Act.put, List.setIfInBounds_toArray, List.set_cons_zero, List.set_cons_succ]
  refine two_one 20 rfl (by kernel_rfl) ?_
  intro K hK
  go_simp
  obtain ⟨wD, hwD⟩ : ∃ wD, wD = wC.setCell ⟨sb, 0, none⟩ (.slice (some ⟨g, 0, none⟩) (l.length + 1) c) := ⟨_, rfl⟩
  rw [← hwD]
  refine hK.out _ _ trivial (fun _ e => absurd rfl e) ?_
  refine two_done (by kernel_rfl) ?_ _
  have hD : Chg (fun g => g = sb) wC wD := by rw [hwD]; exact Chg.setCell (S := fun g => g = sb) (Chg.refl _ _) (fun _ => rfl) _
  have HBD := Lib.hid (show Blk wD sb 28 #[.slice (some ⟨g, 0, none⟩) (l.length + 1) c, .int .i64 log, .int .i64 next] by rw [hwD]; exact HPC.out.blk.set 0 _)
  have hBsz : B ≤ wC.heap.size := HPC.out.lt.1
  have Hfin := Lib.hid (show Chg (fun g => g = sb ∨ B ≤ g) w wD from (Chg.of_below HBC.out).trans (hD.mono fun g _ e => .inl e))
  have hgs : g ≠ sb := fun e => by
    subst e
    have h1 := HRW.out.get 0 _ (cellsT_get0 (raw.take (i + 1) ++ (key, Value.slice x1 LN c1) :: raw.drop (i + 1)) 0 (by rw [List.length_append, List.length_cons]; omega))
    rw [s0] at h1
    cases h1
  have hrel : Rel (fun p t => p.1 = t.frm ∧ RdIU wD B p.2 t.tabs) raw l := Rel.of hlr fun j hj hj' => by
    obtain ⟨h1, h2, h3⟩ := HPC.out.own.each j hj hj'
    exact ⟨h1, (h2.chg hD fun g hg e2 => HPC.out.far j hj (by rw [hg, show g = sb from e2])).rdu⟩
  have Hrd := Lib.hid (show RdTB wD B (.slice (some ⟨g, 0, none⟩) (l.length + 1) c) (l.take (i + 1) ++ ⟨key, l[i].tabs⟩ :: l.drop (i + 1)) from
    rdT_of_rel (Nat.le_trans HPB.out.lt.1 hgB) (HRW.out.chg hD hgs) (by simp only [List.length_append, List.length_take, List.length_cons, List.length_drop]; omega) ((hrel.take (i + 1)).append (Rel.cons ⟨rfl, by
      rw [← HTB.out]
      exact ((HOC.out.base HP3.out.lt.1).chg hD fun g hg e2 => by
        have h1 := ((World.ownsRow.lt HO.out) g hg).1
        rw [show g = sb from e2] at h1; omega).rdu⟩ (hrel.drop (i + 1)))))
  clear hK K hwD hD s0 f0 hSC hrel hgs
  go_wp2_with fail
  go_ret
  refine ⟨Hfin.out, ?_⟩
  rw [HD.out]
  exact ⟨rfl, _, HBD.out, Hrd.out⟩
end Go.Proofs.YtcijhhnbhnaiaaaGreat
