/- A table more, walked. -/
import Derived.Test.YtcijhhnbhnaiaaaGreatEdDoes
namespace Go.Proofs.YtcijhhnbhnaiaaaGreat
set_option linter.unusedSimpArgs false
set_option linter.unusedVariables false
set_option maxRecDepth 100000
open Go.RowKit
attribute [local go_sem ↓] Go.wp_at_zero Go.wp_at_succ

/-- 'append(v, x...)' at a step of a region that draws its order. -/
theorem step_append_ints {ops : Array Oper} {o : Oper} {a : Act} {K : Act → World → Prop} {Q : Exit → Act → World → Prop} {E : Prop} {w : World} (hgd : o.guard = none) (s x : Operand)
    (ho : o.op = .call { callee := .builtin .append, args := #[s, x], argTypes := #[42, 42] })
    (B : Nat) (v : Value) (l : List Int) (hs : a.eval s = v) (hown : OwnI w B v l) (y : Value) (m : List Int) (hx : a.eval x = y) (hy : RdI w y m) (hl : (l.length + m.length) * 8 ≤ 140737488355328) (hB : B ≤ w.heap.size)
    (h : ∀ v' w', OwnI w' B v' (l ++ m) → w.grownBy w' v.ownBlock → (v'.ownBlock = v.ownBlock ∨ v'.ownBlock = some w.heap.size) → K (a.put o.dst v') w') : if Region.wanted o (yielded ops a.tmps) = true then Oper.wp Tryz.prog o a w K Q else E := by
  have hw : Region.wanted o (yielded ops a.tmps) = true := by simp [Region.wanted, hgd]
  rw [if_pos hw]
  obtain ⟨v', w', h1, h2, h3, h4⟩ := run_append_ints w B v l hown y m hy o.type hl hB
  unfold Oper.wp execOp
  simp only [ho, resolve, invoke, builtin, Sem.run_bind, Sem.run_pure, Result.andThen_ok, List.map_toArray, List.map_cons, List.map_nil, hs, hx, h1]
  exact h v' w' h2 h3 h4
theorem chg_of_grown {w w' : World} {row : Option Nat} (h : w.grownBy w' row) : Chg (fun g => row = some g) w w' := ⟨h.os, h.tape, h.output, h.size, fun k hk hs => h.block k hk fun e => hs e.symm⟩
theorem rdI_one {w : World} {b : Nat} {t : TypeId} {n : Int} (h : Blk w b t #[.int .i64 n]) (c : Nat) : RdI w (.slice (some ⟨b, 0, none⟩) 1 c) [n] :=
  .inr ⟨b, 0, c, rfl, h.lt, fun j hj => by
    have : j = 0 := by simp at hj; omega
    subst this
    exact h.cell 0⟩
set_option maxHeartbeats 4000000 in
theorem does_table {w : World} {B sb tb : Nat} {raw : List (ByteArray × Value)} {s : Ed.St} {e : Ed.Edit} {fv : Value} (h : Pre w B sb tb raw s e fv) (hk : e.kind = 1) (hr : 0 ≤ e.at_ ∧ e.at_ < s.l.length) :
    Calls Tryz.prog 57 #[.pointer (some ⟨sb, 0, none⟩), edV e fv] w (DoesPost w B sb (Ed.doesP s e)) := by
  have hD : Ed.doesP s e = if s.next ≤ e.file then some ⟨s.l.set e.at_.toNat ⟨(s.l[e.at_.toNat]'(by omega)).frm, (s.l[e.at_.toNat]'(by omega)).tabs ++ [e.file]⟩, s.log, e.file + 1⟩ else none := by
    unfold Ed.doesP; rw [if_neg (by omega), dif_pos hr, if_pos hk]
  obtain ⟨w1, hw1⟩ : ∃ w1, w1 = w.alloc (.cells #[.int .i64 e.kind, .int .i64 e.at_, .int .i64 e.file, fv, .string e.key] 44 (0, 0)) := ⟨_, rfl⟩
  obtain ⟨hbx, hp, hb⟩ := does_box h w1 hw1
  have hf := h.file
  have ha := h.at_
  have hfew := h.few
  obtain ⟨R, hR⟩ : ∃ R, R = Ed.doesP s e := ⟨_, rfl⟩
  rw [← hR]
  have HR := Lib.hid hR
  clear hR
  unfold edV
  obtain ⟨kind, at_, file, files, key⟩ := e
  obtain ⟨l, log, next⟩ := s
  simp only at hk hr hf ha hfew hbx hw1 HR hD
  subst hk
  have s0 := hp.blk.cell 0
  have s2 := hp.blk.cell 2
  simp at s0 s2
  have e0 := hbx.cell 0
  have e1 := hbx.cell 1
  have e2 := hbx.cell 2
  have e3 := hbx.cell 3
  have e4 := hbx.cell 4
  simp at e0 e1 e2 e3 e4
  have HW := Lib.hid hw1
  have HP := Lib.hid hp
  have HB := Lib.hid hb
  have HL := Lib.hid h.lt
  have HX := Lib.hid hbx
  obtain ⟨fx, fc, rfl, _⟩ := h.files.rd.form
  have HL0 := Lib.hid (fun (j : Nat) (hj : j < raw.length) (g : Nat) (hg : raw[j].2.ownBlock = some g) => ((World.ownsRow.lt (h.own.each j hj (by have := h.own.len; omega)).2.1) g hg).2)
  clear h hp hb hbx
  rw [hw1] at s0 s2 e0 e1 e2 e3 e4
  clear hw1
  obtain ⟨hr0, hr1⟩ := hr
  obtain ⟨i, rfl⟩ : ∃ i : Nat, at_ = i := ⟨at_.toNat, by omega⟩
  have hil : i < l.length := by omega
  have d0 : decide ((i : Int) < 0) = false := decide_eq_false (by omega)
  have d1 : decide ((l.length : Int) ≤ i) = false := decide_eq_false (by omega)
  have hi0 : (0 : Int) ≤ i := by omega
  simp only [Int.toNat_natCast] at hD
  have HD := Lib.hid (HR.out.trans hD)
  clear HR hD
  go_enter Tryz.func57, Tryz.ntmps57
  go_wp2_with fail
  rw [← HW.out] at s0 s2 e0 e1 e2 e3 e4 ⊢
  go_quiet (fail)
  go_wp2_with fail
  obtain ⟨wq, hwq⟩ : ∃ wq, wq = w1.drewN nq := ⟨_, rfl⟩
  rw [← hwq]
  have hbq : Below w1.heap.size w1 wq := by rw [hwq]; exact below_drewN (Below.refl _ _) nq
  have HPq := Lib.hid (HP.out.below hbq)
  have HXq := Lib.hid (HX.out.below hbq)
  have HBq := Lib.hid (HB.out.trans (hbq.mono HB.out.size))
  rw [show w1.cell? = wq.cell? by rw [hwq]; rfl] at s0 s2 e0 e1 e2 e3 e4
  clear hbq hwq
  go_quiet (fail)
  go_wp2_with fail
  clear s0 s2 e0 e1 e2 e3 e4
  have hw2 : IntKind.i64.wrap (file + 1) = file + 1 := by rw [IntKind.wrap_i64]; omega
  have hlr : raw.length = l.length := HP.out.own.len
  have hir : i < raw.length := by omega
  obtain ⟨wd, hwd⟩ : ∃ wd, wd = (wq.drewN nq).drew := ⟨_, rfl⟩
  have hb2 : Below wq.heap.size wq (wq.drewN nq) := below_drewN (Below.refl _ _) nq
  have HP2 := Lib.hid (HPq.out.below hb2)
  have HX2 := Lib.hid (HXq.out.below hb2)
  have HB2 := Lib.hid (HBq.out.trans (hb2.mono HBq.out.size))
  obtain ⟨w2, hw2'⟩ : ∃ w2, w2 = wq.drewN nq := ⟨_, rfl⟩
  rw [← hw2'] at hwd HP2 HX2 HB2 ⊢
  have s2 := HP2.out.blk.cell 2
  have e2 := HX2.out.cell 2
  simp at s2 e2
  clear hb2 hw2' hwd
  go_quiet (fail)
  go_wp2_with fail
  clear s2 e2
  refine wp_region_two (T := fun W => W.cell? ⟨w.heap.size, 2, none⟩ = some (.int .i64 file)) (S := fun W => W.cell? ⟨w.heap.size, 2, none⟩ = some (.int .i64 file) ∧ W.cell? ⟨tb, i * 2 + 1, none⟩ = some raw[i].2) (n := 15) (by kernel_rfl) ?_
  obtain ⟨w3, hw3⟩ : ∃ w3, w3 = (w2.drewN nq).drew := ⟨_, rfl⟩
  rw [← hw3]
  have hb3 : Below w2.heap.size w2 w3 := by rw [hw3]; exact (below_drewN (Below.refl _ _) nq).drew
  have HP3 := Lib.hid (HP2.out.below hb3)
  have HB3 := Lib.hid (HB2.out.trans (hb3.mono HB2.out.size))
  have hT : w3.cell? ⟨w.heap.size, 2, none⟩ = some (.int .i64 file) := by have := (HX2.out.below hb3).cell 2; simpa using this
  have hS : w3.cell? ⟨w.heap.size, 2, none⟩ = some (.int .i64 file) ∧ w3.cell? ⟨tb, i * 2 + 1, none⟩ = some raw[i].2 := ⟨hT, HP3.out.own.row.get _ _ (cellsT_get1 raw i hir)⟩
  have hlb : w.heap.size < w3.heap.size := (HX2.out.below hb3).lt
  obtain ⟨tv, htv⟩ : ∃ tv, tv = raw[i].2 := ⟨_, rfl⟩
  rw [← htv] at hS ⊢
  have hown : OwnI w3 B tv l[i].tabs := by rw [htv]; exact (HP3.out.own.each i hir hil).2.1
  have hown0 := World.ownsRow.lt hown
  have hold : ∀ g, tv.ownBlock = some g → g < w.heap.size := fun g hg => HL0.out i hir g (by rw [← htv]; exact hg)
  have hnt : tv.ownBlock ≠ some tb := by rw [htv]; exact (HP3.out.own.each i hir hil).2.2
  have hns : tv.ownBlock ≠ some sb := by rw [htv]; exact HP3.out.far i hir
  have hneb : sb ≠ w.heap.size ∧ tb ≠ w.heap.size := by have := HL.out; omega
  have HTV := Lib.hid htv
  clear hw3 hb3 htv
  refine two_takeT 0 (some 61) (v := ?_) rfl rfl (by kernel_rfl) (by kernel_rfl) (by kernel_rfl) (by decide) (fun _ _ _ h => h) (Or.inl ⟨by rfl, ?hy0⟩) hT hS ?_
  case hy0 => (intro w' hT'; go_simp; (try with_reducible rfl))
  try simp only [Act.put, List.setIfInBounds_toArray, List.set_cons_zero, List.set_cons_succ]
  refine two_takeT 1 (some 62) (v := ?_) rfl rfl (by kernel_rfl) (by kernel_rfl) (by kernel_rfl) (by decide) (fun _ _ _ h => h) (Or.inl ⟨by rfl, ?hy1⟩) hT hS ?_
  case hy1 => (intro w' hT'; go_simp; (try with_reducible rfl))
  try simp only [Act.put, List.setIfInBounds_toArray, List.set_cons_zero, List.set_cons_succ]
  refine two_takeT 2 (some 63) (v := ?_) rfl rfl (by kernel_rfl) (by kernel_rfl) (by kernel_rfl) (by decide) (fun _ _ _ h => h) (Or.inl ⟨by rfl, ?hy2⟩) hT hS ?_
  case hy2 => (intro w' hT'; go_simp; (try with_reducible rfl))
  try simp only [Act.put, List.setIfInBounds_toArray, List.set_cons_zero, List.set_cons_succ]
  refine two_takeT 3 (some 64) (v := ?_) rfl rfl (by kernel_rfl) (by kernel_rfl) (by kernel_rfl) (by decide) (fun _ _ _ h => h) (Or.inl ⟨by rfl, ?hy3⟩) hT hS ?_
  case hy3 => (intro w' hT'; go_simp; (try with_reducible rfl))
  try simp only [Act.put, List.setIfInBounds_toArray, List.set_cons_zero, List.set_cons_succ]
  refine two_takeT 4 (some 65) (v := ?_) rfl rfl (by kernel_rfl) (by kernel_rfl) (by kernel_rfl) (by decide) (fun _ _ _ h => h) (Or.inl ⟨by rfl, ?hy4⟩) hT hS ?_
  case hy4 => (intro w' hT'; go_simp; (try with_reducible rfl))
  try simp only [Act.put, List.setIfInBounds_toArray, List.set_cons_zero, List.set_cons_succ]
  refine two_take 5 (some 66) (v := ?_) rfl rfl (by kernel_rfl) (by kernel_rfl) (by kernel_rfl) (by kernel_rfl) (by decide) (by kernel_rfl) (fun _ _ _ h => h) (Or.inl ⟨by rfl, ?hy5⟩) hT hS ?_
  case hy5 => (intro w' hS'; (try unfold S8 at hS'); go_simp; (try with_reducible rfl))
  try simp only [Act.put, List.setIfInBounds_toArray, List.set_cons_zero, List.set_cons_succ]
  refine two_takeT 6 (some 67) (v := ?_) rfl rfl (by kernel_rfl) (by kernel_rfl) (by kernel_rfl) (by decide) (fun _ _ _ h => h) (Or.inl ⟨by rfl, ?hy6⟩) hT hS ?_
  case hy6 => (intro w' hT'; go_simp; (try with_reducible rfl))
  try simp only [Act.put, List.setIfInBounds_toArray, List.set_cons_zero, List.set_cons_succ]
  refine two_takeT 7 (some 68) (v := ?_) rfl rfl (by kernel_rfl) (by kernel_rfl) (by kernel_rfl) (by decide) (fun _ _ _ h => h) (Or.inl ⟨by rfl, ?hy7⟩) hT hS ?_
  case hy7 => (intro w' hT'; go_simp; (try with_reducible rfl))
  try simp only [Act.put, List.setIfInBounds_toArray, List.set_cons_zero, List.set_cons_succ]
  refine two_takeT 10 (some 71) (v := ?_) rfl rfl (by kernel_rfl) (by kernel_rfl) (by kernel_rfl) (by decide) (fun _ _ _ h => h) (Or.inl ⟨by rfl, ?hy10⟩) hT hS ?_
  case hy10 => (intro w' hT'; go_simp; (try with_reducible rfl))
  try simp only [Act.put, List.setIfInBounds_toArray, List.set_cons_zero, List.set_cons_succ]
  refine two_takeT 11 (some 72) (v := ?_) rfl rfl (by kernel_rfl) (by kernel_rfl) (by kernel_rfl) (by decide) (fun _ _ _ h => h) (Or.inl ⟨by rfl, ?hy11⟩) hT hS ?_
  case hy11 => (intro w' hT'; go_simp; (try with_reducible rfl))
  try simp only [Act.put, List.setIfInBounds_toArray, List.set_cons_zero, List.set_cons_succ]
  refine two_takeT 12 (some 73) (v := ?_) rfl rfl (by kernel_rfl) (by kernel_rfl) (by kernel_rfl) (by decide) (fun _ _ _ h => h) (Or.inl ⟨by rfl, ?hy12⟩) hT hS ?_
  case hy12 => (intro w' hT'; go_simp; (try with_reducible rfl))
  try simp only [Act.put, List.setIfInBounds_toArray, List.set_cons_zero, List.set_cons_succ]
  refine two_one 8 rfl (by kernel_rfl) ?_
  intro K hK
  go_simp
  obtain ⟨wA, hwA⟩ : ∃ wA, wA = w3.alloc (.cells #[.int .i64 file] 3 (0, 0)) := ⟨_, rfl⟩
  rw [← hwA]
  have hbA : Below w3.heap.size w3 wA := by rw [hwA]; exact (Below.refl _ _).alloc (Nat.le_refl _) _
  have hBA : Blk wA w3.heap.size 3 #[.int .i64 file] := by rw [hwA]; exact Blk.alloc_new _ _ _
  have hTA : wA.cell? ⟨w.heap.size, 2, none⟩ = some (.int .i64 file) := (hbA.cell (p := ⟨w.heap.size, 2, none⟩) hlb).trans hT
  have htb3 : tb < w3.heap.size := HP3.out.lt.2.2
  have hSA : wA.cell? ⟨w.heap.size, 2, none⟩ = some (.int .i64 file) ∧ wA.cell? ⟨tb, i * 2 + 1, none⟩ = some tv := ⟨hTA, (hbA.cell (p := ⟨tb, i * 2 + 1, none⟩) htb3).trans hS.2⟩
  have hownA := hown.kept hbA
  have hzA : w3.heap.size < wA.heap.size := hBA.lt
  have hB3 : B ≤ w3.heap.size := HP3.out.lt.1
  have htab : l[i].tabs.length ≤ 1000 := HP3.out.tabs i hil
  refine hK.out _ _ hTA (fun _ _ => hSA) ?_
  clear hK K hwA hT hS hown
  try simp only [Act.put, List.setIfInBounds_toArray, List.set_cons_zero, List.set_cons_succ]
  refine two_one 9 rfl (by kernel_rfl) ?_
  intro K hK
  refine step_append_ints rfl (.tmp 66) (.tmp 69) (by rfl) B tv l[i].tabs (by rfl) hownA _ [file] (by rfl) (rdI_one hBA 1) (by simp only [List.length_singleton]; omega) (by omega) ?_
  intro v' wB hoB hgB hvB
  have hcB := chg_of_grown hgB
  have hTB : wB.cell? ⟨w.heap.size, 2, none⟩ = some (.int .i64 file) := (hcB.cell (p := ⟨w.heap.size, 2, none⟩) (by show w.heap.size < _; omega) (fun e => by have := hold _ e; simp at this)).trans hTA
  have hSB : wB.cell? ⟨w.heap.size, 2, none⟩ = some (.int .i64 file) ∧ wB.cell? ⟨tb, i * 2 + 1, none⟩ = some tv := ⟨hTB, (hcB.cell (p := ⟨tb, i * 2 + 1, none⟩) (by show tb < _; omega) hnt).trans hSA.2⟩
  obtain ⟨x1, c1, hv1, _⟩ := hoB.rd.form
  refine hK.out _ _ hTB (fun _ _ => hSB) ?_
  have HC := Lib.hid (show Chg (fun g => tv.ownBlock = some g) w3 wB from (Chg.of_below hbA).trans (hcB.mono fun k hk h => h))
  have HO := Lib.hid hoB
  have hv'n : ∀ g, v'.ownBlock = some g → g ≠ tb ∧ g ≠ sb ∧ g ≠ w.heap.size := fun g hg => by
    rcases hvB with e | e
    · rw [e] at hg
      refine ⟨fun h => hnt (by rw [hg, h]), fun h => hns (by rw [hg, h]), fun h => by have := hold g hg; omega⟩
    · rw [hg] at e
      injection e with e
      have := HP3.out.lt
      omega
  have Hv := Lib.hid hv'n
  obtain ⟨LN, hLN⟩ : ∃ LN, LN = (l[i].tabs ++ [file]).length := ⟨_, rfl⟩
  rw [← hLN] at hv1
  have HLN := Lib.hid hLN
  clear hLN
  have hRB : RowAt wB tb (cellsT raw) := HP3.out.own.row.chg HC.out hnt
  have hBB : Blk wB sb 28 #[.slice (some ⟨tb, 0, none⟩) l.length l.length, .int .i64 log, .int .i64 next] := HP3.out.blk.chg HC.out hns
  clear hK K hoB hgB hvB hcB hTA hSA hownA hbA hBA hzA
  subst hv1
  try simp only [Act.put, List.setIfInBounds_toArray, List.set_cons_zero, List.set_cons_succ]
  have hT := hTB
  have hS := hSB
  clear hTB hSB
  refine two_takeT 13 (some 74) (v := ?_) rfl rfl (by kernel_rfl) (by kernel_rfl) (by kernel_rfl) (by decide) (fun _ _ _ h => h) (Or.inl ⟨by rfl, ?hy13⟩) hT hS ?_
  case hy13 => (intro w' hT'; go_simp; (try with_reducible rfl))
  try simp only [Act.put, List.setIfInBounds_toArray, List.set_cons_zero, List.set_cons_succ]
  refine two_takeT 14 (some 75) (v := ?_) rfl rfl (by kernel_rfl) (by kernel_rfl) (by kernel_rfl) (by decide) (fun _ _ _ h => h) (Or.inl ⟨by rfl, ?hy14⟩) hT hS ?_
  case hy14 => (intro w' hT'; go_simp; (try with_reducible rfl))
  try simp only [Act.put, List.setIfInBounds_toArray, List.set_cons_zero, List.set_cons_succ]
  have c3 := hRB.cell (i * 2 + 1) (by rw [cellsT_length]; omega)
  have f3 := hRB.free (i * 2 + 1) (by rw [cellsT_length]; omega)
  generalize (cellsT raw)[i * 2 + 1]'(by rw [cellsT_length]; omega) = old at c3
  refine two_one 15 rfl (by kernel_rfl) ?_
  intro K hK
  go_simp
  obtain ⟨wC, hwC⟩ : ∃ wC, wC = wB.setCell ⟨tb, i * 2 + 1, none⟩ (.slice x1 LN c1) := ⟨_, rfl⟩
  rw [← hwC]
  have hTC : wC.cell? ⟨w.heap.size, 2, none⟩ = some (.int .i64 file) := by rw [hwC]; exact (World.cell?_setCell_far _ _ _ _ hneb.2).trans hT
  have hRC : RowAt wC tb (cellsT (raw.set i (raw[i].1, .slice x1 LN c1))) := by
    rw [hwC, ← cellsT_set1 raw i hir]
    exact hRB.set (i * 2 + 1) (by rw [cellsT_length]; omega) _
  have hCC : Chg (fun g => g = tb) wB wC := by rw [hwC]; exact Chg.setCell (S := fun g => g = tb) (Chg.refl _ _) (fun _ => rfl) _
  have hne := HP3.out.ne
  have hBC := hBB.chg hCC (by show ¬ sb = tb; exact hne)
  refine hK.out _ _ hTC (fun _ e => absurd rfl e) ?_
  clear hK K hwC hT hS c3 f3 hRB hBB
  try simp only [Act.put, List.setIfInBounds_toArray, List.set_cons_zero, List.set_cons_succ]
  have hT := hTC
  have s2 := hBC.cell 2
  have g2 := hBC.free 2
  simp at s2
  refine two_one 16 rfl (by kernel_rfl) ?_
  intro K hK
  go_simp
  refine hK.out _ _ hT (fun e _ => two_past e (by kernel_rfl)) ?_
  clear hK K
  try simp only [Act.put, List.setIfInBounds_toArray, List.set_cons_zero, List.set_cons_succ]
  refine two_one 17 rfl (by kernel_rfl) ?_
  intro K hK
  go_simp
  refine hK.out _ _ hT (fun e _ => two_past e (by kernel_rfl)) ?_
  clear hK K
  try simp only [Act.put, List.setIfInBounds_toArray, List.set_cons_zero, List.set_cons_succ]
  refine two_one 18 rfl (by kernel_rfl) ?_
  intro K hK
  go_simp
  obtain ⟨wD, hwD⟩ : ∃ wD, wD = wC.setCell ⟨sb, 2, none⟩ (.int .i64 (file + 1)) := ⟨_, rfl⟩
  rw [← hwD]
  have hCD : Chg (fun g => g = sb) wC wD := by rw [hwD]; exact Chg.setCell (S := fun g => g = sb) (Chg.refl _ _) (fun _ => rfl) _
  have hTD : wD.cell? ⟨w.heap.size, 2, none⟩ = some (.int .i64 file) := by rw [hwD]; exact (World.cell?_setCell_far _ _ _ _ hneb.1).trans hT
  have HBD := Lib.hid (show Blk wD sb 28 #[.slice (some ⟨tb, 0, none⟩) l.length l.length, .int .i64 log, .int .i64 (file + 1)] by rw [hwD]; exact hBC.set 2 _)
  refine hK.out _ _ hTD (fun e _ => two_past e (by kernel_rfl)) ?_
  refine two_done (by kernel_rfl) ?_ _
  -- what it reads as
  have hall : Chg (fun g => tv.ownBlock = some g ∨ g = tb ∨ g = sb) w3 wD := ((HC.out.mono fun k _ h => .inl h).trans (hCC.mono fun k _ h => .inr (.inl h))).trans (hCD.mono fun k _ h => .inr (.inr h))
  have hown3 : OwnI w3 B tv l[i].tabs := by rw [HTV.out]; exact (HP3.out.own.each i hir hil).2.1
  have Hfin := Lib.hid (show Chg (fun g => g = sb ∨ B ≤ g) w wD from (Chg.of_below HB3.out).trans (hall.mono fun g _ e => by
    rcases e with e | e | e
    · exact .inr ((World.ownsRow.lt hown3) g e).1
    · exact .inr (by have := HP3.out.own.base; omega)
    · exact .inl e))
  have Hrd := Lib.hid (show RdTB wD B (.slice (some ⟨tb, 0, none⟩) (l.set i ⟨l[i].frm, l[i].tabs ++ [file]⟩).length (l.set i ⟨l[i].frm, l[i].tabs ++ [file]⟩).length) (l.set i ⟨l[i].frm, l[i].tabs ++ [file]⟩) from rdTB_of_row HP3.out.own.base (raw := raw.set i (raw[i].1, .slice x1 LN c1)) (hRC.chg hCD (fun e => hne e.symm)) (by rw [List.length_set, List.length_set, hlr]) fun j hj hj' => by
    rw [List.length_set] at hj hj'
    by_cases e : i = j
    · subst e
      rw [List.getElem_set_self, List.getElem_set_self]
      refine ⟨(HP3.out.own.each i hir hil).1, ?_⟩
      exact ((HO.out.chg hCC fun g hg e => (Hv.out g hg).1 e).chg hCD fun g hg e => (Hv.out g hg).2.1 e).rdu
    · rw [List.getElem_set_ne e, List.getElem_set_ne e]
      obtain ⟨h1, h2, h3⟩ := HP3.out.own.each j hj hj'
      exact ⟨h1, (h2.chg hall fun g hg e2 => by
        rcases e2 with e2 | e2 | e2
        · rw [HTV.out] at e2; exact HP3.out.own.apart i j hir hj g e e2 hg
        · exact h3 (by rw [hg, e2])
        · exact HP3.out.far j hj (by rw [hg, e2])).rdu⟩)
  rw [List.length_set] at Hrd
  clear hK K hwD s2 g2 hT hTC hTD hBC hCC hRC hCD hall hown3
  go_wp2_with fail
  go_ret
  refine ⟨Hfin.out, ?_⟩
  rw [HD.out]
  by_cases hle : next ≤ file
  · rw [if_pos hle, decide_eq_true hle]
    exact ⟨rfl, _, HBD.out, Hrd.out⟩
  · rw [if_neg hle, decide_eq_false hle]
    exact rfl
end Go.Proofs.YtcijhhnbhnaiaaaGreat
