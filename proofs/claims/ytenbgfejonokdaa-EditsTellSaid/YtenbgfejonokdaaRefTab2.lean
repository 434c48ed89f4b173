/- An edit of a tablet, by the document, walked: a table more; what is no edit. -/
import Derived.Test.YtenbgfejonokdaaRefTab1
namespace Go.Proofs.Ytenbgfejonokdaa
set_option linter.unusedSimpArgs false
set_option linter.unusedVariables false
set_option maxRecDepth 100000
open Go.RowKit
attribute [local go_sem ↓] Go.wp_at_zero Go.wp_at_succ

theorem rdTCN_of_row {w : World} {N : Nat → Prop} {tb c : Nat} {raw : List (ByteArray × Value)} {l : List Ed.Tab} (h : RowAt w tb (cellsT raw)) (hN : ¬ N tb) (hl : raw.length = l.length)
    (he : ∀ (j : Nat) (hj : j < raw.length) (hj' : j < l.length), raw[j].1 = l[j].frm ∧ RdN w N raw[j].2 l[j].tabs ∧ CapOk raw[j].2) : RdTCN w N (.slice (some ⟨tb, 0, none⟩) l.length c) l := by
  refine ⟨_, c, rfl, fun j hj => ?_⟩
  have hj' : j < raw.length := by omega
  have hlen := cellsT_length raw
  obtain ⟨h1, h2, h3⟩ := he j hj' hj
  refine ⟨tb, 0, raw[j].2, rfl, hN, h.lt, ?_, ?_, h2, h3⟩
  · rw [Nat.zero_add, ← h1]; exact h.get _ _ (cellsT_get0 raw j hj')
  · rw [Nat.zero_add]; exact h.get _ _ (cellsT_get1 raw j hj')
def setTabs (l : List Ed.Tab) (i : Nat) (new : List Int) : List Ed.Tab := match l[i]? with | some t => l.set i ⟨t.frm, new⟩ | none => l
theorem setTabs_eq {l : List Ed.Tab} {i : Nat} (hi : i < l.length) (new : List Int) : setTabs l i new = l.set i ⟨l[i].frm, new⟩ := by unfold setTabs; rw [List.getElem?_eq_getElem hi]
theorem doesR_table {s : Ed.St} {e : Ed.Edit} {i : Nat} (hk : e.kind = 1) (ha : e.at_ = i) (hi : i < s.l.length) : Ed.doesR s e = if s.next ≤ e.file then some ⟨setTabs s.l i (s.l[i].tabs ++ [e.file]), s.log, e.file + 1⟩ else none := by
  have : e.at_.toNat = i := by omega
  rw [setTabs_eq hi]
  unfold Ed.doesR Ed.doesP
  rw [if_neg (by omega), if_neg (by omega), dif_pos ⟨by omega, by omega⟩, if_pos hk]
  simp only [this]
theorem doesR_swap {s : Ed.St} {e : Ed.Edit} {i : Nat} (hk : e.kind = 2) (ha : e.at_ = i) (hi : i < s.l.length) : ((∀ n ∈ e.files, n < s.next → n ∈ s.l[i].tabs) → Ed.doesR s e = some ⟨setTabs s.l i e.files, s.log, Ed.nextR s.next e.files⟩) ∧ ((¬ ∀ n ∈ e.files, n < s.next → n ∈ s.l[i].tabs) → Ed.doesR s e = none) := by
  have : e.at_.toNat = i := by omega
  rw [setTabs_eq hi]
  unfold Ed.doesR
  rw [if_pos hk, dif_pos ⟨by omega, by omega⟩]
  simp only [this]
  exact ⟨fun h => by rw [if_pos h], fun h => by rw [if_neg h]⟩
theorem doesR_bad {s : Ed.St} {e : Ed.Edit} (h1 : e.kind ≠ 1) (h2 : e.kind ≠ 2) (h3 : e.kind ≠ 3) (h4 : e.kind ≠ 4) (h5 : e.kind ≠ 5) : Ed.doesR s e = none := by
  unfold Ed.doesR Ed.doesP
  rw [if_neg h2, if_neg h5]
  split
  · simp [h1, h2, h3, h4]
  · rfl
/-- Tablet i has another row of tables. -/
theorem RPre.lay {w wC : World} {B sb tb cap : Nat} {raw : List (ByteArray × Value)} {s : Ed.St} {tv0 : Value} {e : Ed.Edit} {fv : Value} {i : Nat} (h : RPre w B sb tb cap raw s tv0 e fv i) {S : Nat → Prop} (x : Chg S w wC)
    (hir : i < raw.length) (hS : ∀ g, S g → g = tb ∨ g = sb ∨ raw[i].2.ownBlock = some g) {v' : Value} {new : List Int} (hrow : RowAt wC tb (cellsT (raw.set i (raw[i].1, v')))) (hv : RdN wC (fun g => g < B) v' new) (hc : CapOk v') (c : Nat) :
    RdTCN wC (fun g => g < B) (.slice (some ⟨tb, 0, none⟩) s.l.length c) (setTabs s.l i new) := by
  rw [setTabs_eq h.il]
  have hlr := h.own.len
  have := rdTCN_of_row (N := fun g => g < B) (c := c) (l := s.l.set i ⟨(s.l[i]'h.il).frm, new⟩) hrow (by have := h.own.base; omega) (by rw [List.length_set, List.length_set, hlr]) fun j hj hj' => by
    rw [List.length_set] at hj hj'
    by_cases e : i = j
    · subst e
      rw [List.getElem_set_self, List.getElem_set_self]
      exact ⟨(h.own.each i hir hj').1, hv, hc⟩
    · rw [List.getElem_set_ne e, List.getElem_set_ne e]
      obtain ⟨h1, h2, h3⟩ := h.own.each j hj hj'
      refine ⟨h1, (h2.chg x fun g hg e2 => ?_).rdn (fun g hg e => by have := ((World.ownsRow.lt h2) g hg).1; omega), h2.cap⟩
      rcases hS g e2 with e3 | e3 | e3
      · exact h3 (by rw [hg, e3])
      · exact h.far j hj (by rw [hg, e3])
      · exact h.own.apart i j hir hj g e e3 hg
  rw [List.length_set] at this
  exact this
set_option maxHeartbeats 8000000 in
theorem tablet_bad {w : World} {B sb tb cap : Nat} {raw : List (ByteArray × Value)} {s : Ed.St} {tv0 : Value} {e : Ed.Edit} {fv : Value} {i : Nat} (h : RPre w B sb tb cap raw s tv0 e fv i) (kk : Int) (hk : e.kind = kk) (h1 : kk ≠ 1) (h2 : kk ≠ 2) (h3 : kk ≠ 3) (h4 : kk ≠ 4) (h5 : kk ≠ 5) :
    Calls Try.prog 99 #[.pointer (some ⟨sb, 0, none⟩), stV tv0 s.log s.next, edV e fv] w (RTPost w B sb (Ed.doesR s e)) := by
  have HH := Lib.hid h
  obtain ⟨w1, hw1⟩ : ∃ w1, w1 = (w.alloc (.cells #[tv0, .int .i64 s.log, .int .i64 s.next] 67 (0, 0))).alloc (.cells #[.int .i64 e.kind, .int .i64 e.at_, .int .i64 e.file, fv, .string e.key] 74 (0, 0)) := ⟨_, rfl⟩
  obtain ⟨k1, k2, kb⟩ := two_allocs w _ _ _ _ w1 hw1
  have hp := h.below kb
  have hlt := h.lt
  obtain ⟨x0, c0, htv0, hel0⟩ := h.rd
  obtain ⟨b0, o0, ov, rfl, hb0, _, d0, d1, hov, hovc⟩ := hel0 i h.il
  obtain ⟨ot, hot⟩ : ∃ ot, ∀ h2 : i < s.l.length, s.l[i].tabs = ot := ⟨(s.l[i]'h.il).tabs, fun _ => rfl⟩
  rw [hot] at hov
  have HOT := Lib.hid hot
  have HTL := Lib.hid (show ot.length ≤ 128 by rw [← hot h.il]; exact (h.valid.each i h.il).2.2.2)
  have hat := h.at_
  have hil := h.il
  have hfew := h.valid.few
  have hcapl := h.capl
  have hcapm := h.capm
  obtain ⟨R, hR⟩ : ∃ R, R = Ed.doesR s e := ⟨_, rfl⟩
  rw [← hR]
  have HR := Lib.hid hR
  obtain ⟨l, log, next⟩ := s
  obtain ⟨kind, at_, file, files, key⟩ := e
  simp only at hw1 k1 k2 hat hil hfew hk d1 hov htv0 hcapl HR hR
  subst hat hk
  obtain ⟨n, hn⟩ : ∃ n, n = l.length := ⟨_, rfl⟩
  rw [← hn] at hil htv0 hcapl hfew
  subst htv0
  have HN := Lib.hid hn

  have e5 := (kb.cell (p := ⟨b0, o0 + i * 2 + 1, none⟩) (Nat.lt_of_lt_of_le hb0 hlt.1)).trans d1
  have HOV := Lib.hid ((RdIB.rd hov).below kb)
  have HOC := Lib.hid hovc
  have HOVB := Lib.hid (RdIB.below hov kb)
  obtain ⟨ox, on, oc, hovv, _⟩ := hovc
  subst hovv
  obtain ⟨a0, a1, a2, _⟩ := blk3 k1
  obtain ⟨e0, e1, e2, e3, e4⟩ := blk5 k2
  obtain ⟨s0, s1, s2, sf0, sf1, sf2⟩ := blk3 hp.blk
  simp only at s0 s1 s2
  rw [← hn] at s0
  have HW := Lib.hid hw1
  have HP := Lib.hid hp
  have HB := Lib.hid kb
  have HK1 := Lib.hid k1
  have HK2 := Lib.hid k2
  have HLT := Lib.hid hlt
  obtain ⟨fx, fc, rfl, _⟩ := h.files.rd.form
  obtain ⟨p, hpp⟩ : ∃ p, p = w.heap.size := ⟨_, rfl⟩
  have HPP := Lib.hid hpp
  have hi0 : (0 : Int) ≤ i := by omega
  have hi1 : (i : Int) < n := by omega
  rw [hw1] at a0 a1 a2 e0 e1 e2 e3 e4 e5 s0 s1 s2 sf0 sf1 sf2
  unfold stV edV
  try dsimp only
  clear h hp hlt hel0 hb0 hot d0 d1 hov hR hn kb k1 k2 hw1 hpp
  go_enter Try.func99, Try.ntmps99
  have HD := Lib.hid (show R = none by rw [HR.out]; exact doesR_bad h1 h2 h3 h4 h5)
  clear HR
  go_wp2_with fail
  rw [← HW.out]
  go_ret
  refine ⟨HB.out.mono HLT.out.1, ?_⟩
  rw [HD.out]
  exact rfl
set_option maxHeartbeats 8000000 in
theorem tablet_table {w : World} {B sb tb cap : Nat} {raw : List (ByteArray × Value)} {s : Ed.St} {tv0 : Value} {e : Ed.Edit} {fv : Value} {i : Nat} (h : RPre w B sb tb cap raw s tv0 e fv i) (hk : e.kind = 1) :
    Calls Try.prog 99 #[.pointer (some ⟨sb, 0, none⟩), stV tv0 s.log s.next, edV e fv] w (RTPost w B sb (Ed.doesR s e)) := by
  have hf := h.file
  have HOLD := Lib.hid h.old
  have HH := Lib.hid h
  obtain ⟨w1, hw1⟩ : ∃ w1, w1 = (w.alloc (.cells #[tv0, .int .i64 s.log, .int .i64 s.next] 67 (0, 0))).alloc (.cells #[.int .i64 e.kind, .int .i64 e.at_, .int .i64 e.file, fv, .string e.key] 74 (0, 0)) := ⟨_, rfl⟩
  obtain ⟨k1, k2, kb⟩ := two_allocs w _ _ _ _ w1 hw1
  have hp := h.below kb
  have hlt := h.lt
  obtain ⟨x0, c0, htv0, hel0⟩ := h.rd
  obtain ⟨b0, o0, ov, rfl, hb0, _, d0, d1, hov, hovc⟩ := hel0 i h.il
  obtain ⟨ot, hot⟩ : ∃ ot, ∀ h2 : i < s.l.length, s.l[i].tabs = ot := ⟨(s.l[i]'h.il).tabs, fun _ => rfl⟩
  rw [hot] at hov
  have HOT := Lib.hid hot
  have HTL := Lib.hid (show ot.length ≤ 128 by rw [← hot h.il]; exact (h.valid.each i h.il).2.2.2)
  have hat := h.at_
  have hil := h.il
  have hfew := h.valid.few
  have hcapl := h.capl
  have hcapm := h.capm
  obtain ⟨R, hR⟩ : ∃ R, R = Ed.doesR s e := ⟨_, rfl⟩
  rw [← hR]
  have HR := Lib.hid hR
  obtain ⟨l, log, next⟩ := s
  obtain ⟨kind, at_, file, files, key⟩ := e
  simp only at hw1 k1 k2 hat hil hfew hk d1 hov htv0 hcapl HR hR
  subst hat hk
  obtain ⟨n, hn⟩ : ∃ n, n = l.length := ⟨_, rfl⟩
  rw [← hn] at hil htv0 hcapl hfew
  subst htv0
  have HN := Lib.hid hn

  have e5 := (kb.cell (p := ⟨b0, o0 + i * 2 + 1, none⟩) (Nat.lt_of_lt_of_le hb0 hlt.1)).trans d1
  have HOV := Lib.hid ((RdIB.rd hov).below kb)
  have HOC := Lib.hid hovc
  have HOVB := Lib.hid (RdIB.below hov kb)
  obtain ⟨ox, on, oc, hovv, _⟩ := hovc
  subst hovv
  obtain ⟨a0, a1, a2, _⟩ := blk3 k1
  obtain ⟨e0, e1, e2, e3, e4⟩ := blk5 k2
  obtain ⟨s0, s1, s2, sf0, sf1, sf2⟩ := blk3 hp.blk
  simp only at s0 s1 s2
  rw [← hn] at s0
  have HW := Lib.hid hw1
  have HP := Lib.hid hp
  have HB := Lib.hid kb
  have HK1 := Lib.hid k1
  have HK2 := Lib.hid k2
  have HLT := Lib.hid hlt
  obtain ⟨fx, fc, rfl, _⟩ := h.files.rd.form
  obtain ⟨p, hpp⟩ : ∃ p, p = w.heap.size := ⟨_, rfl⟩
  have HPP := Lib.hid hpp
  have hi0 : (0 : Int) ≤ i := by omega
  have hi1 : (i : Int) < n := by omega
  rw [hw1] at a0 a1 a2 e0 e1 e2 e3 e4 e5 s0 s1 s2 sf0 sf1 sf2
  unfold stV edV
  try dsimp only
  clear h hp hlt hel0 hb0 hot d0 d1 hov hR hn kb k1 k2 hw1 hpp
  go_enter Try.func99, Try.ntmps99
  simp only at hf
  have HD := Lib.hid (show R = if next ≤ file then some ⟨setTabs l i (ot ++ [file]), log, file + 1⟩ else none by
    rw [HR.out, doesR_table (i := i) rfl rfl (by show i < l.length; rw [← HN.out]; exact hil)]
    simp only [HOT.out])
  clear HR
  go_wp2_with fail
  rw [← HW.out] at s0 s1 s2 sf0 sf1 sf2 a0 a1 a2 e1 e2 e3 e4 ⊢
  have hlr : raw.length = l.length := HP.out.own.len
  have hln : l.length = n := HN.out.symm
  have hir : i < raw.length := by omega
  have hil2 : i < l.length := by omega
  have hown := (HP.out.own.each i hir hil2).2.1
  rw [HOT.out hil2] at hown
  have hrow := HP.out.own.row.get _ _ (cellsT_get1 raw i hir)
  have hrf := HP.out.own.row.free (i * 2 + 1) (by rw [cellsT_length]; omega)
  have HLT1 := Lib.hid HP.out.lt
  have HFAR := Lib.hid (show raw[i].2.ownBlock ≠ some sb from HP.out.far i hir)
  have HNTB := Lib.hid (show raw[i].2.ownBlock ≠ some tb from (HP.out.own.each i hir hil2).2.2)
  have hold2 := HK2.out.lt
  have hnp := fun g (hg : raw[i].2.ownBlock = some g) => HOLD.out i hir g hg
  obtain ⟨rv, hrv⟩ : ∃ rv, rv = raw[i].2 := ⟨_, rfl⟩
  have HLAY := Lib.hid (fun (wC : World) (S : Nat → Prop) (x : Chg S w1 wC) (hS : ∀ g, S g → g = tb ∨ g = sb ∨ raw[i].2.ownBlock = some g) (v' : Value) (new : List Int) (hrow : RowAt wC tb (cellsT (raw.set i (raw[i].1, v')))) (hv : RdN wC (fun g => g < B) v' new) (hc : CapOk v') => HP.out.lay x hir hS hrow hv hc cap)
  rw [← hrv] at hown hrow HFAR HNTB HLAY hnp
  have HRV := Lib.hid hrv
  obtain ⟨rx, rc, hrvf, _⟩ := hown.rd.form
  obtain ⟨rn, hrn⟩ : ∃ rn, rn = ot.length := ⟨_, rfl⟩
  rw [← hrn] at hrvf
  subst hrvf
  have HRN := Lib.hid hrn
  have HNP := Lib.hid hnp
  refine wp_region_two (T := fun W => T8 w.heap.size i file (.slice fx files.length fc) key W ∧ W.cell? ⟨sb, 0, none⟩ = some (.slice (some ⟨tb, 0, none⟩) n cap)) (S := fun W => W.cell? ⟨tb, i * 2 + 1, none⟩ = some (.slice rx rn rc)) (n := 21) (by kernel_rfl) ?_
  obtain ⟨x0, hx0⟩ : ∃ x0, x0 = w1.drew := ⟨_, rfl⟩
  rw [← hx0]
  have hb0 : Below w1.heap.size w1 x0 := by rw [hx0]; exact (Below.refl _ _).drew
  have hl1 := HP.out.lt
  have hT : T8 w.heap.size i file (.slice fx files.length fc) key x0 ∧ x0.cell? ⟨sb, 0, none⟩ = some (.slice (some ⟨tb, 0, none⟩) n cap) := ⟨T8.below ⟨e1, e2, e3, e4⟩ hb0 hold2, (hb0.cell (p := ⟨sb, 0, none⟩) hl1.2.1).trans s0⟩
  have hS : x0.cell? ⟨tb, i * 2 + 1, none⟩ = some (.slice rx rn rc) := (hb0.cell (p := ⟨tb, _, none⟩) hl1.2.2.1).trans hrow
  have HB0 := Lib.hid hb0
  have HOW := Lib.hid (hown.kept hb0)
  have hz0 := hb0.size
  clear s0 s1 s2 sf0 sf1 sf2 a0 a1 a2 e0 e1 e2 e3 e4 e5 hx0 hb0 hrow hown hrn hrv hnp
  refine two_takeT 0 (some 23) (v := ?_) rfl rfl (by kernel_rfl) (by kernel_rfl) (by kernel_rfl) (by decide) (fun _ _ _ h => h) (Or.inl ⟨by rfl, ?hy0⟩) hT hS ?_
  case hy0 => (intro w' hT'; (try unfold T8 at hT'); go_simp; (try with_reducible rfl))
  try simp only [Act.put, List.setIfInBounds_toArray, List.set_cons_zero, List.set_cons_succ]
  refine two_takeT 1 (some 24) (v := ?_) rfl rfl (by kernel_rfl) (by kernel_rfl) (by kernel_rfl) (by decide) (fun _ _ _ h => h) (Or.inl ⟨by rfl, ?hy1⟩) hT hS ?_
  case hy1 => (intro w' hT'; (try unfold T8 at hT'); go_simp; (try with_reducible rfl))
  try simp only [Act.put, List.setIfInBounds_toArray, List.set_cons_zero, List.set_cons_succ]
  refine two_takeT 2 (some 25) (v := ?_) rfl rfl (by kernel_rfl) (by kernel_rfl) (by kernel_rfl) (by decide) (fun _ _ _ h => h) (Or.inl ⟨by rfl, ?hy2⟩) hT hS ?_
  case hy2 => (intro w' hT'; (try unfold T8 at hT'); go_simp; (try with_reducible rfl))
  try simp only [Act.put, List.setIfInBounds_toArray, List.set_cons_zero, List.set_cons_succ]
  refine two_takeT 3 (some 26) (v := ?_) rfl rfl (by kernel_rfl) (by kernel_rfl) (by kernel_rfl) (by decide) (fun _ _ _ h => h) (Or.inl ⟨by rfl, ?hy3⟩) hT hS ?_
  case hy3 => (intro w' hT'; (try unfold T8 at hT'); go_simp; (try with_reducible rfl))
  try simp only [Act.put, List.setIfInBounds_toArray, List.set_cons_zero, List.set_cons_succ]
  refine two_takeT 4 (some 27) (v := ?_) rfl rfl (by kernel_rfl) (by kernel_rfl) (by kernel_rfl) (by decide) (fun _ _ _ h => h) (Or.inl ⟨by rfl, ?hy4⟩) hT hS ?_
  case hy4 => (intro w' hT'; (try unfold T8 at hT'); go_simp; (try with_reducible rfl))
  try simp only [Act.put, List.setIfInBounds_toArray, List.set_cons_zero, List.set_cons_succ]
  refine two_takeT 5 (some 28) (v := ?_) rfl rfl (by kernel_rfl) (by kernel_rfl) (by kernel_rfl) (by decide) (fun _ _ _ h => h) (Or.inl ⟨by rfl, ?hy5⟩) hT hS ?_
  case hy5 => (intro w' hT'; (try unfold T8 at hT'); go_simp; (try with_reducible rfl))
  try simp only [Act.put, List.setIfInBounds_toArray, List.set_cons_zero, List.set_cons_succ]
  refine two_takeT 6 (some 29) (v := ?_) rfl rfl (by kernel_rfl) (by kernel_rfl) (by kernel_rfl) (by decide) (fun _ _ _ h => h) (Or.inl ⟨by rfl, ?hy6⟩) hT hS ?_
  case hy6 => (intro w' hT'; (try unfold T8 at hT'); go_simp; (try with_reducible rfl))
  try simp only [Act.put, List.setIfInBounds_toArray, List.set_cons_zero, List.set_cons_succ]
  refine two_takeT 7 (some 30) (v := ?_) rfl rfl (by kernel_rfl) (by kernel_rfl) (by kernel_rfl) (by decide) (fun _ _ _ h => h) (Or.inl ⟨by rfl, ?hy7⟩) hT hS ?_
  case hy7 => (intro w' hT'; (try unfold T8 at hT'); go_simp; (try with_reducible rfl))
  try simp only [Act.put, List.setIfInBounds_toArray, List.set_cons_zero, List.set_cons_succ]
  refine two_takeT 8 (some 31) (v := ?_) rfl rfl (by kernel_rfl) (by kernel_rfl) (by kernel_rfl) (by decide) (fun _ _ _ h => h) (Or.inl ⟨by rfl, ?hy8⟩) hT hS ?_
  case hy8 => (intro w' hT'; (try unfold T8 at hT'); go_simp; (try with_reducible rfl))
  try simp only [Act.put, List.setIfInBounds_toArray, List.set_cons_zero, List.set_cons_succ]
  refine two_takeT 9 (some 32) (v := ?_) rfl rfl (by kernel_rfl) (by kernel_rfl) (by kernel_rfl) (by decide) (fun _ _ _ h => h) (Or.inl ⟨by rfl, ?hy9⟩) hT hS ?_
  case hy9 => (intro w' hT'; (try unfold T8 at hT'); go_simp; (try with_reducible rfl))
  try simp only [Act.put, List.setIfInBounds_toArray, List.set_cons_zero, List.set_cons_succ]
  refine two_takeT 10 (some 33) (v := ?_) rfl rfl (by kernel_rfl) (by kernel_rfl) (by kernel_rfl) (by decide) (fun _ _ _ h => h) (Or.inl ⟨by rfl, ?hy10⟩) hT hS ?_
  case hy10 => (intro w' hT'; (try unfold T8 at hT'); go_simp; (try with_reducible rfl))
  try simp only [Act.put, List.setIfInBounds_toArray, List.set_cons_zero, List.set_cons_succ]
  refine two_takeT 11 (some 34) (v := ?_) rfl rfl (by kernel_rfl) (by kernel_rfl) (by kernel_rfl) (by decide) (fun _ _ _ h => h) (Or.inl ⟨by rfl, ?hy11⟩) hT hS ?_
  case hy11 => (intro w' hT'; (try unfold T8 at hT'); go_simp; (try with_reducible rfl))
  try simp only [Act.put, List.setIfInBounds_toArray, List.set_cons_zero, List.set_cons_succ]
  refine two_takeT 12 (some 35) (v := ?_) rfl rfl (by kernel_rfl) (by kernel_rfl) (by kernel_rfl) (by decide) (fun _ _ _ h => h) (Or.inl ⟨by rfl, ?hy12⟩) hT hS ?_
  case hy12 => (intro w' hT'; (try unfold T8 at hT'); go_simp; (try with_reducible rfl))
  try simp only [Act.put, List.setIfInBounds_toArray, List.set_cons_zero, List.set_cons_succ]
  refine two_takeT 13 (some 36) (v := ?_) rfl rfl (by kernel_rfl) (by kernel_rfl) (by kernel_rfl) (by decide) (fun _ _ _ h => h) (Or.inl ⟨by rfl, ?hy13⟩) hT hS ?_
  case hy13 => (intro w' hT'; (try unfold T8 at hT'); go_simp; (try with_reducible rfl))
  try simp only [Act.put, List.setIfInBounds_toArray, List.set_cons_zero, List.set_cons_succ]
  refine two_take 14 (some 37) (v := ?_) rfl rfl (by kernel_rfl) (by kernel_rfl) (by kernel_rfl) (by kernel_rfl) (by decide) (by kernel_rfl) (fun _ _ _ h => h) (Or.inl ⟨by rfl, ?hy14⟩) hT hS ?_
  case hy14 => (intro w' hS'; (try unfold S8 at hS'); (try unfold T8 at hS'); go_simp; (try with_reducible rfl))
  try simp only [Act.put, List.setIfInBounds_toArray, List.set_cons_zero, List.set_cons_succ]
  refine two_takeT 15 (some 38) (v := ?_) rfl rfl (by kernel_rfl) (by kernel_rfl) (by kernel_rfl) (by decide) (fun _ _ _ h => h) (Or.inl ⟨by rfl, ?hy15⟩) hT hS ?_
  case hy15 => (intro w' hT'; (try unfold T8 at hT'); go_simp; (try with_reducible rfl))
  try simp only [Act.put, List.setIfInBounds_toArray, List.set_cons_zero, List.set_cons_succ]
  refine two_takeT 16 (some 39) (v := ?_) rfl rfl (by kernel_rfl) (by kernel_rfl) (by kernel_rfl) (by decide) (fun _ _ _ h => h) (Or.inl ⟨by rfl, ?hy16⟩) hT hS ?_
  case hy16 => (intro w' hT'; (try unfold T8 at hT'); go_simp; (try with_reducible rfl))
  try simp only [Act.put, List.setIfInBounds_toArray, List.set_cons_zero, List.set_cons_succ]
  refine two_one 17 rfl (by kernel_rfl) ?_
  intro K hK
  go_simp
  obtain ⟨x1, hx1⟩ : ∃ x1, x1 = x0.alloc (.cells #[.int .i64 file] 3 (0, 0)) := ⟨_, rfl⟩
  rw [← hx1]
  have hb1 : Below x0.heap.size x0 x1 := by rw [hx1]; exact (Below.refl _ _).alloc (Nat.le_refl _) _
  have hB1 : Blk x1 x0.heap.size 3 #[.int .i64 file] := by rw [hx1]; exact Blk.alloc_new _ _ _
  have hT1 : T8 w.heap.size i file (.slice fx files.length fc) key x1 ∧ x1.cell? ⟨sb, 0, none⟩ = some (.slice (some ⟨tb, 0, none⟩) n cap) := ⟨hT.1.below hb1 (by omega), (hb1.cell (p := ⟨sb, 0, none⟩) (by show sb < _; omega)).trans hT.2⟩
  have hS1 : x1.cell? ⟨tb, i * 2 + 1, none⟩ = some (.slice rx rn rc) := (hb1.cell (p := ⟨tb, _, none⟩) (by show tb < _; omega)).trans hS
  refine hK.out _ _ hT1 (fun _ _ => hS1) ?_
  have HB1 := Lib.hid (HB0.out.trans (hb1.mono HB0.out.size))
  have HBL := Lib.hid hB1
  have HOW1 := Lib.hid (HOW.out.kept hb1)
  have hz1 := hb1.size
  clear hK K hT hS hx1 hb1 hB1
  have hT := hT1
  have hS := hS1
  clear hT1 hS1
  try simp only [Act.put, List.setIfInBounds_toArray, List.set_cons_zero, List.set_cons_succ]
  refine two_one 18 rfl (by kernel_rfl) ?_
  intro K hK
  refine step_append_ints rfl (.tmp 37) (.tmp 40) (by rfl) B (.slice rx rn rc) ot (by rfl) HOW1.out _ [file] (by rfl) (rdI_one HBL.out 1) (by have := HTL.out; simp only [List.length_singleton]; omega) (by omega) ?_
  intro u2 x2 ho2 hg2 hv2
  obtain ⟨ux, uc, hu2, _⟩ := ho2.rd.form
  obtain ⟨un, hun⟩ : ∃ un, un = (ot ++ [file]).length := ⟨_, rfl⟩
  rw [← hun] at hu2
  subst hu2
  have hC2 := chg_of_grown hg2
  have hT1 : T8 w.heap.size i file (.slice fx files.length fc) key x2 ∧ x2.cell? ⟨sb, 0, none⟩ = some (.slice (some ⟨tb, 0, none⟩) n cap) := ⟨hT.1.chg hC2 (by omega) (fun e => by have := (HNP.out _ e).2; omega), (hC2.cell (p := ⟨sb, 0, none⟩) (by show sb < _; omega) HFAR.out).trans hT.2⟩
  have hS1 : x2.cell? ⟨tb, i * 2 + 1, none⟩ = some (.slice rx rn rc) := (hC2.cell (p := ⟨tb, _, none⟩) (by show tb < _; omega) HNTB.out).trans hS
  refine hK.out _ _ hT1 (fun _ _ => hS1) ?_
  have HC2 := Lib.hid (show Chg (fun g => (Value.slice rx rn rc).ownBlock = some g) w1 x2 from (Chg.of_below HB1.out).trans (hC2.mono fun k _ h => h))
  have HO2 := Lib.hid ho2
  have HVN := Lib.hid (show ∀ g, (Value.slice ux un uc).ownBlock = some g → g ≠ tb ∧ g ≠ sb from fun g hg => by
    rcases hv2 with e | e
    · rw [e] at hg
      exact ⟨fun h => HNTB.out (by rw [hg, h]), fun h => HFAR.out (by rw [hg, h])⟩
    · rw [hg] at e
      injection e with e
      omega)
  have hz2 := hC2.size
  clear hK K hT hS ho2 hg2 hv2 hun hC2
  have hT := hT1
  have hS := hS1
  clear hT1 hS1
  try simp only [Act.put, List.setIfInBounds_toArray, List.set_cons_zero, List.set_cons_succ]
  refine two_takeT 19 (some 42) (v := ?_) rfl rfl (by kernel_rfl) (by kernel_rfl) (by kernel_rfl) (by decide) (fun _ _ _ h => h) (Or.inl ⟨by rfl, ?hy19⟩) hT hS ?_
  case hy19 => (intro w' hT'; (try unfold T8 at hT'); go_simp; (try with_reducible rfl))
  try simp only [Act.put, List.setIfInBounds_toArray, List.set_cons_zero, List.set_cons_succ]
  refine two_takeT 20 (some 43) (v := ?_) rfl rfl (by kernel_rfl) (by kernel_rfl) (by kernel_rfl) (by decide) (fun _ _ _ h => h) (Or.inl ⟨by rfl, ?hy20⟩) hT hS ?_
  case hy20 => (intro w' hT'; (try unfold T8 at hT'); go_simp; (try with_reducible rfl))
  try simp only [Act.put, List.setIfInBounds_toArray, List.set_cons_zero, List.set_cons_succ]
  have hR2 : RowAt x2 tb (cellsT raw) := HP.out.own.row.chg HC2.out HNTB.out
  have hB2 : Blk x2 sb 67 #[.slice (some ⟨tb, 0, none⟩) l.length cap, .int .i64 log, .int .i64 next] := HP.out.blk.chg HC2.out HFAR.out
  have hBK : Blk x2 w.heap.size 67 #[.slice (some ⟨b0, o0, none⟩) n c0, .int .i64 log, .int .i64 next] := HK1.out.chg HC2.out (fun e => by have := (HNP.out _ e).2; omega)
  have c3 := hR2.cell (i * 2 + 1) (by rw [cellsT_length]; omega)
  have f3 := hR2.free (i * 2 + 1) (by rw [cellsT_length]; omega)
  generalize (cellsT raw)[i * 2 + 1]'(by rw [cellsT_length]; omega) = old at c3
  refine two_one 21 rfl (by kernel_rfl) ?_
  intro K hK
  go_simp
  obtain ⟨x3, hx3⟩ : ∃ x3, x3 = x2.setCell ⟨tb, i * 2 + 1, none⟩ (.slice ux un uc) := ⟨_, rfl⟩
  rw [← hx3]
  have hR3 : RowAt x3 tb (cellsT (raw.set i (raw[i].1, .slice ux un uc))) := by
    rw [hx3, ← cellsT_set1 raw i hir]
    exact hR2.set (i * 2 + 1) (by rw [cellsT_length]; omega) _
  have hC3 : Chg (fun g => g = tb) x2 x3 := by rw [hx3]; exact Chg.setCell (S := fun g => g = tb) (Chg.refl _ _) (fun _ => rfl) _
  have hne : ¬ sb = tb := hl1.2.2.2.2.2
  have hB3 := hB2.chg hC3 hne
  have hBK3 := hBK.chg hC3 (by have := HLT.out; omega)
  have hT1 : T8 w.heap.size i file (.slice fx files.length fc) key x3 ∧ x3.cell? ⟨sb, 0, none⟩ = some (.slice (some ⟨tb, 0, none⟩) n cap) := ⟨hT.1.chg hC3 (by omega) (by have := HLT.out; omega), (hC3.cell (p := ⟨sb, 0, none⟩) (by show sb < _; omega) hne).trans hT.2⟩
  refine hK.out _ _ hT1 (fun _ e => absurd rfl e) ?_
  refine two_done (by kernel_rfl) ?_ _
  obtain ⟨e1, e2, e3, e4⟩ := hT1.1
  obtain ⟨s0, s1, s2, sf0, sf1, sf2⟩ := blk3 hB3
  obtain ⟨a0, a1, a2, _⟩ := blk3 hBK3
  have HC3 := Lib.hid hC3
  have HR3 := Lib.hid hR3
  have HB3 := Lib.hid hB3
  have hz3 := hC3.size
  have hw2 : IntKind.i64.wrap (file + 1) = file + 1 := by rw [IntKind.wrap_i64]; omega
  have hsp : sb ≠ w.heap.size := by have := HLT.out; omega
  have hsp2 : sb ≠ w.heap.size + 1 := by have := HLT.out; omega
  clear hK K hT hS hT1 hx3 hR2 hB2 hBK c3 f3 hR3 hC3 hB3 hBK3
  go_wp2_with fail
  obtain ⟨x4, hx4⟩ : ∃ x4, x4 = x3.setCell ⟨sb, 2, none⟩ (.int .i64 (file + 1)) := ⟨_, rfl⟩
  rw [← hx4]
  have hC4 : Chg (fun g => g = sb) x3 x4 := by rw [hx4]; exact (Chg.refl _ _).setCell (S := fun g => g = sb) (fun _ => rfl) _
  have HB4 := Lib.hid (show Blk x4 sb 67 #[.slice (some ⟨tb, 0, none⟩) l.length cap, .int .i64 log, .int .i64 (file + 1)] by rw [hx4]; exact HB3.out.set 2 _)
  have HALL := Lib.hid (show Chg (fun g => g = tb ∨ g = sb ∨ (Value.slice rx rn rc).ownBlock = some g) w1 x4 from ((HC2.out.mono fun k _ h => .inr (.inr h)).trans (HC3.out.mono fun k _ h => .inl h)).trans (hC4.mono fun k _ h => .inr (.inl h)))
  have HRD := Lib.hid (HLAY.out x4 _ HALL.out (fun g h => h) (.slice ux un uc) (ot ++ [file]) (HR3.out.chg hC4 (fun e => hne e.symm)) (((HO2.out.chg HC3.out (fun g hg => (HVN.out g hg).1)).chg hC4 (fun g hg => (HVN.out g hg).2)).rdn (fun g hg e => by have := ((World.ownsRow.lt HO2.out) g hg).1; omega)) HO2.out.cap)
  have HBF := Lib.hid (show Below B w x4 from (HB.out.mono HLT.out.1).trans (HALL.out.below (by have := HLT.out.1; have := HB.out.size; omega) (fun g hg e => by
    rcases e with e | e | e
    · omega
    · omega
    · have := (HNP.out _ e).1; omega)))
  go_ret
  refine ⟨HBF.out, ?_⟩
  rw [HD.out]
  by_cases hle : next ≤ file
  · rw [if_pos hle, decide_eq_true hle]
    exact ⟨rfl, _, HB4.out, HRD.out⟩
  · rw [if_neg hle, decide_eq_false hle]
    exact rfl
end Go.Proofs.Ytenbgfejonokdaa
