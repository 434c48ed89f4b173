/- The state behind an edit, walked. -/
import Derived.Test.YtcijhhnbhnaiaaaGreatEdMerge
import Derived.Test.YtcijhhnbhnaiaaaGreatEdCheck
namespace Go.Proofs.YtcijhhnbhnaiaaaGreat
set_option linter.unusedSimpArgs false
set_option linter.unusedVariables false
set_option maxRecDepth 100000
open Go.RowKit

theorem OwnT.weak {w : World} {B B' tb : Nat} {raw : List (ByteArray × Value)} {l : List Ed.Tab} (h : OwnT w B tb raw l) (hB : B' ≤ B) : OwnT w B' tb raw l :=
  ⟨Nat.le_trans hB h.base, h.row, h.len, fun j hj hj' => ⟨(h.each j hj hj').1, (h.each j hj hj').2.1.base hB, (h.each j hj hj').2.2⟩, h.apart⟩
theorem OwnT.chg {w w' : World} {B tb : Nat} {raw : List (ByteArray × Value)} {l : List Ed.Tab} {S : Nat → Prop} (h : OwnT w B tb raw l) (x : Chg S w w') (hS : ∀ g, S g → g < B) : OwnT w' B tb raw l :=
  ⟨h.base, h.row.chg x (fun e => by have := hS _ e; have := h.base; omega), h.len, fun j hj hj' => ⟨(h.each j hj hj').1, (h.each j hj hj').2.1.chg x (fun g hg e => by
    have := hS _ e
    have := ((World.ownsRow.lt (h.each j hj hj').2.1) g hg).1
    omega), (h.each j hj hj').2.2⟩, h.apart⟩
theorem RdIB.more {w : World} {B B' : Nat} {v : Value} {l : List Int} (h : RdIB w B v l) (hB : B ≤ B') : RdIB w B' v l := by
  rcases h with h | ⟨b, off, c, h1, h2, h3⟩
  · exact .inl h
  · exact .inr ⟨b, off, c, h1, Nat.lt_of_lt_of_le h2 hB, h3⟩
theorem RdIU.weak {w : World} {B B' : Nat} {v : Value} {l : List Int} (h : RdIU w B v l) (hB : B' ≤ B) : RdIU w B' v l := by
  rcases h with h | ⟨b, off, c, h1, h2, h3⟩
  · exact .inl h
  · exact .inr ⟨b, off, c, h1, Nat.le_trans hB h2, h3⟩
theorem RdTB.weak {w : World} {B B' : Nat} {v : Value} {l : List Ed.Tab} (h : RdTB w B v l) (hB : B' ≤ B) : RdTB w B' v l := by
  obtain ⟨x, c, e, h⟩ := h
  refine ⟨x, c, e, fun j hj => ?_⟩
  obtain ⟨b, off, tv, h1, h2, h3, h4, h5, h6⟩ := h j hj
  exact ⟨b, off, tv, h1, Nat.le_trans hB h2, h3, h4, h5, h6.weak hB⟩
theorem OwnT.rdb {w : World} {B tb : Nat} {raw : List (ByteArray × Value)} {l : List Ed.Tab} (h : OwnT w B tb raw l) (c : Nat) : RdTB w B (.slice (some ⟨tb, 0, none⟩) l.length c) l :=
  rdTB_of_row h.base h.row h.len fun j hj hj' => ⟨(h.each j hj hj').1, (h.each j hj hj').2.1.rdu⟩
theorem valid_fits {s : Ed.St} (h : Ed.Valid s) : Fits s.l :=
  ⟨by have := h.few; unfold maxLen; omega, fun j hj => by have := h.each j hj; unfold maxLen; omega⟩
theorem fits_mem {l : List Ed.Tab} (hl : l.length ≤ maxLen) (h : ∀ t ∈ l, t.frm.size ≤ maxLen ∧ t.tabs.length ≤ maxLen) : Fits l := ⟨hl, fun j hj => h _ (List.getElem_mem hj)⟩
theorem doesP_fits {s s' : Ed.St} {e : Ed.Edit} (h : Ed.Valid s) (hf : e.files.length ≤ 1000) (hk : e.key.size ≤ maxLen) (hd : Ed.doesP s e = some s') : Fits s'.l := by
  have hfew := h.few
  have hm : ∀ t ∈ s.l, t.frm.size ≤ maxLen ∧ t.tabs.length ≤ 128 := fun t ht => by
    obtain ⟨j, hj, rfl⟩ := List.mem_iff_getElem.1 ht
    have := h.each j hj
    unfold maxLen; omega
  have hm' : ∀ t ∈ s.l, t.frm.size ≤ maxLen ∧ t.tabs.length ≤ maxLen := fun t ht => ⟨(hm t ht).1, by have := (hm t ht).2; unfold maxLen; omega⟩
  unfold Ed.doesP at hd
  split at hd
  · split at hd
    · injection hd with hd; subst hd; exact fits_mem (by show s.l.length ≤ _; unfold maxLen; omega) hm'
    · cases hd
  · split at hd
    · rename_i hr
      have hmi := hm (s.l[e.at_.toNat]'(by omega)) (List.getElem_mem _)
      split at hd
      · split at hd
        · injection hd with hd; subst hd
          refine fits_mem (by show (List.set _ _ _).length ≤ _; rw [List.length_set]; unfold maxLen; omega) fun t ht => ?_
          rcases List.mem_or_eq_of_mem_set ht with ht | rfl
          · exact hm' t ht
          · refine ⟨hmi.1, ?_⟩
            dsimp only
            rw [List.length_append, List.length_singleton]; unfold maxLen; omega
        · cases hd
      · split at hd
        · split at hd
          · injection hd with hd; subst hd
            refine fits_mem (by show (List.set _ _ _).length ≤ _; rw [List.length_set]; unfold maxLen; omega) fun t ht => ?_
            rcases List.mem_or_eq_of_mem_set ht with ht | rfl
            · exact hm' t ht
            · exact ⟨hmi.1, by show e.files.length ≤ _; unfold maxLen; omega⟩
          · cases hd
        · split at hd
          · injection hd with hd; subst hd
            refine fits_mem (by show (_ ++ _ :: _).length ≤ _; simp only [List.length_append, List.length_take, List.length_cons, List.length_drop]; unfold maxLen; omega) fun t ht => ?_
            rcases List.mem_append.1 ht with ht | ht
            · exact hm' t (List.mem_of_mem_take ht)
            · rcases List.mem_cons.1 ht with rfl | ht
              · exact ⟨hk, Nat.le_trans hmi.2 (by unfold maxLen; omega)⟩
              · exact hm' t (List.mem_of_mem_drop ht)
          · split at hd
            · split at hd
              · rename_i h2
                injection hd with hd; subst hd
                have hmj := hm (s.l[e.at_.toNat + 1]) (List.getElem_mem _)
                refine fits_mem (by show (_ ++ _ :: _).length ≤ _; simp only [List.length_append, List.length_take, List.length_cons, List.length_drop]; unfold maxLen; omega) fun t ht => ?_
                rcases List.mem_append.1 ht with ht | ht
                · exact hm' t (List.mem_of_mem_take ht)
                · rcases List.mem_cons.1 ht with rfl | ht
                  · refine ⟨hmi.1, ?_⟩
                    have := Ed.union_len s.l[e.at_.toNat + 1].tabs (s.l[e.at_.toNat]'(by omega)).tabs
                    show (Ed.union _ _).length ≤ _
                    unfold maxLen; omega
                  · exact hm' t (List.mem_of_mem_drop ht)
              · cases hd
            · cases hd
    · cases hd
/-- What 'Apply' hands back. -/
def AppPost (w : World) (r : Option Ed.St) (e : Ending) (w' : World) : Prop :=
  Below w.heap.size w w' ∧ match r with
    | some s' => ∃ tv', e = .returned (.tuple #[stV tv' s'.log s'.next, .bool true]) ∧ RdTB w' w.heap.size tv' s'.l
    | none => e = .returned (.tuple #[stV (.slice none 0 0) 0 0, .bool false])
theorem apply_not {s : Ed.St} {e : Ed.Edit} (h : ¬ (Ed.Valid s ∧ 0 ≤ e.file ∧ e.file < 2147483647)) : Ed.applyP s e = none := by unfold Ed.applyP; rw [if_neg h]
theorem three_set {w : World} {b : Nat} {t : TypeId} {x y z u0 u1 u2 : Value} (h : Blk w b t #[x, y, z]) : ∀ w', w' = ((w.setCell ⟨b, 0, none⟩ u0).setCell ⟨b, 1, none⟩ u1).setCell ⟨b, 2, none⟩ u2 → Blk w' b t #[u0, u1, u2] ∧ Chg (fun g => g = b) w w' := by
  intro w' hw
  rw [hw]
  exact ⟨((h.set 0 u0).set 1 u1).set 2 u2, (((Chg.refl _ _).setCell (S := fun g => g = b) (fun _ => rfl) _).setCell (S := fun g => g = b) (fun _ => rfl) _).setCell (S := fun g => g = b) (fun _ => rfl) _⟩
theorem blk3 {w : World} {b : Nat} {t : TypeId} {x y z : Value} (h : Blk w b t #[x, y, z]) : w.cell? ⟨b, 0, none⟩ = some x ∧ w.cell? ⟨b, 1, none⟩ = some y ∧ w.cell? ⟨b, 2, none⟩ = some z ∧ w.frozen? ⟨b, 0, none⟩ = false ∧ w.frozen? ⟨b, 1, none⟩ = false ∧ w.frozen? ⟨b, 2, none⟩ = false :=
  ⟨h.cell 0, h.cell 1, h.cell 2, h.free 0, h.free 1, h.free 2⟩
theorem blk5 {w : World} {b : Nat} {t : TypeId} {x y z u v : Value} (h : Blk w b t #[x, y, z, u, v]) : w.cell? ⟨b, 0, none⟩ = some x ∧ w.cell? ⟨b, 1, none⟩ = some y ∧ w.cell? ⟨b, 2, none⟩ = some z ∧ w.cell? ⟨b, 3, none⟩ = some u ∧ w.cell? ⟨b, 4, none⟩ = some v :=
  ⟨h.cell 0, h.cell 1, h.cell 2, h.cell 3, h.cell 4⟩
set_option maxHeartbeats 4000000 in
theorem apply_any (tv : Value) (s : Ed.St) (e : Ed.Edit) (fv : Value) (w : World) (h : RdT w tv s.l) (hf : Fits s.l) (hfl : RdI w fv e.files) (hff : e.files.length ≤ 1000) (hkey : e.key.size ≤ maxLen) (hat : -9223372036854775808 ≤ e.at_ ∧ e.at_ ≤ 9223372036854775807) :
    Calls Tryz.prog 30 #[stV tv s.log s.next, edV e fv] w (AppPost w (Ed.applyP s e)) := by
  obtain ⟨w3, hw3⟩ : ∃ w3, w3 = ((w.alloc (.cells #[tv, .int .i64 s.log, .int .i64 s.next] 28 (0, 0))).alloc (.cells #[.int .i64 e.kind, .int .i64 e.at_, .int .i64 e.file, fv, .string e.key] 44 (0, 0))).alloc (.cells #[.slice none 0 0, .int .i64 0, .int .i64 0] 28 (0, 0)) := ⟨_, rfl⟩
  obtain ⟨k1, k2, k3, kb, kz⟩ := three_allocs w _ _ _ _ _ _ w3 hw3
  have HC := Lib.hid (fun (W : World) (hW : Below w.heap.size w W) => check_any tv s W (h.below hW) hf)
  have HRD := Lib.hid h
  have HFL := Lib.hid hfl
  have HF := Lib.hid hf
  obtain ⟨R, hR⟩ : ∃ R, R = Ed.applyP s e := ⟨_, rfl⟩
  rw [← hR]
  have HR := Lib.hid hR
  obtain ⟨fx, fc, hfv, _⟩ := hfl.form
  obtain ⟨tx, tc, htv, _⟩ := h
  obtain ⟨fn, hfn⟩ : ∃ fn, fn = e.files.length := ⟨_, rfl⟩
  obtain ⟨tn, htn⟩ : ∃ tn, tn = s.l.length := ⟨_, rfl⟩
  rw [← hfn] at hfv
  rw [← htn] at htv
  have HTN := Lib.hid htn
  have HFN := Lib.hid hfn
  clear hR hfl hf htn hfn
  subst hfv htv
  have K1 := Lib.hid k1
  have K2 := Lib.hid k2
  have K3 := Lib.hid k3
  have KB := Lib.hid kb
  have KZ := Lib.hid kz
  have HW := Lib.hid hw3
  unfold stV edV at *
  obtain ⟨l, log, next⟩ := s
  obtain ⟨kind, at_, file, files, key⟩ := e
  simp only at *
  clear k1 k2 k3 kb kz hw3
  by_cases hv : Ed.Valid ⟨l, log, next⟩
  case neg =>
    have hB := Ed.validB_false hv
    rw [hB] at HC
    have HV := Lib.hid (HR.out.trans (apply_not fun h => hv h.1))
    clear hB hv
    go_enter Tryz.func30, Tryz.ntmps30
    go_wp2_with fail
    rw [← HW.out]
    refine (HC.out w3 KB.out).mono ?_
    rintro e w4 ⟨rfl, hb4⟩
    have B3 := K3.out.below hb4
    have r0 := B3.cell 0
    have r1 := B3.cell 1
    have r2 := B3.cell 2
    have f0 := B3.free 0
    have f1 := B3.free 1
    have f2 := B3.free 2
    simp at r0 r1 r2
    have HB3 := Lib.hid B3
    have HB4 := Lib.hid (KB.out.trans (hb4.mono KB.out.size))
    clear B3 hb4
    go_wp2_with fail
    obtain ⟨w5, hw5⟩ : ∃ w5, w5 = ((w4.setCell ⟨w.heap.size + 1 + 1, 0, none⟩ (.slice none 0 0)).setCell ⟨w.heap.size + 1 + 1, 1, none⟩ (.int .i64 0)).setCell ⟨w.heap.size + 1 + 1, 2, none⟩ (.int .i64 0) := ⟨_, rfl⟩
    rw [← hw5]
    obtain ⟨z1, z2⟩ := three_set HB3.out w5 hw5
    obtain ⟨k0, k1, k2, _⟩ := blk3 z1
    have hB5 : Below w.heap.size w w5 := HB4.out.trans (z2.below HB4.out.size fun g hg e => by omega)
    clear hw5 z1 z2 r0 r1 r2 f0 f1 f2
    refine bodyPost_ret (v := .tuple #[.agg #[.slice none 0 0, .int .i64 0, .int .i64 0], .bool false]) (by simp [results, Tryz.results30, go_sem, k0, k1, k2]) rfl ⟨hB5, ?_⟩
    rw [HV.out]
    exact rfl
  case pos =>
    have hB := Ed.validB_true hv
    rw [hB] at HC
    by_cases hfile : 0 ≤ file ∧ file < 2147483647
    case neg =>
      have HV := Lib.hid (HR.out.trans (apply_not fun h => hfile h.2))
      clear hB hv
      go_enter Tryz.func30, Tryz.ntmps30
      go_wp2_with fail
      rw [← HW.out]
      refine (HC.out w3 KB.out).mono ?_
      rintro e w4 ⟨rfl, hb4⟩
      have B3 := K3.out.below hb4
      have r0 := B3.cell 0
      have r1 := B3.cell 1
      have r2 := B3.cell 2
      have f0 := B3.free 0
      have f1 := B3.free 1
      have f2 := B3.free 2
      have e2 := (K2.out.below hb4).cell 2
      simp at r0 r1 r2 e2
      have HB3 := Lib.hid B3
      have HB4 := Lib.hid (KB.out.trans (hb4.mono KB.out.size))
      clear B3 hb4
      by_cases hneg : file < 0
      case' pos => have q := decide_eq_true hneg
      case' neg =>
        have q := decide_eq_false hneg
        have q1 : decide (2147483647 ≤ file) = true := decide_eq_true (by omega)
      all_goals
        go_wp2_with fail
        obtain ⟨w5, hw5⟩ : ∃ w5, w5 = ((w4.setCell ⟨w.heap.size + 1 + 1, 0, none⟩ (.slice none 0 0)).setCell ⟨w.heap.size + 1 + 1, 1, none⟩ (.int .i64 0)).setCell ⟨w.heap.size + 1 + 1, 2, none⟩ (.int .i64 0) := ⟨_, rfl⟩
        rw [← hw5]
        obtain ⟨z1, z2⟩ := three_set HB3.out w5 hw5
        obtain ⟨k0, k1, k2, _⟩ := blk3 z1
        have hB5 : Below w.heap.size w w5 := HB4.out.trans (z2.below HB4.out.size fun g hg e => by omega)
        clear hw5 z1 z2 r0 r1 r2 f0 f1 f2
        refine bodyPost_ret (v := .tuple #[.agg #[.slice none 0 0, .int .i64 0, .int .i64 0], .bool false]) (by simp [results, Tryz.results30, go_sem, k0, k1, k2]) rfl ⟨hB5, ?_⟩
        rw [HV.out]
        exact rfl
    case pos =>
      have hRR : R = match Ed.doesP ⟨l, log, next⟩ ⟨kind, at_, file, files, key⟩ with | some s' => if Ed.validB s' = true then some s' else none | none => none := by
        rw [HR.out]
        unfold Ed.applyP
        rw [if_pos ⟨hv, hfile⟩]
        cases Ed.doesP ⟨l, log, next⟩ ⟨kind, at_, file, files, key⟩ with
        | none => rfl
        | some s' =>
          simp only
          by_cases h : Ed.Valid s'
          · rw [if_pos h, if_pos ((Ed.validB_iff s').2 h)]
          · rw [if_neg h, if_neg (fun k => h ((Ed.validB_iff s').1 k))]
      have HRR := Lib.hid hRR
      have HVS := Lib.hid hv
      have q := decide_eq_false (p := file < 0) (by omega)
      have q1 := decide_eq_false (p := 2147483647 ≤ file) (by omega)
      clear hRR hB hv
      go_enter Tryz.func30, Tryz.ntmps30
      go_wp2_with fail
      rw [← HW.out]
      refine (HC.out w3 KB.out).mono ?_
      rintro e w4 ⟨rfl, hb4⟩
      have HB4 := Lib.hid (KB.out.trans (hb4.mono KB.out.size))
      have J1 := Lib.hid (K1.out.below hb4)
      have J2 := Lib.hid (K2.out.below hb4)
      have J3 := Lib.hid (K3.out.below hb4)
      obtain ⟨a0, a1, a2, _, _, _⟩ := blk3 J1.out
      obtain ⟨_, _, e2, _, _⟩ := blk5 J2.out
      clear hb4
      go_wp2_with fail
      have hrd4 := HRD.out.below HB4.out
      refine (edClone_any _ ⟨l, log, next⟩ w4 hrd4 HVS.out.some (by have : l.length ≤ 16 := HVS.out.few; show l.length ≤ 1000; omega) (fun j hj => by have : l[j].tabs.length ≤ 128 := (HVS.out.each j hj).2.2.2; show l[j].tabs.length ≤ 1000000; omega)).mono ?_
      rintro e w5 ⟨tb, raw, rfl, ho, hb5⟩
      unfold stV
      simp only at ho ⊢
      rw [← HTN.out]
      have J1' := Lib.hid (J1.out.below hb5)
      have J2' := Lib.hid (J2.out.below hb5)
      have J3' := Lib.hid (J3.out.below hb5)
      have HB5 := Lib.hid (HB4.out.trans (hb5.mono HB4.out.size))
      have HO := Lib.hid ho
      obtain ⟨b0, b1, b2, g0, g1, g2⟩ := blk3 J1'.out
      clear ho hb5 a0 a1 a2 e2 hrd4
      obtain ⟨w6, hw6⟩ : ∃ w6, w6 = ((w5.setCell ⟨w.heap.size, 0, none⟩ (.slice (some ⟨tb, 0, none⟩) tn tn)).setCell ⟨w.heap.size, 1, none⟩ (.int .i64 log)).setCell ⟨w.heap.size, 2, none⟩ (.int .i64 next) := ⟨_, rfl⟩
      obtain ⟨z1, z2⟩ := three_set J1'.out w6 hw6
      have hz4 : w.heap.size < w4.heap.size := J1.out.lt
      have M2 := Lib.hid (J2'.out.chg z2 (by omega))
      have M3 := Lib.hid (J3'.out.chg z2 (by omega))
      have HB6 := Lib.hid (HB5.out.trans (z2.below HB5.out.size fun g hg e => by omega))
      have HO6 := Lib.hid (HO.out.chg z2 fun g e => by omega)
      have hfl6 := (HFL.out.base.chg (S := fun _ => False) (Chg.of_below HB6.out) (fun _ h => h.elim)).more (Nat.le_of_lt hz4)
      have HP := Lib.hid (show Pre w6 w4.heap.size w.heap.size tb raw ⟨l, log, next⟩ ⟨kind, at_, file, files, key⟩ (.slice fx fn fc) from
        ⟨by show Blk w6 w.heap.size 28 #[.slice (some ⟨tb, 0, none⟩) l.length l.length, .int .i64 log, .int .i64 next]; rw [← HTN.out]; exact z1, HO6.out, by have := HO6.out.base; omega, fun j hj e => by
          have h1 := HO6.out.len
          have h2 := ((World.ownsRow.lt (HO6.out.each j hj (by rw [← h1]; exact hj)).2.1) _ e).1
          omega, HVS.out.some, by have : l.length ≤ 16 := HVS.out.few; show l.length ≤ 1000; omega, fun j hj => by have : l[j].tabs.length ≤ 128 := (HVS.out.each j hj).2.2.2; show l[j].tabs.length ≤ 1000; omega, hfl6, by show files.length ≤ 1000; exact hff, hfile, hat, hkey⟩)
      obtain ⟨e0, e1, e2, e3, e4⟩ := blk5 M2.out
      rw [hw6] at e0 e1 e2 e3 e4
      have HW6 := Lib.hid hw6
      clear hw6 z1 z2 hfl6
      go_wp2_with fail
      rw [← HW6.out]
      clear e0 e1 e2 e3 e4 b0 b1 b2 g0 g1 g2
      refine (does_any HP.out (fun j hj => ((Ed.rising_iff _ _).1 (HVS.out.each j hj).2.2.1).2)).mono ?_
      rintro e w7 ⟨hb7, hres⟩
      have hz5 : w.heap.size + 1 + 1 < w4.heap.size := J3.out.lt
      have N3 := Lib.hid (M3.out.chg hb7 (by show ¬ (_ ∨ _); omega))
      have HRes := Lib.hid hres
      have HB7 := Lib.hid (HB6.out.trans (hb7.below HB6.out.size fun g hg e => by omega))
      clear hres hb7
      obtain ⟨r0, r1, r2, f0, f1, f2⟩ := blk3 N3.out
      cases hD : Ed.doesP ⟨l, log, next⟩ ⟨kind, at_, file, files, key⟩ with
      | none =>
        have hres := HRes.out
        rw [hD] at hres
        simp only at hres
        subst hres
        have HV := Lib.hid (show R = none by rw [HRR.out, hD])
        clear hD
        go_wp2_with fail
        obtain ⟨w9, hw9⟩ : ∃ w9, w9 = ((w7.setCell ⟨w.heap.size + 1 + 1, 0, none⟩ (.slice none 0 0)).setCell ⟨w.heap.size + 1 + 1, 1, none⟩ (.int .i64 0)).setCell ⟨w.heap.size + 1 + 1, 2, none⟩ (.int .i64 0) := ⟨_, rfl⟩
        rw [← hw9]
        obtain ⟨y1, y2⟩ := three_set N3.out w9 hw9
        obtain ⟨k0, k1, k2, _⟩ := blk3 y1
        have hB9 : Below w.heap.size w w9 := HB7.out.trans (y2.below HB7.out.size fun g hg e => by omega)
        clear hw9 y1
        refine bodyPost_ret (v := .tuple #[.agg #[.slice none 0 0, .int .i64 0, .int .i64 0], .bool false]) (by simp [results, Tryz.results30, go_sem, k0, k1, k2]) rfl ⟨hB9, ?_⟩
        rw [HV.out]
        exact rfl
      | some s' =>
        have hres := HRes.out
        rw [hD] at hres
        simp only at hres
        obtain ⟨rfl, tv', hx1, hx2b⟩ := hres
        have hx2 := hx2b.rd
        have hft := doesP_fits HVS.out hff hkey hD
        have HCK := Lib.hid (check_any tv' s' w7 hx2 hft)
        have HX1 := Lib.hid hx1
        have HX2 := Lib.hid hx2b
        clear hx2b
        obtain ⟨a0, a1, a2, _, _, _⟩ := blk3 hx1
        have HV := Lib.hid (show R = if Ed.validB s' = true then some s' else none by rw [HRR.out, hD])
        obtain ⟨ux, uc, hux, _⟩ := hx2
        obtain ⟨un, hun⟩ : ∃ un, un = s'.l.length := ⟨_, rfl⟩
        rw [← hun] at hux
        have HUN := Lib.hid hun
        subst hux
        unfold stV at HCK
        obtain ⟨l2, log2, next2⟩ := s'
        simp only at a0 a1 a2 HCK HX1 HX2 HUN HV
        clear hx1 hft hD hun
        cases hvb : Ed.validB ⟨l2, log2, next2⟩ with
        | false =>
          rw [hvb] at HCK HV
          have HV2 := Lib.hid (HV.out.trans (if_neg (by decide)))
          clear hvb HV
          go_wp2_with fail
          refine HCK.out.mono ?_
          rintro e w8 ⟨rfl, hb8⟩
          have P3 := Lib.hid (N3.out.below hb8)
          have HB8 := Lib.hid (HB7.out.trans (hb8.mono HB7.out.size))
          clear hb8 r0 r1 r2 f0 f1 f2
          obtain ⟨r0, r1, r2, f0, f1, f2⟩ := blk3 P3.out
          go_wp2_with fail
          obtain ⟨w9, hw9⟩ : ∃ w9, w9 = ((w8.setCell ⟨w.heap.size + 1 + 1, 0, none⟩ (.slice none 0 0)).setCell ⟨w.heap.size + 1 + 1, 1, none⟩ (.int .i64 0)).setCell ⟨w.heap.size + 1 + 1, 2, none⟩ (.int .i64 0) := ⟨_, rfl⟩
          rw [← hw9]
          obtain ⟨y1, y2⟩ := three_set P3.out w9 hw9
          obtain ⟨k0, k1, k2, _⟩ := blk3 y1
          have hB9 : Below w.heap.size w w9 := HB8.out.trans (y2.below HB8.out.size fun g hg e => by omega)
          clear hw9 y1
          refine bodyPost_ret (v := .tuple #[.agg #[.slice none 0 0, .int .i64 0, .int .i64 0], .bool false]) (by simp [results, Tryz.results30, go_sem, k0, k1, k2]) rfl ⟨hB9, ?_⟩
          rw [HV2.out]
          exact rfl
        | true =>
          rw [hvb] at HCK HV
          have HV2 := Lib.hid (HV.out.trans (if_pos rfl))
          clear hvb HV
          go_wp2_with fail
          refine HCK.out.mono ?_
          rintro e w8 ⟨rfl, hb8⟩
          have P1 := Lib.hid (HX1.out.below hb8)
          have P3 := Lib.hid (N3.out.below hb8)
          have P2 := Lib.hid (HX2.out.chg (S := fun _ => False) (Chg.of_below hb8) (fun _ h => h.elim))
          have HB8 := Lib.hid (HB7.out.trans (hb8.mono HB7.out.size))
          clear hb8 r0 r1 r2 f0 f1 f2 a0 a1 a2
          obtain ⟨r0, r1, r2, f0, f1, f2⟩ := blk3 P3.out
          obtain ⟨a0, a1, a2, _, _, _⟩ := blk3 P1.out
          go_wp2_with fail
          obtain ⟨w9, hw9⟩ : ∃ w9, w9 = ((w8.setCell ⟨w.heap.size + 1 + 1, 0, none⟩ (.slice ux un uc)).setCell ⟨w.heap.size + 1 + 1, 1, none⟩ (.int .i64 log2)).setCell ⟨w.heap.size + 1 + 1, 2, none⟩ (.int .i64 next2) := ⟨_, rfl⟩
          rw [← hw9]
          obtain ⟨y1, y2⟩ := three_set P3.out w9 hw9
          obtain ⟨k0, k1, k2, _⟩ := blk3 y1
          have hB9 : Below w.heap.size w w9 := HB8.out.trans (y2.below HB8.out.size fun g hg e => by omega)
          clear hw9 y1
          refine bodyPost_ret (v := .tuple #[.agg #[.slice ux un uc, .int .i64 log2, .int .i64 next2], .bool true]) (by simp [results, Tryz.results30, go_sem, k0, k1, k2]) rfl ⟨hB9, ?_⟩
          rw [HV2.out]
          exact ⟨_, rfl, (P2.out.chg y2 (fun g e => by omega)).weak (Nat.le_of_lt hz4)⟩
end Go.Proofs.YtcijhhnbhnaiaaaGreat
