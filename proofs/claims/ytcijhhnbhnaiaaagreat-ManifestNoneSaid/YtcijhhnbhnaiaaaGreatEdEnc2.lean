/- Edits as bytes, walked. -/
import Derived.Test.YtcijhhnbhnaiaaaGreatEdEnc
import Derived.Test.YtcijhhnbhnaiaaaGreatEdAll
import Derived.Test.YtcijhhnbhnaiaaaGreatRegion
namespace Go.Proofs.YtcijhhnbhnaiaaaGreat
set_option linter.unusedSimpArgs false
set_option linter.unusedVariables false
set_option maxRecDepth 100000
open Go.RowKit

/-- An edit whose bytes are not too many. -/
structure EncFit (e : Ed.Edit) : Prop where
  kind : e.kind < 9223372036854775808
  at_ : e.at_ < 9223372036854775808
  file : e.file < 9223372036854775808
  files : e.files.length ≤ 1000
  each : ∀ n ∈ e.files, n < 9223372036854775808
  key : e.key.size ≤ 1000
def encEB (e : Ed.Edit) : ByteArray := ⟨(Ed.encE e).toArray⟩
def encAB (l : List Ed.Edit) : ByteArray := ⟨(Ed.enc l).toArray⟩
theorem encE_cat (e : Ed.Edit) : pnB e.kind ++ pnB e.at_ ++ pnB e.file ++ encLB e.files ++ encTB e.key = encEB e := by
  unfold pnB encLB encTB encEB Ed.encE
  simp only [cat_l, List.append_assoc]
theorem encE_len {e : Ed.Edit} (h : EncFit e) : (Ed.encE e).length ≤ 20000 := by
  have h1 := pn_len h.kind
  have h2 := pn_len h.at_
  have h3 := pn_len h.file
  have h4 := encL_len e.files (by have := h.files; omega) h.each
  have h5 := encT_len e.key (by have := h.key; omega)
  unfold encLB at h4
  unfold encTB at h5
  rw [size_l] at h4 h5
  have := h.files
  have := h.key
  unfold Ed.encE
  simp only [List.length_append]
  omega
theorem encs_len (l : List Ed.Edit) (h : ∀ e ∈ l, EncFit e) : (l.flatMap Ed.encE).length ≤ 20000 * l.length := by
  induction l with
  | nil => simp
  | cons n l ih =>
    have h1 := encE_len (h n List.mem_cons_self)
    have h2 := ih fun m hm => h m (List.mem_cons_of_mem _ hm)
    rw [List.flatMap_cons, List.length_append, List.length_cons]
    omega
theorem encs_succ (l : List Ed.Edit) (k : Nat) (hk : k < l.length) (a : List UInt8) : (⟨(a ++ (l.take k).flatMap Ed.encE).toArray⟩ : ByteArray) ++ encEB l[k] = ⟨(a ++ (l.take (k + 1)).flatMap Ed.encE).toArray⟩ := by
  unfold encEB
  rw [cat_l, List.take_succ_eq_append_getElem hk, List.flatMap_append, List.append_assoc]
  simp
theorem five_cells {w : World} {t : TypeId} {a b c d e : Value} : ∀ w1, w1 = w.alloc (.cells #[a, b, c, d, e] t (0, 0)) → Blk w1 w.heap.size t #[a, b, c, d, e] ∧ Below w.heap.size w w1 := fun w1 h => by
  rw [h]; exact ⟨Blk.alloc_new w _ _, (Below.refl _ _).alloc (Nat.le_refl _) _⟩
set_option maxHeartbeats 4000000 in
theorem encode_ed (v : Value) (l : List Ed.Edit) (w : World) (h : RdE w v l) (hl : l.length ≤ 1000) (hf : ∀ e ∈ l, EncFit e) :
    Calls Tryz.prog 18 #[v] w fun e w' => e = .returned (.string (encAB l)) ∧ Below w.heap.size w w' := by
  obtain ⟨x, c, rfl, hx⟩ := h
  have Hx := Lib.hid hx
  have HF := Lib.hid hf
  obtain ⟨m, hm⟩ : ∃ m, m = l.length := ⟨_, rfl⟩
  rw [← hm] at hl ⊢
  have HP := Lib.hid (putP_any m w (by omega) (by omega))
  have hps := pnB_size (n := m) (by omega)
  obtain ⟨P, hP⟩ : ∃ P, P = pnB m := ⟨_, rfl⟩
  rw [← hP] at HP hps
  have HPP := Lib.hid hP
  have Hm := Lib.hid hm
  clear hx hf hm hP
  go_enter Tryz.func18, Tryz.ntmps18
  go_wp2_with fail
  refine HP.out.mono ?_
  rintro e w1 ⟨rfl, hb⟩
  have Hb := Lib.hid hb
  clear hb
  go_wp2_with fail
  go_loopw [3, 5, 11] (fun v3 _ v11 wr => ∃ (k : Nat) (T : ByteArray), v11 = .int .i64 k ∧ k ≤ m ∧ v3 = .string T ∧ T = ⟨(Ed.pn m ++ (l.take k).flatMap Ed.encE).toArray⟩ ∧ Below w.heap.size w wr) (fun _ _ v11 _ => m - (intOf v11).toNat)
  case atStart => exact ⟨0, P, rfl, Nat.zero_le _, rfl, by rw [HPP.out]; unfold pnB; simp, Hb.out⟩
  case round =>
    obtain ⟨k, T, rfl, hk, rfl, hT, hbe⟩ := hrel
    have HT := Lib.hid hT
    have Hbe := Lib.hid hbe
    have hTs : T.size ≤ 9 + 20000 * k := by
      rw [hT, size_l, List.length_append]
      have h1 := encs_len (l.take k) fun n hn => HF.out n (List.mem_of_mem_take hn)
      have h2 := pn_len (n := m) (by omega)
      rw [List.length_take] at h1
      omega
    clear hT hbe
    by_cases hlt : k < m
    · have hkl : k < l.length := by rw [← Hm.out]; exact hlt
      obtain ⟨b, off, fv, rfl, hb, c0, c1, c2, c3, c4, hrd⟩ := Hx.out k hkl
      have hb2 := fun i => Hbe.out.cell (p := ⟨b, i, none⟩) hb
      have d0 := (hb2 _).trans c0
      have d1 := (hb2 _).trans c1
      have d2 := (hb2 _).trans c2
      have d3 := (hb2 _).trans c3
      have d4 := (hb2 _).trans c4
      have hsucc := encs_succ l k hkl (Ed.pn m)
      rw [← HT.out] at hsucc
      have hfk := HF.out l[k] (List.getElem_mem hkl)
      obtain ⟨e, he⟩ : ∃ e, e = l[k] := ⟨_, rfl⟩
      rw [← he] at d0 d1 d2 d4 hsucc hfk hrd
      have hcat := encE_cat e
      have hl4 := encL_len e.files (by have := hfk.files; omega) hfk.each
      have hl5 := encT_len e.key (by have := hfk.key; omega)
      have h6 := hfk.files
      have h7 := hfk.key
      obtain ⟨fx, fc, hfv, _⟩ := hrd.form
      subst hfv
      have Hrd := Lib.hid (hrd.below Hbe.out)
      have Hfk := Lib.hid hfk
      have Hsucc := Lib.hid hsucc
      have Hcat := Lib.hid hcat
      obtain ⟨kind, at_, file, files, key⟩ := e
      simp only at d0 d1 d2 d3 d4 hl4 hl5 h6 h7 Hcat Hfk Hrd
      have hs1 := pnB_size Hfk.out.kind
      have hs2 := pnB_size Hfk.out.at_
      have hs3 := pnB_size Hfk.out.file
      simp only at hs1 hs2 hs3
      have hk0 : (0 : Int) ≤ k := by omega
      have hkm : (k : Int) < m := by omega
      have Hlt := Lib.hid hlt
      obtain ⟨fn, hfn⟩ : ∃ fn, fn = files.length := ⟨_, rfl⟩
      rw [← hfn] at d3 Hrd h6 hl4
      have Hfn := Lib.hid hfn
      obtain ⟨w2, hw2⟩ : ∃ w2, w2 = wr.alloc (.cells #[.int .i64 kind, .int .i64 at_, .int .i64 file, .slice fx fn fc, .string key] 44 (0, 0)) := ⟨_, rfl⟩
      obtain ⟨kb, kbe⟩ := five_cells w2 hw2
      obtain ⟨q, hq⟩ : ∃ q, q = wr.heap.size := ⟨_, rfl⟩
      have hql : q < w2.heap.size := by rw [hq]; exact kb.lt
      have g0 : ∀ y : Ext w2, y.wd.cell? ⟨q, 0, none⟩ = some (.int .i64 kind) := fun y => (y.le.cell (p := ⟨q, 0, none⟩) hql).trans (by rw [hq]; exact kb.cell 0)
      have g1 : ∀ y : Ext w2, y.wd.cell? ⟨q, 1, none⟩ = some (.int .i64 at_) := fun y => (y.le.cell (p := ⟨q, 1, none⟩) hql).trans (by rw [hq]; exact kb.cell 1)
      have g2 : ∀ y : Ext w2, y.wd.cell? ⟨q, 2, none⟩ = some (.int .i64 file) := fun y => (y.le.cell (p := ⟨q, 2, none⟩) hql).trans (by rw [hq]; exact kb.cell 2)
      have g3 : ∀ y : Ext w2, y.wd.cell? ⟨q, 3, none⟩ = some (.slice fx fn fc) := fun y => (y.le.cell (p := ⟨q, 3, none⟩) hql).trans (by rw [hq]; exact kb.cell 3)
      have g4 : ∀ y : Ext w2, y.wd.cell? ⟨q, 4, none⟩ = some (.string key) := fun y => (y.le.cell (p := ⟨q, 4, none⟩) hql).trans (by rw [hq]; exact kb.cell 4)
      have Hkbe := Lib.hid kbe
      have HX := Lib.hid (fun (y : Ext w2) (n : Int) (hn : n = kind ∨ n = at_ ∨ n = file) => putM_any n y.wd (by
        rcases hn with rfl | rfl | rfl
        · exact Hfk.out.kind
        · exact Hfk.out.at_
        · exact Hfk.out.file))
      have HY := Lib.hid (fun (y : Ext w2) => encL_any (.slice fx fn fc) files y.wd ((Hrd.out.below kbe).below y.le) (by rw [← Hfn.out]; omega) Hfk.out.each)
      have HZ := Lib.hid (fun (y : Ext w2) => putText_any key y.wd (by omega))
      have HW := Lib.hid hw2
      have HQ := Lib.hid hq
      obtain ⟨K1, hK1⟩ : ∃ f : Int → ByteArray, f = pnB := ⟨_, rfl⟩
      clear c0 c1 c2 c3 c4 he hsucc hcat hfk hrd hb2 hfn hw2 hq kb kbe hK1 K1
      go_wp2_with fail
      rw [← HW.out, ← HQ.out]
      refine wp_region_ext (by kernel_rfl) (by kernel_rfl) fun K hK => ?_
      repeat (go_big_quiet_step (first
        | (go_at_call 35; exact Calls.ext_of (HX.out _ _ (by first | exact .inl rfl | exact .inr (.inl rfl) | exact .inr (.inr rfl))))
        | (go_at_call 36; exact Calls.ext_of (HY.out _))
        | (go_at_call 37; exact Calls.ext_of (HZ.out _))))
      refine wpQuiet_nil (hK _ fun y => ?_)
      clear hK K
      have Hy := Lib.hid (Hbe.out.trans (Hkbe.out.trans (y.le.mono Hkbe.out.size) |>.mono Hbe.out.size))
      clear g0 g1 g2 g3 g4 d0 d1 d2 d3 d4
      go_wp2_with fail
      go_roundw
      case rel => exact ⟨k + 1, _, by go_num, by have := Hlt.out; omega, rfl, by rw [Hcat.out, Hsucc.out], Hy.out⟩
      case measure => simp [intOf]; omega
    · obtain rfl : k = m := by omega
      have HF := Lib.hid (show T = encAB l from by
        rw [HT.out]
        unfold encAB Ed.enc
        rw [Hm.out, List.take_length])
      go_wp2_with fail
      go_ret
      rw [HF.out]
      exact ⟨rfl, Hbe.out⟩
/-- A tablet whose bytes are not too many. -/
structure TabFit (t : Ed.Tab) : Prop where
  frm : t.frm.size ≤ 1000
  tabs : t.tabs.length ≤ 1000
  each : ∀ n ∈ t.tabs, n < 9223372036854775808
def encBB (t : Ed.Tab) : ByteArray := ⟨(Ed.encB t).toArray⟩
def encSB (s : Ed.St) : ByteArray := ⟨(Ed.encS s).toArray⟩
theorem encB_cat (t : Ed.Tab) : encTB t.frm ++ encLB t.tabs = encBB t := by
  unfold encTB encLB encBB Ed.encB
  simp only [cat_l]
theorem encB_len {t : Ed.Tab} (h : TabFit t) : (Ed.encB t).length ≤ 20000 := by
  have h4 := encL_len t.tabs (by have := h.tabs; omega) h.each
  have h5 := encT_len t.frm (by have := h.frm; omega)
  unfold encLB at h4
  unfold encTB at h5
  rw [size_l] at h4 h5
  have := h.tabs
  have := h.frm
  unfold Ed.encB
  simp only [List.length_append]
  omega
theorem encbs_len (l : List Ed.Tab) (h : ∀ e ∈ l, TabFit e) : (l.flatMap Ed.encB).length ≤ 20000 * l.length := by
  induction l with
  | nil => simp
  | cons n l ih =>
    have h1 := encB_len (h n List.mem_cons_self)
    have h2 := ih fun m hm => h m (List.mem_cons_of_mem _ hm)
    rw [List.flatMap_cons, List.length_append, List.length_cons]
    omega
theorem encbs_succ (l : List Ed.Tab) (k : Nat) (hk : k < l.length) (a : List UInt8) : (⟨(a ++ (l.take k).flatMap Ed.encB).toArray⟩ : ByteArray) ++ encBB l[k] = ⟨(a ++ (l.take (k + 1)).flatMap Ed.encB).toArray⟩ := by
  unfold encBB
  rw [cat_l, List.take_succ_eq_append_getElem hk, List.flatMap_append, List.append_assoc]
  simp
theorem valid_tabFit {s : Ed.St} (h : Ed.Valid s) : ∀ t ∈ s.l, TabFit t := by
  intro t ht
  obtain ⟨j, hj, rfl⟩ := List.mem_iff_getElem.1 ht
  obtain ⟨h1, _, h2, h3⟩ := h.each j hj
  refine ⟨by omega, by omega, fun n hn => ?_⟩
  have := ((Ed.rising_iff _ _).1 h2).1 n hn
  have := h.next
  omega
end Go.Proofs.YtcijhhnbhnaiaaaGreat
