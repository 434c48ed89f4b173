/- Where a key lies, and which files there are, by the program and by the document; is a state more than is looked at? Walked. -/
import Derived.Test.YtenbgfejonokdaaRefApply
import Derived.Test.YtenbgfejonokdaaEdFind
namespace Go.Proofs.Ytenbgfejonokdaa
set_option linter.unusedSimpArgs false
set_option linter.unusedVariables false
set_option maxRecDepth 100000
open Go.RowKit

/-- Which files there are. -/
def filesL (l : List Ed.Tab) : List Int := l.foldl (fun a t => Ed.union a t.tabs) []
theorem filesL_succ (l : List Ed.Tab) (k : Nat) (hk : k < l.length) : filesL (l.take (k + 1)) = Ed.union (filesL (l.take k)) l[k].tabs := by
  unfold filesL
  rw [List.take_succ_eq_append_getElem hk, List.foldl_append]
  rfl
theorem filesL_sorted : ∀ (l : List Ed.Tab) (a : List Int), a.Pairwise (· < ·) → (l.foldl (fun a t => Ed.union a t.tabs) a).Pairwise (· < ·)
  | [], a, h => h
  | t :: l, a, h => filesL_sorted l _ (Ed.union_sorted t.tabs h)
theorem filesL_len : ∀ (l : List Ed.Tab) (a : List Int) (m : Nat), (∀ t ∈ l, t.tabs.length ≤ m) → (l.foldl (fun a t => Ed.union a t.tabs) a).length ≤ a.length + l.length * m
  | [], a, m, _ => by simp
  | t :: l, a, m, h => by
    have h1 := filesL_len l (Ed.union a t.tabs) m fun x hx => h x (List.mem_cons_of_mem _ hx)
    have h2 := Ed.union_len t.tabs a
    have h3 := h t List.mem_cons_self
    show (l.foldl _ (Ed.union a t.tabs)).length ≤ _
    have h4 : (l.length + 1) * m = l.length * m + m := Nat.succ_mul _ _
    rw [List.length_cons, h4]
    omega
theorem filesL_small {s : Ed.St} (h : Ed.Valid s) (k : Nat) : (filesL (s.l.take k)).length ≤ 2048 := by
  have h1 := filesL_len (s.l.take k) [] 128 fun t ht => by
    obtain ⟨j, hj, rfl⟩ := List.mem_iff_getElem.1 (List.mem_of_mem_take ht)
    exact (h.each j hj).2.2.2
  have h2 := h.few
  have h3 : (s.l.take k).length ≤ 16 := by rw [List.length_take]; omega
  have h4 : (s.l.take k).length * 128 ≤ 16 * 128 := Nat.mul_le_mul_right _ h3
  unfold filesL
  simp only [List.length_nil] at h1
  omega
noncomputable def filesP (s : Ed.St) : List Int := if Ed.validB s = true then filesL s.l else []
set_option maxHeartbeats 2000000 in
theorem files_any (tv : Value) (s : Ed.St) (w : World) (h : RdT w tv s.l) (hf : Fits s.l) :
    Calls Try.prog 54 #[stV tv s.log s.next] w fun e w' => ∃ v', e = .returned v' ∧ RdI w' v' (filesP s) ∧ Below w.heap.size w w' := by
  obtain ⟨l, log, next⟩ := s
  simp only at h hf ⊢
  obtain ⟨w1, hw1⟩ : ∃ w1, w1 = w.alloc (.cells #[tv, .int .i64 log, .int .i64 next] 67 (0, 0)) := ⟨_, rfl⟩
  obtain ⟨kb, kbe⟩ := three_cells' w1 hw1
  have HC := Lib.hid (check_any tv ⟨l, log, next⟩ w1 (h.below kbe) hf)
  obtain ⟨x, c, rfl, hel⟩ := h.below kbe
  have Hel := Lib.hid hel
  have HB1 := Lib.hid kbe
  have K1 := Lib.hid kb
  obtain ⟨n, hn⟩ : ∃ n, n = l.length := ⟨_, rfl⟩
  rw [← hn] at HC K1 hw1 ⊢
  have HN := Lib.hid hn
  have HW := Lib.hid hw1
  unfold stV at HC ⊢
  rw [hw1] at HC
  obtain ⟨a0, a1, a2, _⟩ := blk3 K1.out
  rw [hw1] at a0 a1 a2
  clear h hel kb kbe hw1 hn
  by_cases hv : Ed.Valid ⟨l, log, next⟩
  case neg =>
    have e0 := Ed.validB_false hv
    have HFP := Lib.hid (show filesP ⟨l, log, next⟩ = [] by unfold filesP; rw [e0]; rfl)
    rw [e0] at HC
    clear hv e0
    go_enter Try.func54, Try.ntmps54
    go_wp2_with fail
    refine HC.out.mono ?_
    rintro e w2 ⟨rfl, hb⟩
    rw [← HW.out] at hb
    have HB2 := Lib.hid (HB1.out.trans (hb.mono HB1.out.size))
    clear hb
    go_wp2_with fail
    go_ret
    rw [HFP.out]
    exact ⟨_, rfl, .inl ⟨none, 0, rfl, rfl⟩, HB2.out⟩
  case pos =>
    have e0 := Ed.validB_true hv
    have HFP := Lib.hid (show filesP ⟨l, log, next⟩ = filesL l by unfold filesP; rw [e0]; rfl)
    have HV := Lib.hid hv
    have hn16 : n ≤ 16 := by rw [HN.out]; exact hv.few
    rw [e0] at HC
    clear hv e0
    go_enter Try.func54, Try.ntmps54
    go_wp2_with fail
    refine HC.out.mono ?_
    rintro e w2 ⟨rfl, hb⟩
    rw [← HW.out] at hb
    have K2 := Lib.hid (K1.out.below hb)
    have HB12 := Lib.hid hb
    clear hb a0 a1 a2
    obtain ⟨a0, a1, a2, _⟩ := blk3 K2.out
    go_wp2_with fail
    clear a0 a1 a2
    go_loopw [3, 5, 12] (fun v3 _ v12 wr => ∃ k : Nat, v12 = .int .i64 k ∧ k ≤ n ∧ RdI wr v3 (filesL (l.take k)) ∧ Below w1.heap.size w1 wr) (fun _ _ v12 _ => n - (intOf v12).toNat)
    case atStart => exact ⟨0, rfl, Nat.zero_le _, .inl ⟨none, 0, rfl, rfl⟩, HB12.out⟩
    case round =>
      obtain ⟨k, rfl, hk, hrd, hbe⟩ := hrel
      have Hbe := Lib.hid hbe
      have Hrd := Lib.hid hrd
      obtain ⟨ux, uc, hu, _⟩ := hrd.form
      subst hu
      clear hrd hbe
      by_cases hlt : k < n
      · have hkl : k < l.length := by rw [← HN.out]; exact hlt
        obtain ⟨b, off, tv, rfl, hb, c0, c1, hr⟩ := Hel.out k hkl
        obtain ⟨t, htt⟩ : ∃ t, t = l[k] := ⟨_, rfl⟩
        have htl : l[k].tabs.length ≤ 128 := (HV.out.each k hkl).2.2.2
        rw [← htt] at c0 hr htl
        have Htt := Lib.hid htt
        obtain ⟨frm, tabs⟩ := t
        simp only at c0 hr htl
        have d0 := (Hbe.out.cell (p := ⟨b, _, none⟩) hb).trans c0
        have d1 := (Hbe.out.cell (p := ⟨b, _, none⟩) hb).trans c1
        have HR := Lib.hid (hr.below Hbe.out)
        obtain ⟨y, yc, hy, _⟩ := hr.form
        subst hy
        obtain ⟨un, hun⟩ : ∃ un, un = (filesL (l.take k)).length := ⟨_, rfl⟩
        have hul := filesL_small HV.out k
        simp only at hul
        obtain ⟨w4, hw4⟩ : ∃ w4, w4 = wr.alloc (.cells #[.string frm, .slice y tabs.length yc] 70 (0, 0)) := ⟨_, rfl⟩
        obtain ⟨kt, ktb⟩ := two_cells' w4 hw4
        have HUN := Lib.hid (unionI_any (.slice ux (filesL (l.take k)).length uc) (.slice y tabs.length yc) (filesL (l.take k)) tabs w4 (Hrd.out.below ktb) (HR.out.below ktb) (by omega))
        rw [Ed.union_compact tabs (show (filesL (l.take k)).Pairwise (· < ·) from filesL_sorted _ [] List.Pairwise.nil)] at HUN
        obtain ⟨FL, hFL⟩ : ∃ FL, FL = filesL (l.take k) := ⟨_, rfl⟩
        have HS : Ed.union FL tabs = filesL (l.take (k + 1)) := by rw [hFL, filesL_succ l k hkl, ← Htt.out]
        rw [← hFL] at HUN
        have HSU := Lib.hid HS
        obtain ⟨t0, t1⟩ : w4.cell? ⟨wr.heap.size, 0, none⟩ = some (.string frm) ∧ w4.cell? ⟨wr.heap.size, 1, none⟩ = some (.slice y tabs.length yc) := ⟨kt.cell 0, kt.cell 1⟩
        rw [hw4] at t0 t1 HUN
        have HB4 := Lib.hid (Hbe.out.trans (ktb.mono Hbe.out.size))
        have HW4 := Lib.hid hw4
        rw [← hFL]
        clear c0 c1 hr htt hun hul kt ktb hFL HS hw4 htl
        go_wp2_with fail
        refine HUN.out.mono ?_
        rintro e w5 ⟨v', rfl, ho, hb5⟩
        rw [← HW4.out] at hb5
        have HO := Lib.hid ho
        have HB5 := Lib.hid (HB4.out.trans (hb5.mono HB4.out.size))
        clear ho hb5 d0 d1 t0 t1
        go_wp2_with fail
        go_roundw
        case rel => exact ⟨k + 1, by go_num, by omega, by rw [← HSU.out]; exact HO.out.rd, HB5.out⟩
        case measure => simp [intOf]; omega
      · obtain rfl : k = n := by omega
        have HFN := Lib.hid (show filesL (l.take k) = filesL l by rw [HN.out, List.take_length])
        go_wp2_with fail
        go_ret
        rw [HFP.out, ← HFN.out]
        exact ⟨_, rfl, Hrd.out, HB1.out.trans (Hbe.out.mono HB1.out.size)⟩
end Go.Proofs.Ytenbgfejonokdaa
