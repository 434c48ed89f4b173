/- The first state, a tablet's stretch; are two rows the same, two states; walked. -/
import Derived.Test.YtenbgfejonokdaaEdAll
import Derived.Test.YtenbgfejonokdaaEdFind
namespace Go.Proofs.Ytenbgfejonokdaa
set_option linter.unusedSimpArgs false
set_option linter.unusedVariables false
set_option maxRecDepth 100000
open Go.RowKit

def st0 : Ed.St := ⟨[⟨⟨#[]⟩, []⟩], 1, 2⟩
theorem first_any (w : World) : Calls Try.prog 41 #[] w fun e w' => ∃ tv, e = .returned (stV tv 1 2) ∧ RdTB w' w.heap.size tv st0.l ∧ Below w.heap.size w w' := by
  go_enter Try.func41, Try.ntmps41
  go_wp2_with fail
  obtain ⟨w1, h1⟩ : ∃ w1, w1 = w.alloc (.cells #[.slice (some ⟨w.heap.size + 1, 0, none⟩) 1 1, .int .i64 1, .int .i64 2] 67 (0, 0)) := ⟨_, rfl⟩
  have z1 : w1.heap.size = w.heap.size + 1 := by rw [h1]; simp
  have b1 : Blk w1 w.heap.size 67 #[.slice (some ⟨w.heap.size + 1, 0, none⟩) 1 1, .int .i64 1, .int .i64 2] := by rw [h1]; exact Blk.alloc_new w _ _
  have l1 : Below w.heap.size w w1 := by rw [h1]; exact (Below.refl _ _).alloc (Nat.le_refl _) _
  obtain ⟨w2, h2⟩ : ∃ w2, w2 = w1.alloc (.cells #[.string ⟨#[]⟩, .slice none 0 0] 70 (0, 0)) := ⟨_, rfl⟩
  have hb : Blk w2 (w.heap.size + 1) 70 #[.string ⟨#[]⟩, .slice none 0 0] := by rw [h2, ← z1]; exact Blk.alloc_new w1 _ _
  have l2 : Below w1.heap.size w1 w2 := by rw [h2]; exact (Below.refl _ _).alloc (Nat.le_refl _) _
  rw [← h1, ← h2]
  obtain ⟨k0, k1, k2, _⟩ := blk3 (b1.below l2)
  have hB : Below w.heap.size w w2 := l1.trans (l2.mono (by omega))
  have hlt := hb.lt
  have hfin : RdTB w2 w.heap.size (.slice (some ⟨w.heap.size + 1, 0, none⟩) 1 1) st0.l := ⟨_, 1, rfl, fun j hj => by
    obtain rfl : j = 0 := by unfold st0 at hj; simp at hj; omega
    exact ⟨w.heap.size + 1, 0, .slice none 0 0, rfl, by omega, hlt, by have := hb.cell 0; simpa [st0] using this, by have := hb.cell 1; simpa using this, .inl ⟨none, 0, rfl, rfl⟩⟩⟩
  clear h1 h2 b1 l1 l2 hb
  refine bodyPost_ret (v := stV (.slice (some ⟨w.heap.size + 1, 0, none⟩) 1 1) 1 2) (by unfold stV; simp [results, Try.results41, go_sem, k0, k1, k2]) rfl ⟨_, rfl, hfin, hB⟩
/-- Are two rows one? -/
theorem sameInts_any (u v : Value) (a b : List Int) (w : World) (hu : RdI w u a) (hv : RdI w v b) (ha : a.length ≤ maxLen) (hb : b.length ≤ maxLen) :
    Calls Try.prog 53 #[u, v] w fun e w' => e = .returned (.bool (decide (a = b))) ∧ ∃ m, w' = w.drewN m := by
  obtain ⟨x, c, rfl, hx⟩ := hu.form
  obtain ⟨y, d, rfl, hy⟩ := hv.form
  have Hx := Lib.hid hx
  have Hy := Lib.hid hy
  unfold maxLen at ha hb
  clear hx hy hu hv
  obtain ⟨r, hr⟩ : ∃ r, r = decide (a = b) := ⟨_, rfl⟩
  rw [← hr]
  have HR := Lib.hid hr
  obtain ⟨m, hm⟩ : ∃ m, m = a.length := ⟨_, rfl⟩
  obtain ⟨n, hn⟩ : ∃ n, n = b.length := ⟨_, rfl⟩
  rw [← hm, ← hn]
  rw [← hm] at ha
  rw [← hn] at hb
  have Hm := Lib.hid hm
  have Hn := Lib.hid hn
  clear hr hm hn
  by_cases hmn : m = n
  case neg =>
    have q : ((m : Int) == (n : Int)) = false := by rw [beq_eq_false_iff_ne]; omega
    have q2 : ¬ (m : Int) = n := by omega
    have HV := Lib.hid (show r = false by rw [HR.out]; exact decide_eq_false fun e => hmn (by rw [Hm.out, Hn.out, e]))
    clear hmn
    go_enter Try.func53, Try.ntmps53
    go_wp2_with fail
    go_ret
    rw [HV.out]
    exact ⟨rfl, 0, rfl⟩
  case pos =>
    subst hmn
    go_enter Try.func53, Try.ntmps53
    go_wp2_with fail
    go_loopw [5] (fun v5 wr => ∃ k q : Nat, v5 = .int .i64 k ∧ k ≤ m ∧ wr = w.drewN q ∧ ∀ (j : Nat) (hj : j < a.length) (hj' : j < b.length), j < k → a[j] = b[j]) (fun v5 _ => m - (intOf v5).toNat)
    case atStart => exact ⟨0, 0, rfl, Nat.zero_le _, rfl, fun j _ _ h => absurd h (by omega)⟩
    case round =>
      obtain ⟨k, q, rfl, hk, rfl, hsm⟩ := hrel
      have Hsm := Lib.hid hsm
      clear hsm
      by_cases hlt : k < m
      · have hka : k < a.length := by rw [← Hm.out]; exact hlt
        have hkb : k < b.length := by rw [← Hn.out]; exact hlt
        obtain ⟨b1, o1, rfl, _, c0⟩ := Hx.out k hka
        obtain ⟨b2, o2, rfl, _, c1⟩ := Hy.out k hkb
        obtain ⟨x1, h1⟩ : ∃ x1, x1 = a[k] := ⟨_, rfl⟩
        obtain ⟨x2, h2⟩ : ∃ x2, x2 = b[k] := ⟨_, rfl⟩
        rw [← h1] at c0
        rw [← h2] at c1
        have H1 := Lib.hid h1
        have H2 := Lib.hid h2
        have Hlt := Lib.hid hlt
        have hk0 : (0 : Int) ≤ k := by omega
        have hkm : (k : Int) < m := by omega
        clear h1 h2
        by_cases hxx : x1 = x2
        case pos =>
          have HXX := Lib.hid hxx
          have qq : (x1 == x2) = true := by rw [beq_iff_eq]; exact hxx
          clear hxx
          go_wp2_with fail
          go_quiet (fail)
          go_wp2_with fail
          go_roundw
          case rel => exact ⟨k + 1, q + nq, by go_num, by have := Hlt.out; omega, by first | rfl | rw [World.drewN_drewN], fun j hj hj' hjk => by
            by_cases e : j = k
            · subst e; rw [← H1.out, ← H2.out]; exact HXX.out
            · exact Hsm.out j hj hj' (by omega)⟩
          case measure => simp [intOf]; omega
        case neg =>
          have HXX := Lib.hid hxx
          have qq : (x1 == x2) = false := by rw [beq_eq_false_iff_ne]; exact hxx
          have HV := Lib.hid (show r = false by rw [HR.out]; exact decide_eq_false fun e => hxx (by rw [H1.out, H2.out]; simp [e]))
          go_wp2_with fail
          go_quiet (fail)
          go_wp2_with fail
          go_ret
          rw [HV.out]
          exact ⟨rfl, q + nq, by first | rfl | rw [World.drewN_drewN]⟩
      · obtain rfl : k = m := by omega
        have HV := Lib.hid (show r = true by
          rw [HR.out]
          exact decide_eq_true (List.ext_getElem (by rw [← Hm.out, ← Hn.out]) fun j h1 h2 => Hsm.out j h1 h2 (by rw [Hm.out]; exact h1)))
        go_wp2_with fail
        go_ret
        rw [HV.out]
        exact ⟨rfl, q, rfl⟩
/-- A tablet's stretch. -/
def stretchP (l : List Ed.Tab) (at_ : Int) : ByteArray × ByteArray × Bool :=
  if h : 0 ≤ at_ ∧ at_ < l.length then (l[at_.toNat].frm, (if h2 : at_.toNat + 1 < l.length then l[at_.toNat + 1].frm else ⟨#[]⟩), true) else (⟨#[]⟩, ⟨#[]⟩, false)
noncomputable def stretchS (s : Ed.St) (at_ : Int) : ByteArray × ByteArray × Bool := if Ed.validB s = true then stretchP s.l at_ else (⟨#[]⟩, ⟨#[]⟩, false)
set_option maxHeartbeats 4000000 in
theorem stretch_any (tv : Value) (s : Ed.St) (at_ : Int) (w : World) (h : RdT w tv s.l) (hf : Fits s.l) :
    Calls Try.prog 47 #[stV tv s.log s.next, .int .i64 at_] w fun e w' => e = .returned (.tuple #[.string (stretchS s at_).1, .string (stretchS s at_).2.1, .bool (stretchS s at_).2.2]) ∧ Below w.heap.size w w' := by
  obtain ⟨w1, hw1⟩ : ∃ w1, w1 = w.alloc (.cells #[tv, .int .i64 s.log, .int .i64 s.next] 67 (0, 0)) := ⟨_, rfl⟩
  have hb1 : Below w.heap.size w w1 := by rw [hw1]; exact (Below.refl _ _).alloc (Nat.le_refl _) _
  have B1 : Blk w1 w.heap.size 67 #[tv, .int .i64 s.log, .int .i64 s.next] := by rw [hw1]; exact Blk.alloc_new _ _ _
  have HC := Lib.hid (check_any tv s w1 (h.below hb1) hf)
  have HRD := Lib.hid (h.below hb1)
  obtain ⟨R, hR⟩ : ∃ R, R = stretchS s at_ := ⟨_, rfl⟩
  rw [← hR]
  have HR := Lib.hid hR
  obtain ⟨r1, r2, r3⟩ := R
  obtain ⟨tx, tc, htv, hel⟩ := h
  have Hel := Lib.hid hel
  obtain ⟨tn, htn⟩ : ∃ tn, tn = s.l.length := ⟨_, rfl⟩
  rw [← htn] at htv
  subst htv
  have HTN := Lib.hid htn
  have HW := Lib.hid hw1
  have HB1 := Lib.hid hb1
  have K1 := Lib.hid B1
  unfold stV at *
  obtain ⟨l, log, next⟩ := s
  simp only at *
  clear hR htn hw1 hb1 B1 hf hel
  cases hv : Ed.validB ⟨l, log, next⟩ with
  | false =>
    have HN := Lib.hid (show (r1, r2, r3) = ((⟨#[]⟩ : ByteArray), (⟨#[]⟩ : ByteArray), false) by rw [HR.out]; unfold stretchS; rw [hv]; rfl)
    rw [hv] at HC
    clear hv
    go_enter Try.func47, Try.ntmps47
    go_wp2_with fail
    rw [← HW.out]
    refine HC.out.mono ?_
    rintro e w2 ⟨rfl, hb2⟩
    have Hb2 := Lib.hid (HB1.out.trans (hb2.mono HB1.out.size))
    clear hb2
    go_wp2_with fail
    go_ret3
    have := HN.out
    injection this with e1 e2
    injection e2 with e2 e3
    rw [e1, e2, e3]
    exact ⟨rfl, Hb2.out⟩
  | true =>
    have HN := Lib.hid (show (r1, r2, r3) = stretchP l at_ by rw [HR.out]; unfold stretchS; rw [hv]; rfl)
    have HV := Lib.hid ((Ed.validB_iff _).1 hv)
    rw [hv] at HC
    clear hv
    by_cases hin : 0 ≤ at_ ∧ at_ < l.length
    case neg =>
      have HN2 := Lib.hid (show (r1, r2, r3) = ((⟨#[]⟩ : ByteArray), (⟨#[]⟩ : ByteArray), false) by rw [HN.out]; unfold stretchP; rw [dif_neg hin])
      have hin2 : ¬ (0 ≤ at_ ∧ at_ < tn) := by rw [HTN.out]; exact hin
      by_cases hneg : at_ < 0
      case' pos => have q := decide_eq_true hneg
      case' neg =>
        have q := decide_eq_false hneg
        have q1 : decide ((tn : Int) ≤ at_) = true := decide_eq_true (by omega)
      all_goals
        clear hin
        go_enter Try.func47, Try.ntmps47
        go_wp2_with fail
        rw [← HW.out]
        refine HC.out.mono ?_
        rintro e w2 ⟨rfl, hb2⟩
        have Hb2 := Lib.hid (HB1.out.trans (hb2.mono HB1.out.size))
        obtain ⟨a0, _, _, _, _, _⟩ := blk3 (K1.out.below hb2)
        clear hb2
        go_wp2_with fail
        go_ret3
        have := HN2.out
        injection this with e1 e2
        injection e2 with e2 e3
        rw [e1, e2, e3]
        exact ⟨rfl, Hb2.out⟩
    case pos =>
      obtain ⟨hin0, hin1⟩ := hin
      obtain ⟨i, rfl⟩ : ∃ i : Nat, at_ = i := ⟨at_.toNat, by omega⟩
      have hil : i < l.length := by omega
      have hit : i < tn := by rw [HTN.out]; exact hil
      have htn16 : tn ≤ 16 := by rw [HTN.out]; exact HV.out.few
      have q : decide ((i : Int) < 0) = false := decide_eq_false (by omega)
      have q1 : decide ((tn : Int) ≤ i) = false := decide_eq_false (by omega)
      have hi0 : (0 : Int) ≤ i := by omega
      have hi1 : (i : Int) < tn := by omega
      obtain ⟨b, off, tw, rfl, hb, c0, _, _⟩ := Hel.out i hil
      obtain ⟨f, hf⟩ : ∃ f, f = l[i].frm := ⟨_, rfl⟩
      rw [← hf] at c0
      have HF := Lib.hid hf
      clear hf hin1
      by_cases hnx : i + 1 < l.length
      case pos =>
        obtain ⟨b', off', tw', e, hb', c1, _, _⟩ := Hel.out (i + 1) hnx
        cases e
        obtain ⟨g, hg⟩ : ∃ g, g = l[i + 1].frm := ⟨_, rfl⟩
        rw [← hg] at c1
        have hnt : (i : Int) + 1 < tn := by rw [HTN.out]; omega
        have hn0 : (0 : Int) ≤ (i : Int) + 1 := by omega
        have hn1 : ((i : Int) + 1).toNat = i + 1 := by omega
        have hw1 : IntKind.i64.wrap ((i : Int) + 1) = (i : Int) + 1 := by rw [IntKind.wrap_i64]; omega
        have HN2 := Lib.hid (show (r1, r2, r3) = (f, g, true) by
          rw [HN.out]; unfold stretchP
          rw [dif_pos ⟨by omega, by omega⟩]
          simp only [Int.toNat_natCast]
          rw [dif_pos hnx, hg, HF.out])
        clear hg
        go_enter Try.func47, Try.ntmps47
        go_wp2_with fail
        rw [← HW.out]
        refine HC.out.mono ?_
        rintro e w2 ⟨rfl, hb2⟩
        have Hb2 := Lib.hid (HB1.out.trans (hb2.mono HB1.out.size))
        obtain ⟨a0, _, _, _, _, _⟩ := blk3 (K1.out.below hb2)
        have d0 := (Hb2.out.cell (p := ⟨b, off + i * 2, none⟩) hb).trans c0
        have d1 := (Hb2.out.cell (p := ⟨b, off + (i + 1) * 2, none⟩) hb).trans c1
        clear hb2 c0 c1
        go_wp2_with fail
        go_ret3
        have := HN2.out
        injection this with e1 e2
        injection e2 with e2 e3
        rw [e1, e2, e3]
        exact ⟨rfl, Hb2.out⟩
      case neg =>
        have hnt : ¬ (i : Int) + 1 < tn := by rw [HTN.out]; omega
        have hw1 : IntKind.i64.wrap ((i : Int) + 1) = (i : Int) + 1 := by rw [IntKind.wrap_i64]; omega
        have HN2 := Lib.hid (show (r1, r2, r3) = (f, (⟨#[]⟩ : ByteArray), true) by
          rw [HN.out]; unfold stretchP
          rw [dif_pos ⟨by omega, by omega⟩]
          simp only [Int.toNat_natCast]
          rw [dif_neg hnx, HF.out])

        go_enter Try.func47, Try.ntmps47
        go_wp2_with fail
        rw [← HW.out]
        refine HC.out.mono ?_
        rintro e w2 ⟨rfl, hb2⟩
        have Hb2 := Lib.hid (HB1.out.trans (hb2.mono HB1.out.size))
        obtain ⟨a0, _, _, _, _, _⟩ := blk3 (K1.out.below hb2)
        have d0 := (Hb2.out.cell (p := ⟨b, off + i * 2, none⟩) hb).trans c0
        clear hb2 c0
        go_wp2_with fail
        go_ret3
        have := HN2.out
        injection this with e1 e2
        injection e2 with e2 e3
        rw [e1, e2, e3]
        exact ⟨rfl, Hb2.out⟩
end Go.Proofs.Ytenbgfejonokdaa
