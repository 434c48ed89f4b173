/- The first state, a tablet's stretch; are two rows the same, two states; walked. -/
import Derived.Test.YtcijhhnbhnaiaaaGreatEdAll
import Derived.Test.YtcijhhnbhnaiaaaGreatEdFind
namespace Go.Proofs.YtcijhhnbhnaiaaaGreat
set_option linter.unusedSimpArgs false
set_option linter.unusedVariables false
set_option maxRecDepth 100000
open Go.RowKit

def st0 : Ed.St := ⟨[⟨⟨#[]⟩, []⟩], 1, 2⟩
theorem first_any (w : World) : Calls Tryz.prog 13 #[] w fun e w' => ∃ tv, e = .returned (stV tv 1 2) ∧ RdTB w' w.heap.size tv st0.l ∧ Below w.heap.size w w' := by
  go_enter Tryz.func13, Tryz.ntmps13
  go_wp2_with fail
  obtain ⟨w1, h1⟩ : ∃ w1, w1 = w.alloc (.cells #[.slice (some ⟨w.heap.size + 1, 0, none⟩) 1 1, .int .i64 1, .int .i64 2] 28 (0, 0)) := ⟨_, rfl⟩
  have z1 : w1.heap.size = w.heap.size + 1 := by rw [h1]; simp
  have b1 : Blk w1 w.heap.size 28 #[.slice (some ⟨w.heap.size + 1, 0, none⟩) 1 1, .int .i64 1, .int .i64 2] := by rw [h1]; exact Blk.alloc_new w _ _
  have l1 : Below w.heap.size w w1 := by rw [h1]; exact (Below.refl _ _).alloc (Nat.le_refl _) _
  obtain ⟨w2, h2⟩ : ∃ w2, w2 = w1.alloc (.cells #[.string ⟨#[]⟩, .slice none 0 0] 65 (0, 0)) := ⟨_, rfl⟩
  have hb : Blk w2 (w.heap.size + 1) 65 #[.string ⟨#[]⟩, .slice none 0 0] := by rw [h2, ← z1]; exact Blk.alloc_new w1 _ _
  have l2 : Below w1.heap.size w1 w2 := by rw [h2]; exact (Below.refl _ _).alloc (Nat.le_refl _) _
  rw [← h1, ← h2]
  obtain ⟨k0, k1, k2, _⟩ := blk3 (b1.below l2)
  have hB : Below w.heap.size w w2 := l1.trans (l2.mono (by omega))
  have hlt := hb.lt
  have hfin : RdTB w2 w.heap.size (.slice (some ⟨w.heap.size + 1, 0, none⟩) 1 1) st0.l := ⟨_, 1, rfl, fun j hj => by
    obtain rfl : j = 0 := by unfold st0 at hj; simp at hj; omega
    exact ⟨w.heap.size + 1, 0, .slice none 0 0, rfl, by omega, hlt, by have := hb.cell 0; simpa [st0] using this, by have := hb.cell 1; simpa using this, .inl ⟨none, 0, rfl, rfl⟩⟩⟩
  clear h1 h2 b1 l1 l2 hb
  refine bodyPost_ret (v := stV (.slice (some ⟨w.heap.size + 1, 0, none⟩) 1 1) 1 2) (by unfold stV; simp [results, Tryz.results13, go_sem, k0, k1, k2]) rfl ⟨_, rfl, hfin, hB⟩
/-- Are two rows one? -/
theorem sameInts_any (u v : Value) (a b : List Int) (w : World) (hu : RdI w u a) (hv : RdI w v b) (ha : a.length ≤ maxLen) (hb : b.length ≤ maxLen) :
    Calls Tryz.prog 28 #[u, v] w fun e w' => e = .returned (.bool (decide (a = b))) ∧ ∃ m, w' = w.drewN m := by
  obtain ⟨x, c, rfl, hx⟩ := hu.form
  obtain ⟨y, d, rfl, hy⟩ := hv.form
  have Hx := Lib.hid hx
  have Hy := Lib.hid hy
  unfold maxLen at ha hb
  clear hx hy hu hv
  obtain ⟨r, hr⟩ : ∃ r, r = decide (a = b) := ⟨_, rfl⟩
  rw [← hr]
  have HR := Lib.hid hr
  obtain ⟨m, hm⟩ : ∃ m, m = a.length := ⟨_, rfl⟩
  obtain ⟨n, hn⟩ : ∃ n, n = b.length := ⟨_, rfl⟩
  rw [← hm, ← hn]
  rw [← hm] at ha
  rw [← hn] at hb
  have Hm := Lib.hid hm
  have Hn := Lib.hid hn
  clear hr hm hn
  by_cases hmn : m = n
  case neg =>
    have q : ((m : Int) == (n : Int)) = false := by rw [beq_eq_false_iff_ne]; omega
    have q2 : ¬ (m : Int) = n := by omega
    have HV := Lib.hid (show r = false by rw [HR.out]; exact decide_eq_false fun e => hmn (by rw [Hm.out, Hn.out, e]))
    clear hmn
    go_enter Tryz.func28, Tryz.ntmps28
    go_wp2_with fail
    go_ret
    rw [HV.out]
    exact ⟨rfl, 0, rfl⟩
  case pos =>
    subst hmn
    go_enter Tryz.func28, Tryz.ntmps28
    go_wp2_with fail
    go_loopw [5] (fun v5 wr => ∃ k q : Nat, v5 = .int .i64 k ∧ k ≤ m ∧ wr = w.drewN q ∧ ∀ (j : Nat) (hj : j < a.length) (hj' : j < b.length), j < k → a[j] = b[j]) (fun v5 _ => m - (intOf v5).toNat)
    case atStart => exact ⟨0, 0, rfl, Nat.zero_le _, rfl, fun j _ _ h => absurd h (by omega)⟩
    case round =>
      obtain ⟨k, q, rfl, hk, rfl, hsm⟩ := hrel
      have Hsm := Lib.hid hsm
      clear hsm
      by_cases hlt : k < m
      · have hka : k < a.length := by rw [← Hm.out]; exact hlt
        have hkb : k < b.length := by rw [← Hn.out]; exact hlt
        obtain ⟨b1, o1, rfl, _, c0⟩ := Hx.out k hka
        obtain ⟨b2, o2, rfl, _, c1⟩ := Hy.out k hkb
        obtain ⟨x1, h1⟩ : ∃ x1, x1 = a[k] := ⟨_, rfl⟩
        obtain ⟨x2, h2⟩ : ∃ x2, x2 = b[k] := ⟨_, rfl⟩
        rw [← h1] at c0
        rw [← h2] at c1
        have H1 := Lib.hid h1
        have H2 := Lib.hid h2
        have Hlt := Lib.hid hlt
        have hk0 : (0 : Int) ≤ k := by omega
        have hkm : (k : Int) < m := by omega
        clear h1 h2
        by_cases hxx : x1 = x2
        case pos =>
          have HXX := Lib.hid hxx
          have qq : (x1 == x2) = true := by rw [beq_iff_eq]; exact hxx
          clear hxx
          go_wp2_with fail
          go_quiet (fail)
          go_wp2_with fail
          go_roundw
          case rel => exact ⟨k + 1, q + nq, by go_num, by have := Hlt.out; omega, by first | rfl | rw [World.drewN_drewN], fun j hj hj' hjk => by
            by_cases e : j = k
            · subst e; rw [← H1.out, ← H2.out]; exact HXX.out
            · exact Hsm.out j hj hj' (by omega)⟩
          case measure => simp [intOf]; omega
        case neg =>
          have HXX := Lib.hid hxx
          have qq : (x1 == x2) = false := by rw [beq_eq_false_iff_ne]; exact hxx
          have HV := Lib.hid (show r = false by rw [HR.out]; exact decide_eq_false fun e => hxx (by rw [H1.out, H2.out]; simp [e]))
          go_wp2_with fail
          go_quiet (fail)
          go_wp2_with fail
          go_ret
          rw [HV.out]
          exact ⟨rfl, q + nq, by first | rfl | rw [World.drewN_drewN]⟩
      · obtain rfl : k = m := by omega
        have HV := Lib.hid (show r = true by
          rw [HR.out]
          exact decide_eq_true (List.ext_getElem (by rw [← Hm.out, ← Hn.out]) fun j h1 h2 => Hsm.out j h1 h2 (by rw [Hm.out]; exact h1)))
        go_wp2_with fail
        go_ret
        rw [HV.out]
        exact ⟨rfl, q, rfl⟩
/-- A tablet's stretch. -/
def stretchP (l : List Ed.Tab) (at_ : Int) : ByteArray × ByteArray × Bool :=
  if h : 0 ≤ at_ ∧ at_ < l.length then (l[at_.toNat].frm, (if h2 : at_.toNat + 1 < l.length then l[at_.toNat + 1].frm else ⟨#[]⟩), true) else (⟨#[]⟩, ⟨#[]⟩, false)
noncomputable def stretchS (s : Ed.St) (at_ : Int) : ByteArray × ByteArray × Bool := if Ed.validB s = true then stretchP s.l at_ else (⟨#[]⟩, ⟨#[]⟩, false)
end Go.Proofs.YtcijhhnbhnaiaaaGreat
