/- A reader of edits' bytes: a row of numbers; is it whole; walked. -/
import Derived.Test.YtcijhhnbhnaiaaaGreatEdRead
namespace Go.Proofs.YtcijhhnbhnaiaaaGreat
set_option linter.unusedSimpArgs false
set_option linter.unusedVariables false
set_option maxRecDepth 100000
open Go.RowKit

/-- What is read stands, or the reader is marked. -/
def LstPost (w : World) (r : Nat) (s : ByteArray) (p : Nat) (bad : Bool) (e : Ending) (w' : World) : Prop :=
  ∃ (v : Value) (l : List Int) (p' : Nat) (b' : Bool), e = .returned v ∧ OwnI w' w.heap.size v l ∧ Rdr w' r s p' b' ∧ Chg (fun g => g = r) w w' ∧ p ≤ p' ∧ p' ≤ s.size ∧ l.length ≤ p' - p ∧ (∀ n ∈ l, 0 ≤ n ∧ n < 9223372036854775808) ∧
    (bad = false ∧ b' = false ∧ Ed.lst s.data.toList p = some (l, p') ∨ b' = true ∧ (bad = true ∨ Ed.lst s.data.toList p = none))
theorem OwnI.chg1 {w w' : World} {B r : Nat} {v : Value} {l : List Int} (h : OwnI w B v l) (x : Chg (fun g => g = r) w w') (hr : r < B) : OwnI w' B v l := by
  have hlt := World.ownsRow.lt h
  obtain ⟨h1, h2⟩ := h
  refine ⟨h1, ?_⟩
  rcases h2 with h2 | ⟨g, cap, cur, hv, hg, hh, q⟩
  · exact .inl h2
  · refine .inr ⟨g, cap, cur, hv, hg, ?_, q⟩
    rw [x.block g (hlt g (by rw [hv]; rfl)).2 (by omega), hh]
theorem chg_below {S : Nat → Prop} {w w2 w' : World} (h : Chg S w w2) (x : Below w.heap.size w2 w') : Chg S w w' :=
  ⟨x.os.trans h.os, x.tape.trans h.tape, x.output.trans h.output, Nat.le_trans h.size x.size, fun k hk hs => (x.block k hk).trans (h.block k hk hs)⟩
theorem Rdr.belowB {w w' : World} {B r p : Nat} {s : ByteArray} {b : Bool} (h : Rdr w r s p b) (x : Below B w w') (hr : r < B) : Rdr w' r s p b := by
  unfold Rdr Blk at *
  rw [x.block r hr]; exact h
set_option maxHeartbeats 4000000 in
theorem rlist_any (r : Nat) (s : ByteArray) (p : Nat) (bad : Bool) (w : World) (h : Rdr w r s p bad) (hs : s.size ≤ 1000000) (hp : p ≤ s.size) :
    Calls Tryz.prog 67 #[.pointer (some ⟨r, 0, none⟩)] w (LstPost w r s p bad) := by
  have hrw : r < w.heap.size := Blk.lt h
  have HN := Lib.hid (fun (W : World) (q : Nat) (b : Bool) (hW : Rdr W r s q b) (hq : q ≤ s.size) => number_any r s q b W hW (by unfold maxLen; omega) hq)
  have HR := Lib.hid h
  clear h
  go_enter Tryz.func67, Tryz.ntmps67
  go_wp2_with fail
  refine (HN.out w p bad HR.out hp).mono ?_
  rintro e w1 ⟨n, q, b, rfl, hr1, hc1, hn, hq, hcase⟩
  have HR1 := Lib.hid hr1
  have HC1 := Lib.hid hc1
  have HL := Lib.hid (show (bad = false ∧ b = false ∧ p < q ∧ Ed.lst s.data.toList p = Ed.runL s.data.toList n q []) ∨ (b = true ∧ p ≤ q ∧ (bad = true ∨ Ed.lst s.data.toList p = none)) from by
    rcases hcase with ⟨h1, h2, h3⟩ | ⟨h1, h2, h3, h4⟩
    · cases bad with
      | false => exact .inl ⟨rfl, h2, h3, by unfold Ed.lst; rw [h1]⟩
      | true => exact .inr ⟨h2, by omega, .inl rfl⟩
    · exact .inr ⟨h4, by omega, .inr (by unfold Ed.lst; rw [h1])⟩)
  clear hcase hr1 hc1
  go_wp2_with fail
  go_loopw [3, 4] (fun v3 v4 wr => ∃ (out : List Int) (k q : Nat) (b : Bool), v4 = .int .i64 k ∧ k < 9223372036854775808 ∧ OwnI wr w.heap.size v3 out ∧ Rdr wr r s q b ∧ Chg (fun g => g = r) w wr ∧ p ≤ q ∧ q ≤ s.size ∧ (∀ n ∈ out, 0 ≤ n ∧ n < 9223372036854775808) ∧
    (bad = false ∧ b = false ∧ out.length + 1 ≤ q - p ∧ Ed.lst s.data.toList p = Ed.runL s.data.toList k q out ∨ b = true ∧ out.length ≤ q - p ∧ (bad = true ∨ Ed.lst s.data.toList p = none))) (fun _ v4 _ => (intOf v4).toNat)
  case atStart =>
    refine ⟨[], n, q, b, rfl, hn, OwnI.nil _ _, HR1.out, HC1.out, ?_, hq, fun n hn => (by cases hn), ?_⟩
    · rcases HL.out with h | h <;> omega
    · rcases HL.out with ⟨h1, h2, h3, h4⟩ | ⟨h1, h2, h3⟩
      · exact .inl ⟨h1, h2, by simp; omega, h4⟩
      · exact .inr ⟨h1, Nat.zero_le _, h3⟩
  case round =>
    obtain ⟨out, k, q2, b2, rfl, hk, hown, hrr, hcr, hpq, hqs, hout, hrel⟩ := hrel
    have Hown := Lib.hid hown
    have Hrr := Lib.hid hrr
    have Hcr := Lib.hid hcr
    have Hout := Lib.hid hout
    have Hrel := Lib.hid hrel
    obtain ⟨c0, c1, c2, _⟩ := rdr_cells hrr
    clear hown hrr hcr hout hrel
    by_cases hk0 : 0 < k
    · have hk1 : (0 : Int) < k := by omega
      cases b2 with
      | true =>
        go_wp2_with fail
        go_ret
        rcases Hrel.out with ⟨h1, h2, _⟩ | ⟨h1, h2, h3⟩
        · cases h2
        · exact ⟨_, out, q2, true, rfl, Hown.out, Hrr.out, Hcr.out, hpq, hqs, h2, Hout.out, .inr ⟨rfl, h3⟩⟩
      | false =>
        go_wp2_with fail
        refine (HN.out wr q2 false Hrr.out hqs).mono ?_
        rintro e w2 ⟨n2, q3, b3, rfl, hr2, hc2, hn2, hq2, hcase⟩
        have Hr2 := Lib.hid hr2
        have Hown2 := Lib.hid (Hown.out.chg1 hc2 hrw)
        have Hc2 := Lib.hid (Hcr.out.trans hc2)
        have Hcase := Lib.hid hcase
        have hz2 := Hc2.out.size
        have hbal : ∀ o, Below w.heap.size w2 (w2.alloc o) := fun o => (Below.refl _ _).alloc hz2 _
        have Hbal := Lib.hid hbal
        have hol : out.length ≤ 1000000 := by rcases Hrel.out with h | h <;> omega
        clear hr2 hc2 hcase hbal c0 c1 c2
        go_wp2_with (at_builtin; refine wpList_append_int rfl (.tmp 18) (.tmp 21) rfl w.heap.size _ _ rfl (Hown2.out.alloc _) w2.heap.size rfl (n2 : Int) ((Blk.alloc_new w2 _ _).cell 0) (by omega) (by simp; omega) ?_; intro v2 w3 hown hbel; have Hown3 := Lib.hid hown; have Hbel3 := Lib.hid ((Hbal.out _).trans hbel); clear hown hbel Hown2 Hown)
        go_roundw
        case rel =>
          refine ⟨out ++ [(n2 : Int)], k - 1, q3, b3, by go_num, by omega, Hown3.out, Hr2.out.belowB Hbel3.out hrw, chg_below Hc2.out Hbel3.out, ?_, hq2, ?_, ?_⟩
          · rcases Hcase.out with ⟨_, _, h⟩ | ⟨_, _, h, _⟩ <;> omega
          · intro n hn
            rcases List.mem_append.1 hn with h | h
            · exact Hout.out n h
            · simp at h; omega
          · obtain ⟨j, rfl⟩ : ∃ j, k = j + 1 := ⟨k - 1, by omega⟩
            rcases Hrel.out with ⟨h1, _, h2, h3⟩ | ⟨h1, _⟩
            · unfold Ed.runL at h3
              rcases Hcase.out with ⟨g1, g2, g3⟩ | ⟨g1, g2, g3, g4⟩
              · rw [g1] at h3
                exact .inl ⟨h1, g2, by rw [List.length_append]; simp; omega, h3⟩
              · rw [g1] at h3
                exact .inr ⟨g4, by rw [List.length_append]; simp; omega, .inr h3⟩
            · cases h1
        case measure => simp [intOf]; omega
    · obtain rfl : k = 0 := by omega
      go_wp2_with fail
      go_ret
      rcases Hrel.out with ⟨h1, h2, h3, h4⟩ | ⟨h1, h2, h3⟩
      · exact ⟨_, out, q2, b2, rfl, Hown.out, Hrr.out, Hcr.out, hpq, hqs, by omega, Hout.out, .inl ⟨h1, h2, by rw [h4]; rfl⟩⟩
      · exact ⟨_, out, q2, b2, rfl, Hown.out, Hrr.out, Hcr.out, hpq, hqs, h2, Hout.out, .inr ⟨h1, h3⟩⟩
end Go.Proofs.YtcijhhnbhnaiaaaGreat
