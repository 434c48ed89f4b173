/- A host's log: names and numbers of its files; a segment's small functions: walked. -/
import Derived.Test.YtiepipcankhdnaaGreatDoorJ5
import Derived.Test.YtiepipcankhdnaaGreatDoorHlShelf
import Derived.Test.YtiepipcankhdnaaGreatDoorPow
import Derived.Test.YtiepipcankhdnaaGreatDoorDiskNil
import Derived.Test.YtiepipcankhdnaaGreatDoorSink2
import Derived.Test.YtiepipcankhdnaaGreatDoorFrames
namespace Go.Proofs.YtiepipcankhdnaaGreatDoor
set_option linter.unusedSimpArgs false
set_option linter.unusedVariables false
set_option maxRecDepth 100000
open Go.RowKit Go.Maps
open Dsk

/-- What the row says of the library's variables. -/
structure LEnv (w : World) : Prop where
  pow : PowTab w
  err : ∃ tp p, w.var? Tryz.prog "strconv.ErrSyntax" = some #[.iface tp p]
section
variable {w0 w w' : World} {X H S : Nat → Prop} {v : Value} {d d' : Dk} {j : Nat} {h : Hl}
theorem var_below {x : Array Value} {name : String} {g : Nat} (hg : Tryz.prog.globalNamed name = some g) (h : w.var? Tryz.prog name = some x) (y : Below w.heap.size w w') : w'.var? Tryz.prog name = some x := by
  unfold World.var? at h ⊢
  rw [hg] at h ⊢
  simp only [Option.bind_some] at h ⊢
  have hlt : g < w.heap.size := by
    apply Classical.byContradiction
    intro hge
    rw [Array.getElem?_eq_none (by omega)] at h
    cases h
  rw [y.block _ hlt]
  exact h
theorem LEnv.below (h : LEnv w) (y : Below w.heap.size w w') : LEnv w' := by
  obtain ⟨h1, tp, p, h2⟩ := h
  exact ⟨h1.below y, tp, p, var_below (g := 0) (by kernel_rfl) h2 y⟩
theorem itoa_any (h : LEnv w) {n : Nat} (h2 : n ≤ 2147483647) : Calls Tryz.prog 100 #[.int .i64 n] w fun e w' => e = .returned (.string (decB n)) ∧ Below w.heap.size w w' := by
  refine (Tryz.strconv_Itoa n (by omega) (by omega) w h.pow).mono ?_
  rintro e w' ⟨rfl, k, os, rfl⟩
  refine ⟨?_, Lib.below_grow _ _ (Nat.le_refl _) k os⟩
  have e : Lib.itoa (n : Int) = Lib.decDigits n := by
    unfold Lib.itoa
    rw [if_neg (by omega)]
    congr 1
  rw [e]
  rfl
theorem ln_cat (n : Nat) : (⟨#[108]⟩ : ByteArray) ++ decB n = lnB n := by
  apply bytes_ext
  simp [decB, lnB, ln]
theorem decB_nine {n : Nat} (h : n ≤ 999999999) : (decB n).size ≤ 9 := by
  have : (decB n).size = (Lib.decDigits n).length := List.size_toArray
  rw [this]; exact digits_nine h
theorem lnB_size {n : Nat} (h : n ≤ 999999999) : (lnB n).size ≤ 10 := by
  have h1 : (lnB n).size = (ln n).length := List.size_toArray
  have := (ln_named h).2
  have h2 := digits_nine h
  rw [h1]
  unfold ln
  simp only [List.length_cons]
  omega
def segVal (n : Nat) (sv ev : Value) : Value := .agg #[.int .i64 n, sv, ev]
theorem segName_any (he : LEnv w) {n : Nat} (hn : n ≤ 999999999) (sx ex : Option Addr) (sn sc en ec : Nat) :
    Calls Tryz.prog 49 #[segVal n (.slice sx sn sc) (.slice ex en ec)] w fun e w' => e = .returned (.string (lnB n)) ∧ Below w.heap.size w w' := by
  obtain ⟨w1, hw1⟩ : ∃ w1, w1 = w.alloc (.cells #[.int .i64 n, .slice sx sn sc, .slice ex en ec] 92 (0, 0)) := ⟨_, rfl⟩
  have hb1 : Below w.heap.size w w1 := by rw [hw1]; exact (Below.refl _ _).alloc (Nat.le_refl _) _
  have hk1 : Blk w1 w.heap.size 92 #[.int .i64 n, .slice sx sn sc, .slice ex en ec] := by rw [hw1]; exact Blk.alloc_new w _ _
  have c0 := hk1.cell 0
  have HI := Lib.hid (itoa_any (he.below hb1) (n := n) (by omega))
  have hz := decB_nine hn
  have hc := ln_cat n
  obtain ⟨D, hD⟩ : ∃ D, D = decB n := ⟨_, rfl⟩
  rw [← hD] at HI hz hc
  have HC := Lib.hid hc
  have HB := Lib.hid hb1
  have HW1 := Lib.hid hw1
  have nz1 : ¬ 9223372036854775807 < (⟨#[108]⟩ : ByteArray).size + D.size := by
    have : (⟨#[108]⟩ : ByteArray).size = 1 := rfl
    omega
  have nz2 : ¬ 9223372036854775807 < 1 + D.size := by omega
  rw [hw1] at c0
  unfold segVal
  clear hn hb1 hc hD hk1 hw1 he
  go_enter Tryz.func49, Tryz.ntmps49
  go_wp2_with fail
  rw [← HW1.out]
  refine HI.out.mono ?_
  rintro e w2 ⟨rfl, hb2⟩
  have HB2 := Lib.hid (HB.out.trans (hb2.mono HB.out.size))
  clear hb2 c0
  go_wp2_with fail
  go_ret
  rw [HC.out]
  exact ⟨rfl, HB2.out⟩
theorem segNext_any {n m : Nat} (sx ex : Option Addr) (sn sc en ec : Nat) (hm : m = n + sn) (hn : m ≤ 1000000000000) :
    Calls Tryz.prog 55 #[segVal n (.slice sx sn sc) (.slice ex en ec)] w fun e w' => e = .returned (.int .i64 m) ∧ Below w.heap.size w w' := by
  have HB := Lib.hid (show Below w.heap.size w (w.alloc (.cells #[.int .i64 n, .slice sx sn sc, .slice ex en ec] 92 (0, 0))) from (Below.refl _ _).alloc (Nat.le_refl _) _)
  have hs : (n : Int) + (sn : Int) = (m : Int) := by omega
  have hw : IntKind.i64.wrap (m : Int) = m := by rw [IntKind.wrap_i64]; omega
  unfold segVal
  clear hm
  go_enter Tryz.func55, Tryz.ntmps55
  go_wp2_with fail
  go_ret
  exact ⟨rfl, HB.out⟩
theorem segEnd_any {n : Nat} {l : List Sp.Span} (sx : Option Addr) (sn sc : Nat) {ev : Value} {B : Nat} (hev : OwnI w B ev (sgEnds l)) (hmay : ∀ x ∈ l, Sp.May x) (hm : (sgT l).length ≤ 1000000000) :
    Calls Tryz.prog 51 #[segVal n (.slice sx sn sc) ev] w fun e w' => e = .returned (.int .i64 (sgT l).length) ∧ Below w.heap.size w w' := by
  obtain ⟨ex, ec, rfl, hel⟩ := hev.each
  rw [sgEnds_length]
  have HB := Lib.hid (show Below w.heap.size w (w.alloc (.cells #[.int .i64 n, .slice sx sn sc, .slice ex l.length ec] 92 (0, 0))) from (Below.refl _ _).alloc (Nat.le_refl _) _)
  obtain ⟨m, hmm⟩ : ∃ m, m = l.length := ⟨_, rfl⟩
  rw [← hmm] at HB ⊢
  unfold segVal
  by_cases h0 : m = 0
  · subst h0
    have hl : l = [] := List.length_eq_zero_iff.1 hmm.symm
    subst hl
    clear hel hmm hev
    go_enter Tryz.func51, Tryz.ntmps51
    go_wp2_with fail
    go_ret
    exact ⟨rfl, HB.out⟩
  · obtain ⟨b, rfl, _, hb, hc⟩ := hel (m - 1) (by rw [sgEnds_length]; omega)
    rw [sgEnds_get] at hc
    have e2 : l.take (m - 1 + 1) = l := by rw [show m - 1 + 1 = l.length by omega, List.take_length]
    rw [e2] at hc
    obtain ⟨t, ht⟩ : ∃ t, t = (sgT l).length := ⟨_, rfl⟩
    rw [← ht] at hc ⊢
    have hlm := (sgT_len l hmay).1
    obtain ⟨q, hq⟩ : ∃ q, q = m - 1 := ⟨_, rfl⟩
    rw [← hq] at hc
    have hc2 := (HB.out.cell (p := ⟨b, q, none⟩) hb).trans hc
    have hm1 : (m : Int) - 1 = (q : Int) := by omega
    have hm2 : (0 : Int) ≤ (q : Int) := by omega
    have hm3 : (q : Int) < m := by omega
    have hm5 : q ≤ 1000000000 := by omega
    have t0 : ((m : Int) == 0) = false := by rw [beq_eq_false_iff_ne]; omega
    clear hc hmm ht e2 hev hel hq hlm
    go_enter Tryz.func51, Tryz.ntmps51
    go_wp2_with fail
    go_ret
    exact ⟨rfl, HB.out⟩
end
end Go.Proofs.YtiepipcankhdnaaGreatDoor
