/- A journal's files: their names, their numbers; walked. -/
import Derived.Test.YtcijhhnbhnaiaaaGreatDoorJouC
import Derived.Test.YtcijhhnbhnaiaaaGreatDoorJouN
import Derived.Test.YtcijhhnbhnaiaaaGreatDoorLiveM
import Derived.Sort.OwnSortedInts
import Derived.Lib.AtoiErrMem
namespace Go.Proofs.YtcijhhnbhnaiaaaGreatDoor
set_option linter.unusedSimpArgs false
set_option linter.unusedVariables false
set_option maxRecDepth 100000
open Go.RowKit Go.Maps
open Dsk

open Go.Sort in
theorem sortI_any (w : World) (B : Nat) (v : Value) (l : List Int) (h : OwnI w B v l) (hl : l.length < 4611686018427387904) (hB : B ≤ w.heap.size) :
    Calls Tryz.prog 62 #[v] w fun e w' => e = .returned (.tuple #[]) ∧ OwnI w' B v (l.mergeSort fun x y => decide (x ≤ y)) ∧ Below B w w' := by
  have h0 := h
  obtain ⟨_, ⟨rfl, hn⟩ | ⟨g, cap, cur, rfl, hg, hh, hn, hm, hs, ht⟩⟩ := h
  · refine (Tryz.slices_Sort_int_none none 0 w).mono ?_
    rintro e w' ⟨rfl, rfl⟩
    rw [List.length_eq_zero_iff.1 hn, List.mergeSort_nil]
    exact ⟨rfl, OwnI.nil _ _, Below.refl _ _⟩
  · have hlt : g < w.heap.size := (World.ownsRow.lt h0 g rfl).2
    rw [Nat.mul_one] at ht
    refine (Tryz.slices_Sort_int g 0 cap l w (holds_of_blockI hh ht) hlt hl).mono ?_
    rintro e w' ⟨rfl, n, os, rfl⟩
    refine ⟨rfl, ?_, ?_⟩
    · have := ownsRow_sortedI (w := w) (base := B) (n := n) (os := os) (ss := l) (ts := l.mergeSort fun x y => decide (x ≤ y)) (List.length_mergeSort _) hg hh hn hm hs
      unfold OwnI
      rw [List.length_mergeSort]
      exact this
    · exact OwnI.below h0 (grownBy_sortedI _) hB
/-- Itoa of a number, in every world from one on. -/
def ItoaOk (w0 : World) (n : Nat) : Prop := ∀ W : World, Below w0.heap.size w0 W → Calls Tryz.prog 69 #[.int .i64 n] W fun e w' => e = .returned (.string (decB n)) ∧ Below W.heap.size W w'
theorem itoaOk_small (w0 : World) (n : Nat) (h : n < 100) : ItoaOk w0 n := fun W _ => (Tryz.strconv_Itoa_small n h W).mono fun e w' ⟨h1, h2⟩ => ⟨h1, h2 ▸ Below.refl _ _⟩
/-- A number that a journal's file may have. -/
structure NumOk (w0 : World) (n : Nat) : Prop where
  itoa : ItoaOk w0 n
  lo : 1 ≤ n
  hi : n ≤ 2147483647
theorem numOk_small (w0 : World) (n : Nat) (h : n < 100) (h1 : 1 ≤ n) : NumOk w0 n := ⟨itoaOk_small w0 n h, h1, by omega⟩
section
variable {w0 w w' : World} {X : Nat → Prop} {v : Value} {d d' : Dk} {n : Nat}
theorem jnamed_any (hn : NumOk w0 n) (hb : Below w0.heap.size w0 w) : Calls Tryz.prog 42 #[.int .i64 n] w fun e w' => e = .returned (.string (jnB n)) ∧ Below w.heap.size w w' := by
  have HI := Lib.hid (hn.itoa w hb)
  have hz := decB_size hn.hi
  have hc := jn_cat n
  obtain ⟨D, hD⟩ : ∃ D, D = decB n := ⟨_, rfl⟩
  rw [← hD] at HI hz hc
  have HC := Lib.hid hc
  have nz1 : ¬ 9223372036854775807 < (⟨#[106]⟩ : ByteArray).size + D.size := by
    have : (⟨#[106]⟩ : ByteArray).size = 1 := rfl
    omega
  have nz2 : ¬ 9223372036854775807 < 1 + D.size := by omega
  clear hn hb hc hD
  go_enter Tryz.func42, Tryz.ntmps42
  go_wp2_with fail
  refine HI.out.mono ?_
  rintro e w1 ⟨rfl, hb1⟩
  go_wp2_with fail
  go_ret
  rw [HC.out]
  exact ⟨rfl, hb1⟩
set_option maxHeartbeats 2000000 in
theorem jnumber_any (hn : NumOk w0 n) (hb : Below w0.heap.size w0 w) : Calls Tryz.prog 60 #[.string (jnB n)] w fun e w' => e = .returned (.int .i64 n) ∧ Below w.heap.size w w' := by
  have HCP := Lib.hid (fun W => by
    have := Tryz.strings_CutPrefix (jnB n) ⟨#[106]⟩ W
    rw [jnB_data, show (⟨#[106]⟩ : ByteArray).data.toList = [106] from rfl, (jn_trim n).1, (jn_trim n).2] at this
    exact this)
  have hz := decB_size hn.hi
  have HAT := Lib.hid (fun W => Tryz.strconv_Atoi (decB n) n (by omega) (by rw [decB_data]; exact atoi_digits n) W)
  have HIT := Lib.hid (fun W hW => hn.itoa W (hb.trans (Below.mono hW hb.size)))
  obtain ⟨J, hJ⟩ : ∃ J, J = jnB n := ⟨_, rfl⟩
  have hD0 : (⟨(Lib.decDigits n).toArray⟩ : ByteArray) = decB n := rfl
  rw [hD0] at HCP
  obtain ⟨D, hD⟩ : ∃ D, D = decB n := ⟨_, rfl⟩
  rw [← hJ] at HCP ⊢
  rw [← hD] at HCP HAT HIT
  have hlo := hn.lo
  have hhi := hn.hi
  have t1 : ¬ (n : Int) < 1 := by omega
  have t2 : ¬ (2147483647 : Int) < n := by omega
  clear hn hb hJ hD hz hD0 hlo hhi
  go_enter Tryz.func60, Tryz.ntmps60
  go_wp2_with fail
  refine (HCP.out w).mono ?_
  rintro e w1 ⟨rfl, rfl⟩
  go_wp2_with fail
  refine (HAT.out _).mono ?_
  rintro e w2 ⟨rfl, t, rfl⟩
  have hbw := Lib.bytesWorld_below w1 5 t
  have HBW := Lib.hid hbw
  obtain ⟨w3, hw3⟩ : ∃ w3, w3 = Lib.bytesWorld w1 5 t := ⟨_, rfl⟩
  rw [← hw3] at HBW ⊢
  clear hbw hw3
  go_wp2_with fail
  refine (HIT.out w3 HBW.out).mono ?_
  rintro e w4 ⟨rfl, hb4⟩
  have HB4 := Lib.hid (HBW.out.trans (hb4.mono HBW.out.size))
  clear hb4
  go_wp2_with fail
  go_ret
  exact ⟨rfl, HB4.out⟩
end
end Go.Proofs.YtcijhhnbhnaiaaaGreatDoor
