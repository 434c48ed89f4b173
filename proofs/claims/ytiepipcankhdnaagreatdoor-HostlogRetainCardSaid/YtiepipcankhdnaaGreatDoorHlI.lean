/- A host's log: its first number, its end, how many segments: walked. -/
import Derived.Test.YtiepipcankhdnaaGreatDoorHlH
namespace Go.Proofs.YtiepipcankhdnaaGreatDoor
set_option linter.unusedSimpArgs false
set_option linter.unusedVariables false
set_option maxRecDepth 100000
open Go.RowKit Go.Maps
open Dsk

section
variable {w0 w w' : World} {X H S : Nat → Prop} {v lv : Value} {d d' : Dk} {j B : Nat} {h : Hl} {vs : List SegV} {l : List Sg}
theorem LogRows.below (h : LogRows B w lv vs l) (x : Below w.heap.size w w') : LogRows B w' lv vs l := h.chg (S := fun _ => False) (Chg.of_below x) fun _ _ e => e
set_option maxHeartbeats 1000000 in
theorem hfirst_any (h0 : HS w0 X H w v d j h) (hl : h.l.length ≤ 1000000) :
    Calls Tryz.prog 17 #[.pointer (some ⟨j, 0, none⟩)] w fun e w' => e = .returned (.int .i64 ((if h.runs d then firstOf h.l else 0 : Nat) : Int)) ∧ Below w.heap.size w w' := by
  have HR := Lib.hid (hruns_any h0)
  obtain ⟨lv, vs, hb, hr, _⟩ := h0.mem
  by_cases hrun : h.runs d
  · rw [if_pos hrun] at HR ⊢
    obtain ⟨l, hle⟩ : ∃ l, l = h.l := ⟨_, rfl⟩
    rw [← hle] at hl hr ⊢
    cases l with
    | nil =>
      obtain ⟨x, c, rfl⟩ := hr.none_
      have hjl := hb.lt
      have c3 := hb.cell 3
      simp at c3
      clear h0 hrun hr hb hle
      go_enter Tryz.func17, Tryz.ntmps17
      go_wp2_with fail
      refine HR.out.mono ?_
      rintro e w1 ⟨rfl, hb1⟩
      have g3 := (hb1.cell (p := ⟨j, 3, none⟩) hjl).trans c3
      have HB := Lib.hid hb1
      clear hb1 c3
      go_wp2_with fail
      go_ret
      exact ⟨rfl, HB.out⟩
    | cons a r =>
      obtain ⟨g, c, sx, sc, ex, ec, rfl, hc, hs, _⟩ := hr.seg 0 (by simp)
      have hjl := hb.lt
      have c3 := hb.cell 3
      have s0 := hs.c0
      have hgl := hs.lt
      obtain ⟨m, hm⟩ : ∃ m, m = (a :: r).length := ⟨_, rfl⟩
      rw [← hm] at c3 hc hl
      have hm0 : 0 < m := by rw [hm]; simp
      have hm1 : (0 : Int) < m := by omega
      have t0 : ((m : Int) == 0) = false := by rw [beq_eq_false_iff_ne]; omega
      obtain ⟨n, hn⟩ : ∃ n, n = a.first := ⟨_, rfl⟩
      have e0 : (a :: r)[0] = a := rfl
      rw [e0, ← hn] at s0
      have e1 : firstOf (a :: r) = n := hn.symm
      rw [e1]
      simp at c3 s0
      clear h0 hrun hr hb hle hs hm hn e1 e0
      go_enter Tryz.func17, Tryz.ntmps17
      go_wp2_with fail
      refine HR.out.mono ?_
      rintro e w1 ⟨rfl, hb1⟩
      have g3 := (hb1.cell (p := ⟨j, 3, none⟩) hjl).trans c3
      have g0 := (hb1.cell (p := ⟨g, 0, none⟩) hgl).trans s0
      have HB := Lib.hid hb1
      clear hb1 c3 s0
      go_wp2_with fail
      go_ret
      exact ⟨rfl, HB.out⟩
  · rw [if_neg hrun] at HR ⊢
    clear h0 hrun hr hb
    go_enter Tryz.func17, Tryz.ntmps17
    go_wp2_with fail
    refine HR.out.mono ?_
    rintro e w1 ⟨rfl, hb1⟩
    have HB := Lib.hid hb1
    clear hb1
    go_wp2_with fail
    go_ret
    exact ⟨rfl, HB.out⟩
set_option maxHeartbeats 1000000 in
theorem hsegments_any (h0 : HS w0 X H w v d j h) (hl : h.l.length ≤ 1000000) :
    Calls Tryz.prog 24 #[.pointer (some ⟨j, 0, none⟩)] w fun e w' => e = .returned (.int .i64 ((if h.runs d then h.l.length else 0 : Nat) : Int)) ∧ Below w.heap.size w w' := by
  have HR := Lib.hid (hruns_any h0)
  obtain ⟨lv, vs, hb, hr, _⟩ := h0.mem
  by_cases hrun : h.runs d
  · rw [if_pos hrun] at HR ⊢
    obtain ⟨x, c, rfl⟩ := hr.row.shape
    rw [hr.len] at hb
    obtain ⟨m, hm⟩ : ∃ m, m = h.l.length := ⟨_, rfl⟩
    rw [← hm] at hb ⊢
    have hjl := hb.lt
    have c3 := hb.cell 3
    simp at c3
    clear h0 hrun hr hb hm
    go_enter Tryz.func24, Tryz.ntmps24
    go_wp2_with fail
    refine HR.out.mono ?_
    rintro e w1 ⟨rfl, hb1⟩
    have g3 := (hb1.cell (p := ⟨j, 3, none⟩) hjl).trans c3
    have HB := Lib.hid hb1
    clear hb1 c3
    go_wp2_with fail
    go_ret
    exact ⟨rfl, HB.out⟩
  · rw [if_neg hrun] at HR ⊢
    clear h0 hrun hr hb
    go_enter Tryz.func24, Tryz.ntmps24
    go_wp2_with fail
    refine HR.out.mono ?_
    rintro e w1 ⟨rfl, hb1⟩
    have HB := Lib.hid hb1
    clear hb1
    go_wp2_with fail
    go_ret
    exact ⟨rfl, HB.out⟩
set_option maxHeartbeats 1000000 in
theorem hendn_any (h0 : HS w0 X H w v d j h) (hl : h.l.length ≤ 1000000) (hn : nextOf h.l ≤ 1000000000) :
    Calls Tryz.prog 16 #[.pointer (some ⟨j, 0, none⟩)] w fun e w' => e = .returned (.int .i64 ((if h.runs d then nextOf h.l else 0 : Nat) : Int)) ∧ Below w.heap.size w w' := by
  have HR := Lib.hid (hruns_any h0)
  obtain ⟨lv, vs, hb, hr, _⟩ := h0.mem
  by_cases hrun : h.runs d
  · rw [if_pos hrun] at HR ⊢
    have HBK := Lib.hid hb
    have HRW := Lib.hid hr
    rcases List.eq_nil_or_concat h.l with he | ⟨init, a, he⟩
    · rw [he] at hr ⊢
      obtain ⟨x, c, rfl⟩ := hr.none_
      have hjl := hb.lt
      have c3 := hb.cell 3
      simp at c3
      have e0 : nextOf [] = 0 := rfl
      rw [e0]
      clear h0 hrun hr hb he e0 HBK HRW
      go_enter Tryz.func16, Tryz.ntmps16
      go_wp2_with fail
      refine HR.out.mono ?_
      rintro e w1 ⟨rfl, hb1⟩
      have g3 := (hb1.cell (p := ⟨j, 3, none⟩) hjl).trans c3
      have HB := Lib.hid hb1
      clear hb1 c3
      go_wp2_with fail
      go_ret
      exact ⟨rfl, HB.out⟩
    · rw [List.concat_eq_append] at he
      have hlen : h.l.length = init.length + 1 := by rw [he]; simp
      obtain ⟨g, c, sx, sc, ex, ec, rfl, hc, hs, hdep⟩ := hr.seg init.length (by omega)
      clear hdep
      have ea : h.l[init.length]'(by omega) = a := by simp [he]
      rw [ea] at hs
      rw [he, nextOf_snoc] at hn ⊢
      have HL := Lib.hid (fun (W : World) (hW : Below w.heap.size w W) => hlast_any (HBK.out.below hW) (HRW.out.below hW) hl)
      rw [hlen] at HL hb
      have elp : lastPtr (.slice (some ⟨g, 0, none⟩) (init.length + 1) c) (init.length + 1) = .pointer (some ⟨g, init.length * 3, none⟩) := rfl
      rw [elp] at HL
      obtain ⟨n, hnn⟩ : ∃ n, n = init.length := ⟨_, rfl⟩
      rw [← hnn] at hs HL hb
      obtain ⟨m, hm⟩ : ∃ m, m = n + 1 := ⟨_, rfl⟩
      rw [← hm] at hb
      have hjl := hb.lt
      have c3 := hb.cell 3
      simp at c3
      have t0 : ((m : Int) == 0) = false := by rw [beq_eq_false_iff_ne]; omega
      have hgl := hs.lt
      have s0 := hs.c0
      have s1 := hs.c1
      have s2 := hs.c2
      obtain ⟨sn, hsn⟩ : ∃ sn, sn = a.spans.length := ⟨_, rfl⟩
      obtain ⟨fn, hfn⟩ : ∃ fn, fn = a.first := ⟨_, rfl⟩
      obtain ⟨nx, hnx⟩ : ∃ nx, nx = a.next := ⟨_, rfl⟩
      rw [← hsn] at s1 s2
      rw [← hfn] at s0
      rw [← hnx] at hn ⊢
      have HN := Lib.hid (fun W : World => segNext_any (w := W) (n := fn) (m := nx) sx ex sn sc sn ec (by rw [hnx, hfn, hsn]; rfl) (by omega))
      unfold segVal at HN
      clear h0 hrun hr hb he HBK HRW hlen hs ea hnn hm hsn hfn hnx elp hc hl
      go_enter Tryz.func16, Tryz.ntmps16
      go_wp2_with fail
      refine HR.out.mono ?_
      rintro e w1 ⟨rfl, hb1⟩
      have g3 := (hb1.cell (p := ⟨j, 3, none⟩) hjl).trans c3
      have HB := Lib.hid hb1
      clear hb1 c3
      go_wp2_with fail
      refine (HL.out w1 HB.out).mono ?_
      rintro e w2 ⟨rfl, hb2⟩
      have HB2 := Lib.hid (HB.out.trans (hb2.mono HB.out.size))
      have q0 := (HB2.out.cell (p := ⟨g, n * 3, none⟩) hgl).trans s0
      have q1 := (HB2.out.cell (p := ⟨g, n * 3 + 1, none⟩) hgl).trans s1
      have q2 := (HB2.out.cell (p := ⟨g, n * 3 + 2, none⟩) hgl).trans s2
      clear hb2 g3 s0 s1 s2
      go_wp2_with fail
      refine (HN.out w2).mono ?_
      rintro e w3 ⟨rfl, hb3⟩
      have HB3 := Lib.hid (HB2.out.trans (hb3.mono HB2.out.size))
      clear hb3
      go_wp2_with fail
      go_ret
      exact ⟨rfl, HB3.out⟩
  · rw [if_neg hrun] at HR ⊢
    clear h0 hrun hr hb
    go_enter Tryz.func16, Tryz.ntmps16
    go_wp2_with fail
    refine HR.out.mono ?_
    rintro e w1 ⟨rfl, hb1⟩
    have HB := Lib.hid hb1
    clear hb1
    go_wp2_with fail
    go_ret
    exact ⟨rfl, HB.out⟩
end
end Go.Proofs.YtiepipcankhdnaaGreatDoor
