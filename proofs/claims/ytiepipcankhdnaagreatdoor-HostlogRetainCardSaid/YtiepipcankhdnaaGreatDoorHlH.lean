/- A host's log: what an act came to; the last segment; its numbers: walked. -/
import Derived.Test.YtiepipcankhdnaaGreatDoorHlG
namespace Go.Proofs.YtiepipcankhdnaaGreatDoor
set_option linter.unusedSimpArgs false
set_option linter.unusedVariables false
set_option maxRecDepth 100000
open Go.RowKit Go.Maps
open Dsk

section
variable {w0 w w' : World} {X H S : Nat → Prop} {v lv : Value} {d d' : Dk} {j B : Nat} {h : Hl} {vs : List SegV} {l : List Sg}
/-- A segment in its row. -/
structure SegIn (B : Nat) (w : World) (g i : Nat) (a : Sg) (sv ev : Value) : Prop where
  low : B ≤ g
  lt : g < w.heap.size
  c0 : w.cell? ⟨g, i * 3, none⟩ = some (.int .i64 a.first)
  c1 : w.cell? ⟨g, i * 3 + 1, none⟩ = some sv
  c2 : w.cell? ⟨g, i * 3 + 2, none⟩ = some ev
  f1 : w.frozen? ⟨g, i * 3 + 1, none⟩ = false
  f2 : w.frozen? ⟨g, i * 3 + 2, none⟩ = false
  spans : OwnSp w B sv a.spans
  ends : OwnI w B ev (sgEnds a.spans)
theorem LogRows.seg (hr : LogRows B w lv vs l) (i : Nat) (hi : i < l.length) : ∃ g c sx sc ex ec, lv = .slice (some ⟨g, 0, none⟩) l.length c ∧ l.length ≤ c ∧ SegIn B w g i l[i] (.slice sx l[i].spans.length sc) (.slice ex l[i].spans.length ec) ∧
    ∃ hi' : i < vs.length, vs[i].sv = .slice sx l[i].spans.length sc ∧ vs[i].ev = .slice ex l[i].spans.length ec := by
  have hi' : i < vs.length := by rw [hr.len]; exact hi
  obtain ⟨g, c, hlv, hc, hB, hg, hcs⟩ := hr.row.at_ segRow_len i hi'
  have hs := hr.each i hi' hi
  obtain ⟨sx, sc, hsv⟩ := OwnRow.shape hs.spans
  obtain ⟨ex, ec, hev, _⟩ := hs.ends.each
  rw [sgEnds_length] at hev
  rw [hr.len] at hlv hc
  obtain ⟨a0, b0⟩ := hcs 0 _ rfl
  obtain ⟨a1, b1⟩ := hcs 1 _ rfl
  obtain ⟨a2, b2⟩ := hcs 2 _ rfl
  refine ⟨g, c, sx, sc, ex, ec, hlv, hc, ⟨hB, hg, ?_, by rw [← hsv]; exact a1, by rw [← hev]; exact a2, b1, b2, by rw [← hsv]; exact hs.spans, by rw [← hev]; exact hs.ends⟩, hi', hsv, hev⟩
  rw [← hs.first]
  exact a0
theorem LogRows.none_ (hr : LogRows B w lv vs []) : ∃ x c, lv = .slice x 0 c := by
  obtain ⟨x, c, h⟩ := hr.row.shape
  rw [hr.len] at h
  exact ⟨x, c, h⟩
set_option maxHeartbeats 1000000 in
theorem hdoes_any (h0 : HS w0 X H w v d j h) (r : Int) :
    Calls Tryz.prog 47 #[.pointer (some ⟨j, 0, none⟩), .int .i64 r] w fun e w' => e = .returned (.int .i64 r) ∧ HS w0 X H w' v d j (h.told r) ∧ HK X H w w' := by
  obtain ⟨bd, hv⟩ := h0.ptr
  have hH : H j := by obtain ⟨lv, vs, _, _, hi⟩ := h0.mem; exact hi j (.inl rfl)
  have HT := Lib.hid (fun b => h0.told b)
  obtain ⟨lv, vs, hb, hr, hi⟩ := h0.mem
  obtain ⟨_, _, c2, _⟩ := blk4 hb
  have f2 := hb.free 2
  obtain ⟨b, hbv⟩ : ∃ b, b = (h.lost || (r != 0 && r != 50)) := ⟨_, rfl⟩
  have hfin : HS w0 X H (w.setCell ⟨j, 2, none⟩ (.bool b)) v d j (h.told r) ∧ HK X H w (w.setCell ⟨j, 2, none⟩ (.bool b)) := by
    obtain ⟨x1, x2⟩ := HT.out b
    refine ⟨?_, Chg.mono x2 fun k _ e => .inr (by have e : k = j := e; subst e; exact hH)⟩
    unfold Hl.told
    rw [← hbv]
    exact x1
  have HF := Lib.hid hfin
  obtain ⟨lost, hl⟩ : ∃ lost, lost = h.lost := ⟨_, rfl⟩
  rw [← hl] at c2 hbv
  have HBV := Lib.hid hbv
  clear hfin hb hr hi h0 HT hH hl hbv
  cases lost with
  | true =>
    have hb2 : b = true := HBV.out
    subst hb2
    go_enter Tryz.func47, Tryz.ntmps47
    go_wp2_with fail
    go_ret
    exact ⟨rfl, HF.out⟩
  | false =>
    by_cases h1 : r = 0
    · subst h1
      have hb2 : b = false := HBV.out
      subst hb2
      go_enter Tryz.func47, Tryz.ntmps47
      go_wp2_with fail
      go_ret
      exact ⟨rfl, HF.out⟩
    · have t1 : (r == 0) = false := beq_eq_false_iff_ne.2 h1
      by_cases h2 : r = 50
      · subst h2
        have hb2 : b = false := HBV.out
        subst hb2
        go_enter Tryz.func47, Tryz.ntmps47
        go_wp2_with fail
        go_ret
        exact ⟨rfl, HF.out⟩
      · have t2 : (r == 50) = false := beq_eq_false_iff_ne.2 h2
        have hb2 : b = (r != 0 && r != 50) := HBV.out
        subst hb2
        go_enter Tryz.func47, Tryz.ntmps47
        go_wp2_with fail
        go_ret
        exact ⟨rfl, HF.out⟩
/-- The last segment's place. -/
def lastPtr (lv : Value) (n : Nat) : Value := match lv, n with
  | .slice (some a) _ _, n + 1 => .pointer (some ⟨a.block, n * 3, none⟩)
  | _, _ => .pointer none
set_option maxHeartbeats 1000000 in
theorem hlast_any (hb : Blk w j 46 #[v, .int .i64 h.st, .bool h.lost, lv]) (hr : LogRows B w lv vs l) (hl : l.length ≤ 1000000) :
    Calls Tryz.prog 46 #[.pointer (some ⟨j, 0, none⟩)] w fun e w' => e = .returned (lastPtr lv l.length) ∧ Below w.heap.size w w' := by
  obtain ⟨_, _, _, c3⟩ := blk4 hb
  obtain ⟨n, hn⟩ : ∃ n, n = l.length := ⟨_, rfl⟩
  rw [← hn]
  cases n with
  | zero =>
    have hl0 : l = [] := List.length_eq_zero_iff.1 hn.symm
    subst hl0
    obtain ⟨x, c, rfl⟩ := hr.none_
    have e : lastPtr (.slice x 0 c) 0 = .pointer none := by unfold lastPtr; cases x <;> rfl
    rw [e]
    clear hr hb e hn hl
    go_enter Tryz.func46, Tryz.ntmps46
    go_wp2_with fail
    go_ret
    exact ⟨rfl, Below.refl _ _⟩
  | succ n =>
    obtain ⟨g, c, sx, sc, ex, ec, hlv, hc, hs, _⟩ := hr.seg n (by omega)
    rw [← hn] at hlv hc
    subst hlv
    have e : lastPtr (.slice (some ⟨g, 0, none⟩) (n + 1) c) (n + 1) = .pointer (some ⟨g, n * 3, none⟩) := rfl
    rw [e]
    obtain ⟨m, hm⟩ : ∃ m, m = n + 1 := ⟨_, rfl⟩
    rw [← hm] at c3 hc hn
    have hm1 : (m : Int) - 1 = (n : Int) := by omega
    have hm2 : (0 : Int) ≤ (n : Int) := by omega
    have hm3 : (n : Int) < m := by omega
    have t0 : ((m : Int) == 0) = false := by rw [beq_eq_false_iff_ne]; omega
    have hn5 : n ≤ 1000000 := by omega
    have hw5 : IntKind.i64.wrap (n : Int) = n := by rw [IntKind.wrap_i64]; omega
    clear hr hb e hs hc hm hn hl
    go_enter Tryz.func46, Tryz.ntmps46
    go_wp2_with fail
    go_quiet (fail)
    go_wp2_with fail
    go_ret
    exact ⟨rfl, belowD _ _⟩
theorem hend_any (hb : Blk w j 46 #[v, .int .i64 h.st, .bool h.lost, lv]) (hr : LogRows B w lv vs l) (hl : l.length ≤ 1000000) :
    Calls Tryz.prog 52 #[.pointer (some ⟨j, 0, none⟩)] w fun e w' => e = .returned (lastPtr lv l.length) ∧ Below w.heap.size w w' := by
  have H := Lib.hid (hlast_any hb hr hl)
  clear hb hr hl
  go_enter Tryz.func52, Tryz.ntmps52
  go_wp2_with fail
  refine H.out.mono ?_
  rintro e w1 ⟨rfl, hb1⟩
  have HB := Lib.hid hb1
  clear hb1
  go_wp2_with fail
  go_ret
  exact ⟨rfl, HB.out⟩
end
end Go.Proofs.YtiepipcankhdnaaGreatDoor
