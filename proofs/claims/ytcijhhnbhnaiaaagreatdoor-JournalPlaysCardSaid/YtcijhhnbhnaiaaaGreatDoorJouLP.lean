/- Two rows of cells held against each other; the chapter's two cells: walked. The chapter's journal, reckoned. -/
import Derived.Test.YtcijhhnbhnaiaaaGreatDoorJouA
import Derived.Laws.StructEq
import Derived.BigQuiet
import Derived.Test.YtcijhhnbhnaiaaaGreatDoorJouJ
namespace Go.Proofs.YtcijhhnbhnaiaaaGreatDoor
set_option linter.unusedSimpArgs false
set_option linter.unusedVariables false
set_option maxRecDepth 100000
open Go.RowKit

def cEq (a b : Jou.Cell) : Bool := a.key.toList == b.key.toList && a.seq == b.seq && a.val.toList == b.val.toList
theorem cEq_iff (a b : Jou.Cell) : cEq a b = true ↔ a = b := by
  obtain ⟨⟨k⟩, s, ⟨v⟩⟩ := a
  obtain ⟨⟨k'⟩, s', ⟨v'⟩⟩ := b
  unfold cEq
  simp [ByteArray.toList_eq, and_assoc]
theorem cell_fields : Tryz.prog.underlying 81 = some (.struct (Tryz.prog.fieldsOf 81)) := by kernel_rfl
theorem str_under : Tryz.prog.underlying 9 = some .string := by kernel_rfl
theorem int_under : Tryz.prog.underlying 3 = some (.int .i64) := by kernel_rfl
theorem cell_equal (a b : Jou.Cell) (w : World) : (Op.equalIn 10000 81 (celV a) (celV b)).run Tryz.prog w = .ok (cEq a b) w := by
  have u3 := Tryz.underlying3
  have a3 := Tryz.isAgg3
  have z3 := Tryz.sizeOf3
  have u9 := Tryz.underlying9
  have a9 := Tryz.isAgg9
  have z9 := Tryz.sizeOf9
  unfold celV
  rw [show (10000 : Nat) = 9999 + 1 from rfl, run_equalIn_agg w 9999 81 _ _ cell_fields (by kernel_rfl)]
  simp only [Program.fieldsOf, Tryz.underlying81]
  unfold cEq
  go_simp
  cases h1 : (a.key.toList == b.key.toList) <;> cases h2 : (a.seq == b.seq) <;> cases h3 : (a.val.toList == b.val.toList) <;> simp_all
theorem cell_neq (a b : Jou.Cell) (w : World) : (binOp .neq 81 (celV a) (celV b)).run Tryz.prog w = .ok (.bool (!cEq a b)) w := by
  have h := cell_equal a b w
  unfold celV at h ⊢
  rw [run_neq_struct, h]
  rfl
open Classical in
/-- Are they the same? -/
noncomputable def sameC (a b : List Jou.Cell) : Bool := decide (a = b)
theorem sameC_true {a b : List Jou.Cell} (h : a = b) : sameC a b = true := by unfold sameC; simp [h]
theorem sameC_false {a b : List Jou.Cell} (h : ¬ a = b) : sameC a b = false := by unfold sameC; simp [h]
set_option maxHeartbeats 2000000 in
theorem sameCells_any (u v : Value) (a b : List Jou.Cell) (w : World) (ha : RdC w u a) (hb : RdC w v b) (hla : a.length ≤ 1000000000) (hlb : b.length ≤ 1000000000) :
    Calls Tryz.prog 18 #[u, v] w fun e w' => e = .returned (.bool (sameC a b)) ∧ Below w.heap.size w w' := by
  obtain ⟨x, c, rfl, _, hx⟩ := ha
  obtain ⟨y, d, rfl, _, hy⟩ := hb
  have HX := Lib.hid hx
  have HY := Lib.hid hy
  obtain ⟨n, hn⟩ : ∃ n, n = a.length := ⟨_, rfl⟩
  obtain ⟨m, hm⟩ : ∃ m, m = b.length := ⟨_, rfl⟩
  rw [← hn] at hla ⊢
  rw [← hm] at hlb ⊢
  have HN := Lib.hid hn
  have HM := Lib.hid hm
  obtain ⟨R, hR⟩ : ∃ R, R = sameC a b := ⟨_, rfl⟩
  rw [← hR]
  have HR := Lib.hid hR
  clear hx hy hn hm hR
  by_cases hnm : n = m
  case neg =>
    have t1 : ((n : Int) == m) = false := by rw [beq_eq_false_iff_ne]; omega
    have hr2 : R = false := HR.out.trans (sameC_false fun e => hnm (by rw [HN.out, HM.out, e]))
    subst hr2
    clear hnm
    go_enter Tryz.func18, Tryz.ntmps18
    go_wp2_with fail
    go_ret
    exact ⟨rfl, Below.refl _ _⟩
  case pos =>
    subst hnm
    go_enter Tryz.func18, Tryz.ntmps18
    go_wp2_with fail
    go_loopw [5] (fun v5 wr => ∃ k : Nat, v5 = .int .i64 k ∧ k ≤ n ∧ Below w.heap.size w wr ∧ ∀ (j : Nat) (hj : j < a.length) (hj' : j < b.length), j < k → a[j] = b[j]) (fun v5 _ => n - (intOf v5).toNat)
    case atStart => exact ⟨0, rfl, by omega, Below.refl _ _, fun j _ _ hj => absurd hj (by omega)⟩
    case round =>
      obtain ⟨k, rfl, hk, hb, hsm⟩ := hrel
      have HB := Lib.hid hb
      have HSM := Lib.hid hsm
      clear hb hsm
      by_cases hlt : k < n
      · have hlt2 : (k : Int) < n := by omega
        have hka : k < a.length := by rw [← HN.out]; exact hlt
        have hkb : k < b.length := by rw [← HM.out]; exact hlt
        obtain ⟨b1, o1, rfl, l1, p0, p1, p2⟩ := HX.out k hka
        obtain ⟨b2, o2, rfl, l2, q0, q1, q2⟩ := HY.out k hkb
        have g0 := (HB.out.cell (p := ⟨b1, o1 + k * 3, none⟩) l1).trans p0
        have g1 := (HB.out.cell (p := ⟨b1, o1 + k * 3 + 1, none⟩) l1).trans p1
        have g2 := (HB.out.cell (p := ⟨b1, o1 + k * 3 + 2, none⟩) l1).trans p2
        have g3 := (HB.out.cell (p := ⟨b2, o2 + k * 3, none⟩) l2).trans q0
        have g4 := (HB.out.cell (p := ⟨b2, o2 + k * 3 + 1, none⟩) l2).trans q1
        have g5 := (HB.out.cell (p := ⟨b2, o2 + k * 3 + 2, none⟩) l2).trans q2
        obtain ⟨ca, hca⟩ : ∃ ca, ca = a[k] := ⟨_, rfl⟩
        obtain ⟨cb, hcb⟩ : ∃ cb, cb = b[k] := ⟨_, rfl⟩
        rw [← hca] at g0 g1 g2
        rw [← hcb] at g3 g4 g5
        have hne := fun W => cell_neq ca cb W
        unfold celV at hne
        obtain ⟨eb, heb⟩ : ∃ eb, eb = cEq ca cb := ⟨_, rfl⟩
        simp only [← heb] at hne
        have HEB := Lib.hid heb
        have HCA := Lib.hid hca
        have HCB := Lib.hid hcb
        clear p0 p1 p2 q0 q1 q2 hca hcb heb
        cases eb with
        | false =>
          have hr2 : R = false := HR.out.trans (sameC_false fun e => by
            have h1 : ca = cb := by rw [HCA.out, HCB.out]; simp [e]
            have := (cEq_iff ca cb).2 h1
            rw [← HEB.out] at this
            cases this)
          subst hr2
          go_wp2_with fail
          go_quiet (fail)
          go_wp2_with fail
          go_ret
          exact ⟨rfl, HB.out.trans ((((Chg.refl (fun _ => False) wr).drewN nq).below (Nat.le_refl _) (fun _ _ e => e)).mono HB.out.size)⟩
        | true =>
          have hee := (cEq_iff ca cb).1 HEB.out.symm
          have HEE := Lib.hid hee
          clear hee
          go_wp2_with fail
          go_quiet (fail)
          go_wp2_with fail
          go_roundw
          case rel => exact ⟨k + 1, by go_num, by omega, HB.out.trans ((((Chg.refl (fun _ => False) wr).drewN nq).below (Nat.le_refl _) (fun _ _ e => e)).mono HB.out.size), fun j hj hj' hjk => (by
            by_cases e : j < k
            · exact HSM.out j hj hj' e
            · obtain rfl : j = k := by omega
              rw [← HCA.out, ← HCB.out]; exact HEE.out)⟩
          case measure => simp [intOf]; omega
      · have hge : ¬ (k : Int) < n := by omega
        have hr2 : R = true := HR.out.trans (sameC_true (List.ext_getElem (by rw [← HN.out, ← HM.out]) fun j h1 h2 => HSM.out j h1 h2 (by have := HN.out; omega)))
        subst hr2
        go_wp2_with fail
        go_ret
        exact ⟨rfl, HB.out⟩
def jc1 : Jou.Cell := ⟨⟨#[97]⟩, 1, ⟨#[120]⟩⟩
def jc2 : Jou.Cell := ⟨⟨#[98]⟩, 2, ⟨#[]⟩⟩
theorem two_any (w : World) : Calls Tryz.prog 30 #[] w fun e w' => e = .returned (.slice (some ⟨w.heap.size, 0, none⟩) 2 2) ∧ RdC w' (.slice (some ⟨w.heap.size, 0, none⟩) 2 2) [jc1, jc2] ∧ Below w.heap.size w w' := by
  obtain ⟨w1, hw1⟩ : ∃ w1, w1 = w.alloc (.cells #[.string ⟨#[97]⟩, .int .i64 1, .string ⟨#[120]⟩, .string ⟨#[98]⟩, .int .i64 2, .string ⟨#[]⟩] 81 (0, 0)) := ⟨_, rfl⟩
  have HB := Lib.hid (show Below w.heap.size w w1 by rw [hw1]; exact (Below.refl _ _).alloc (Nat.le_refl _) _)
  have hk : Blk w1 w.heap.size 81 #[.string ⟨#[97]⟩, .int .i64 1, .string ⟨#[120]⟩, .string ⟨#[98]⟩, .int .i64 2, .string ⟨#[]⟩] := by rw [hw1]; exact Blk.alloc_new _ _ _
  have HR := Lib.hid (show RdC w1 (.slice (some ⟨w.heap.size, 0, none⟩) 2 2) [jc1, jc2] from ⟨_, 2, rfl, Nat.le_refl _, fun j hj => by
    rcases (show j = 0 ∨ j = 1 by simp at hj; omega) with rfl | rfl
    · exact ⟨_, 0, rfl, hk.lt, hk.cell 0, hk.cell 1, hk.cell 2⟩
    · exact ⟨_, 0, rfl, hk.lt, hk.cell 3, hk.cell 4, hk.cell 5⟩⟩)
  have HW := Lib.hid hw1
  clear hk hw1
  go_enter Tryz.func30, Tryz.ntmps30
  go_wp2_with fail
  rw [← HW.out]
  go_ret
  exact ⟨rfl, HR.out, HB.out⟩
end Go.Proofs.YtcijhhnbhnaiaaaGreatDoor
namespace Go.Proofs.YtcijhhnbhnaiaaaGreatDoor
set_option linter.unusedSimpArgs false
set_option linter.unusedVariables false
set_option maxRecDepth 100000
open Dsk

theorem jn3 : jn 3 = [106, 51] := by unfold jn; rw [Lib.decDigits_one (by decide)]; rfl
theorem jn5 : jn 5 = [106, 53] := by unfold jn; rw [Lib.decDigits_one (by decide)]; rfl
theorem jn1 : jn 1 = [106, 49] := by unfold jn; rw [Lib.decDigits_one (by decide)]; rfl
/-- jApp, by a file's name. -/
def jAppS (d : Dk) (name : Str) (l : List Jou.Cell) : Int × Bool × Dk :=
  if (encQ l).2 ≠ 0 then ((encQ l).2, false, d)
  else if l.length = 0 then (0, false, d)
  else if 16384 < (encQ l).1.length then (3, false, d)
  else
    let a := d.append name (Frm.frame (encQ l).1)
    if a.1 ≠ 0 then (a.1, a.1 != 50, a.2)
    else
      let b := a.2.sync name
      if b.1 ≠ 0 then (b.1, true, b.2) else (0, false, b.2)
theorem jApp_eq (d : Dk) (n : Nat) (l : List Jou.Cell) : jApp d n l = jAppS d (jn n) l := rfl
theorem trip_of {x : Int × Bool × Dk} {r : Int} {b : Bool} {d : Dk} (h1 : x.1 = r) (h2 : x.2.1 = b) (h3 : x.2.2 = d) : x = (r, b, d) := by rw [← h1, ← h2, ← h3]
theorem dpair_of {x : Int × Dk} {r : Int} {d : Dk} (h1 : x.1 = r) (h2 : x.2 = d) : x = (r, d) := by rw [← h1, ← h2]
def jd0 : Dk := Dk.new 10000
def jd1 : Dk := (jAppS jd0 [106, 51] [jc1, jc2]).2.2
def jd2 : Dk := (jd1.crash []).2
def jd3 : Dk := jd2.start.2
def jd4 : Dk := (jd3.remove [106, 51]).2
def jd5 : Dk := (jAppS jd4 [106, 53] [jc1]).2.2
def jb1 : Str := Jou.enc [jc1, jc2]
def jb5 : Str := Jou.enc [jc1]
def jt1 : Str := Frm.frame jb1
def jt5 : Str := Frm.frame jb5
theorem ja1 : jApp jd0 3 [jc1, jc2] = (0, false, jd1) := by
  rw [jApp_eq, jn3]
  exact trip_of (by decide +kernel) (by decide +kernel) rfl
theorem ja5 : jApp jd4 5 [jc1] = (0, false, jd5) := by
  rw [jApp_eq, jn5]
  exact trip_of (by decide +kernel) (by decide +kernel) rfl
theorem ja0 : jApp jd5 5 [] = (0, false, jd5) := by
  rw [jApp_eq, jn5]
  exact trip_of (by decide +kernel) (by decide +kernel) (by
    unfold jAppS
    rw [if_neg (by decide +kernel), if_pos (by decide)])
theorem jN0 : names jd0.files = [] := by decide +kernel
theorem jN1 : names jd1.files = [jn 3] := by rw [jn3]; decide +kernel
theorem jN3 : names jd3.files = [jn 3] := by rw [jn3]; decide +kernel
theorem jN4 : names jd4.files = [] := by decide +kernel
theorem jN5 : names jd5.files = [jn 5] := by rw [jn5]; decide +kernel
theorem joff : jd0.off = false ∧ jd1.off = false ∧ jd3.off = false ∧ jd4.off = false ∧ jd5.off = false := by decide +kernel
theorem jst : jd0.starts = 0 ∧ jd1.starts = 0 ∧ jd3.starts = 1 ∧ jd4.starts = 1 ∧ jd5.starts = 1 := by decide +kernel
theorem jr1 : jd1.read (jn 3) = (jt1, 0) := by rw [jn3]; decide +kernel
theorem jr3 : jd3.read (jn 3) = (jt1, 0) := by rw [jn3]; decide +kernel
theorem jr5 : jd5.read (jn 5) = (jt5, 0) := by rw [jn5]; decide +kernel
theorem jcr : jd1.crash [] = (0, jd2) := dpair_of (by decide +kernel) rfl
theorem jsr : jd2.start = (0, jd3) := dpair_of (by decide +kernel) rfl
theorem jrm : jd3.remove (jn 3) = (0, jd4) := by rw [jn3]; exact dpair_of (by decide +kernel) rfl
theorem jlen : jt1.length = 17 ∧ jt5.length = 13 ∧ jb1.length = 9 ∧ jb5.length = 5 := by decide +kernel
theorem jw1 : Frm.whole jt1.length jt1 = ([jb1], jt1.length) := by decide +kernel
theorem jw5 : Frm.whole jt5.length jt5 = ([jb5], jt5.length) := by decide +kernel
theorem jmay : ∀ c ∈ [jc1, jc2], Jou.May c ∧ c.seq < 9223372036854775808 := by decide
theorem jdec1 : Jou.dec jb1 = some [jc1, jc2] := Jou.dec_enc _ jmay
theorem jdec5 : Jou.dec jb5 = some [jc1] := Jou.dec_enc _ (fun c hc => jmay c (by simp at hc; subst hc; simp))
end Go.Proofs.YtcijhhnbhnaiaaaGreatDoor
