/- Cursors as bytes, by the program and by the document, walked. -/
import Derived.Test.YtenbgfejonokdaaVarRef
import Derived.Test.YtenbgfejonokdaaCurPlain
import Derived.Deep.RegionHeld3
namespace Go.Proofs.Ytenbgfejonokdaa
set_option maxRecDepth 100000
open Go.RowKit

def curV (a b : Int) : Value := .agg #[.int .i64 a, .int .i64 b]
theorem may_any (a b : Int) (w : World) : Calls Try.prog 60 #[curV a b] w fun e w' => e = .returned (.bool (decide (Cur.May a b))) ∧ Below w.heap.size w w' := by
  unfold curV
  go_enter Try.func60, Try.ntmps60
  go_wp2_with fail
  · go_ret
    refine ⟨?_, (Below.refl _ _).alloc (Nat.le_refl _) _⟩
    have : decide (max a b ≤ 2147483647) = decide (Cur.May a b) := decide_eq_decide.2 (by unfold Cur.May; omega)
    rw [← this]; rfl
  · go_ret
    refine ⟨?_, (Below.refl _ _).alloc (Nat.le_refl _) _⟩
    have : decide (Cur.May a b) = false := decide_eq_false (by unfold Cur.May; omega)
    rw [this]; rfl
theorem refMay_any (a b : Int) (w : World) : Calls Try.prog 62 #[curV a b] w fun e w' => e = .returned (.bool (decide (Cur.May a b))) ∧ Below w.heap.size w w' := by
  unfold curV
  by_cases hm : Cur.May a b
  · rw [decide_eq_true hm]
    obtain ⟨h1, h2, h3, h4⟩ := hm
    go_enter Try.func62, Try.ntmps62
    go_wp2_with fail
    go_ret
    refine ⟨?_, (Below.refl _ _).alloc (Nat.le_refl _) _⟩
    simp
  · have hd : decide (Cur.May a b) = false := decide_eq_false hm
    rw [hd]
    unfold Cur.May at hm
    go_enter Try.func62, Try.ntmps62
    go_wp2_with fail
    all_goals
      go_ret
      refine ⟨?_, (Below.refl _ _).alloc (Nat.le_refl _) _⟩
      first | rfl | (simp; omega)
set_option maxHeartbeats 1000000 in
theorem encode_any (a b : Int) (w : World) (ha : -9223372036854775808 ≤ a ∧ a ≤ 9223372036854775807) (hb : -9223372036854775808 ≤ b ∧ b ≤ 9223372036854775807) :
    Calls Try.prog 15 #[curV a b] w fun e w' => e = .returned (.tuple #[.string ⟨(Cur.enc a b).1.toArray⟩, .int .i64 (Cur.enc a b).2]) ∧ Below w.heap.size w w' := by
  have Hm := Lib.hid (fun W : World => may_any a b W)
  unfold curV at Hm ⊢
  by_cases hm : Cur.May a b
  · rw [decide_eq_true hm] at Hm
    rw [Cur.enc_some hm]
    have hl1 := Var.put_len_le (Cur.may_lt ⟨hm.1, hm.2.1⟩)
    have hl2 := Var.put_len_le (Cur.may_lt hm.2.2)
    have e1 : Var.putI a = Var.put a.toNat := by unfold Var.putI; rw [if_neg (by have := hm.1; omega)]
    have e2 : Var.putI b = Var.put b.toNat := by unfold Var.putI; rw [if_neg (by have := hm.2.2.1; omega)]
    rw [← e1, ← e2]
    rw [← e1] at hl1
    rw [← e2] at hl2
    obtain ⟨pt, hpt⟩ : ∃ pt : Int → ByteArray, pt = fun n => ⟨(Var.putI n).toArray⟩ := ⟨_, rfl⟩
    have hss : (pt a).size ≤ 9 := by rw [hpt]; exact Nat.le_trans (Nat.le_of_eq List.size_toArray) hl1
    have htt : (pt b).size ≤ 9 := by rw [hpt]; exact Nat.le_trans (Nat.le_of_eq List.size_toArray) hl2
    have Hst := Lib.hid (show (⟨#[67]⟩ : ByteArray) ++ pt a ++ pt b = ⟨(67 :: (Var.putI a ++ Var.putI b)).toArray⟩ from by
      rw [hpt, show (⟨#[67]⟩ : ByteArray) = ⟨([67] : List UInt8).toArray⟩ from rfl, cat_list, cat_list]; rfl)
    have HP := Lib.hid (show ∀ (W : World) (n : Int), (n = a ∨ n = b) → Calls Try.prog 61 #[.int .i64 n] W fun e w' => e = .returned (.string (pt n)) ∧ Below W.heap.size W w' from fun W n hn => by
      rw [hpt]
      exact put_any n W (by rcases hn with rfl | rfl <;> assumption))
    clear hl1 hl2 hpt hm e1 e2 ha hb
    go_enter Try.func15, Try.ntmps15
    go_wp2_with fail
    refine (Hm.out _).mono ?_
    rintro e w1 ⟨rfl, hb1⟩
    have Hb1 := Lib.hid (((Below.refl w.heap.size w).alloc (Nat.le_refl _) _).trans (hb1.mono (by simp)))
    have c0 : w1.cell? ⟨w.heap.size, 0, none⟩ = some (.int .i64 a) := (hb1.cell (p := ⟨w.heap.size, 0, none⟩) (by simp)).trans ((Blk.alloc_new w _ _).cell 0)
    have c1 : w1.cell? ⟨w.heap.size, 1, none⟩ = some (.int .i64 b) := (hb1.cell (p := ⟨w.heap.size, 1, none⟩) (by simp)).trans ((Blk.alloc_new w _ _).cell 1)
    have hlt : w.heap.size < w1.heap.size := by have := hb1.size; simp at this; omega
    have d0 := fun x : Ext w1 => (x.le.cell (p := ⟨w.heap.size, 0, none⟩) hlt).trans c0
    have d1 := fun x : Ext w1 => (x.le.cell (p := ⟨w.heap.size, 1, none⟩) hlt).trans c1
    have HX := Lib.hid (fun (x : Ext w1) (n : Int) (hn : n = a ∨ n = b) => HP.out x.wd n hn)
    clear hb1 c0 c1
    go_wp2_with fail
    refine wp_region_ext (by kernel_rfl) (by kernel_rfl) fun K hK => ?_
    repeat (go_big_quiet_step ((go_at_call 61; exact Calls.ext_of (HX.out _ _ (by first | exact .inl rfl | exact .inr rfl)))))
    refine wpQuiet_nil (hK _ fun x => ?_)
    clear hK K
    have Hx := Lib.hid (Hb1.out.trans (x.le.mono (Nat.le_of_lt hlt)))
    go_wp2_with fail
    go_ret2
    rw [← Hst.out]
    exact ⟨rfl, Hx.out⟩
  · rw [decide_eq_false hm] at Hm
    rw [Cur.enc_none hm]
    clear hm
    go_enter Try.func15, Try.ntmps15
    go_wp2_with fail
    refine (Hm.out _).mono ?_
    rintro e w1 ⟨rfl, hb1⟩
    have Hb1 := Lib.hid (((Below.refl w.heap.size w).alloc (Nat.le_refl _) _).trans (hb1.mono (by simp)))
    clear hb1
    go_wp2_with fail
    go_ret2
    exact ⟨rfl, Hb1.out⟩
set_option maxHeartbeats 1000000 in
theorem refEncode_any (a b : Int) (w : World) (ha : -9223372036854775808 ≤ a ∧ a ≤ 9223372036854775807) (hb : -9223372036854775808 ≤ b ∧ b ≤ 9223372036854775807) :
    Calls Try.prog 16 #[curV a b] w fun e w' => e = .returned (.tuple #[.string ⟨(Cur.enc a b).1.toArray⟩, .int .i64 (Cur.enc a b).2]) ∧ Below w.heap.size w w' := by
  have Hm := Lib.hid (fun W : World => refMay_any a b W)
  unfold curV at Hm ⊢
  by_cases hm : Cur.May a b
  · rw [decide_eq_true hm] at Hm
    rw [Cur.enc_some hm]
    have hl1 := Var.put_len_le (Cur.may_lt ⟨hm.1, hm.2.1⟩)
    have hl2 := Var.put_len_le (Cur.may_lt hm.2.2)
    have e1 : Var.putI a = Var.put a.toNat := by unfold Var.putI; rw [if_neg (by have := hm.1; omega)]
    have e2 : Var.putI b = Var.put b.toNat := by unfold Var.putI; rw [if_neg (by have := hm.2.2.1; omega)]
    rw [← e1, ← e2]
    rw [← e1] at hl1
    rw [← e2] at hl2
    obtain ⟨pt, hpt⟩ : ∃ pt : Int → ByteArray, pt = fun n => ⟨(Var.putI n).toArray⟩ := ⟨_, rfl⟩
    have hss : (pt a).size ≤ 9 := by rw [hpt]; exact Nat.le_trans (Nat.le_of_eq List.size_toArray) hl1
    have htt : (pt b).size ≤ 9 := by rw [hpt]; exact Nat.le_trans (Nat.le_of_eq List.size_toArray) hl2
    have Hst := Lib.hid (show (⟨#[67]⟩ : ByteArray) ++ pt a ++ pt b = ⟨(67 :: (Var.putI a ++ Var.putI b)).toArray⟩ from by
      rw [hpt, show (⟨#[67]⟩ : ByteArray) = ⟨([67] : List UInt8).toArray⟩ from rfl, cat_list, cat_list]; rfl)
    have HP := Lib.hid (show ∀ (W : World) (n : Int), (n = a ∨ n = b) → Calls Try.prog 63 #[.int .i64 n] W fun e w' => e = .returned (.string (pt n)) ∧ Below W.heap.size W w' from fun W n hn => by
      rw [hpt]
      exact refPut_any n W (by rcases hn with rfl | rfl <;> assumption))
    clear hl1 hl2 hpt hm e1 e2 ha hb
    go_enter Try.func16, Try.ntmps16
    go_wp2_with fail
    refine (Hm.out _).mono ?_
    rintro e w1 ⟨rfl, hb1⟩
    have Hb1 := Lib.hid (((Below.refl w.heap.size w).alloc (Nat.le_refl _) _).trans (hb1.mono (by simp)))
    have c0 : w1.cell? ⟨w.heap.size, 0, none⟩ = some (.int .i64 a) := (hb1.cell (p := ⟨w.heap.size, 0, none⟩) (by simp)).trans ((Blk.alloc_new w _ _).cell 0)
    have c1 : w1.cell? ⟨w.heap.size, 1, none⟩ = some (.int .i64 b) := (hb1.cell (p := ⟨w.heap.size, 1, none⟩) (by simp)).trans ((Blk.alloc_new w _ _).cell 1)
    have hlt : w.heap.size < w1.heap.size := by have := hb1.size; simp at this; omega
    have d0 := fun x : Ext w1 => (x.le.cell (p := ⟨w.heap.size, 0, none⟩) hlt).trans c0
    have d1 := fun x : Ext w1 => (x.le.cell (p := ⟨w.heap.size, 1, none⟩) hlt).trans c1
    have HX := Lib.hid (fun (x : Ext w1) (n : Int) (hn : n = a ∨ n = b) => HP.out x.wd n hn)
    clear hb1 c0 c1
    go_wp2_with fail
    refine wp_region_ext (by kernel_rfl) (by kernel_rfl) fun K hK => ?_
    repeat (go_big_quiet_step ((go_at_call 63; exact Calls.ext_of (HX.out _ _ (by first | exact .inl rfl | exact .inr rfl)))))
    refine wpQuiet_nil (hK _ fun x => ?_)
    clear hK K
    have Hx := Lib.hid (Hb1.out.trans (x.le.mono (Nat.le_of_lt hlt)))
    go_wp2_with fail
    go_ret2
    rw [← Hst.out]
    exact ⟨rfl, Hx.out⟩
  · rw [decide_eq_false hm] at Hm
    rw [Cur.enc_none hm]
    clear hm
    go_enter Try.func16, Try.ntmps16
    go_wp2_with fail
    refine (Hm.out _).mono ?_
    rintro e w1 ⟨rfl, hb1⟩
    have Hb1 := Lib.hid (((Below.refl w.heap.size w).alloc (Nat.le_refl _) _).trans (hb1.mono (by simp)))
    clear hb1
    go_wp2_with fail
    go_ret2
    exact ⟨rfl, Hb1.out⟩
end Go.Proofs.Ytenbgfejonokdaa
