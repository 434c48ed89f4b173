/- Edits' bytes: a text's, a row's; is a reader at its end; walked. -/
import Derived.Test.YtcijhhnbhnaiaaaGreatEdRead2
import Derived.Test.YtcijhhnbhnaiaaaGreatEdMem
namespace Go.Proofs.YtcijhhnbhnaiaaaGreat
set_option linter.unusedSimpArgs false
set_option linter.unusedVariables false
set_option maxRecDepth 100000
open Go.RowKit

theorem cat_l (a b : List UInt8) : (⟨a.toArray⟩ : ByteArray) ++ ⟨b.toArray⟩ = ⟨(a ++ b).toArray⟩ := by
  apply bytes_ext
  simp
theorem cat_r (a : List UInt8) (b : ByteArray) : (⟨a.toArray⟩ : ByteArray) ++ b = ⟨(a ++ b.data.toList).toArray⟩ := by
  apply bytes_ext
  simp
theorem size_l (a : List UInt8) : (⟨a.toArray⟩ : ByteArray).size = a.length := List.size_toArray
theorem pn_len {n : Int} (h : n < 9223372036854775808) : (Ed.pn n).length ≤ 9 := by
  unfold Ed.pn Var.putI
  split
  · simp
  · exact Var.put_len_le (by rw [Var.pow9]; omega)
def pnB (n : Int) : ByteArray := ⟨(Ed.pn n).toArray⟩
theorem pnB_size {n : Int} (h : n < 9223372036854775808) : (pnB n).size ≤ 9 := by unfold pnB; rw [size_l]; exact pn_len h
theorem putP_any (n : Int) (w : World) (h0 : 0 ≤ n) (h : n < 9223372036854775808) :
    Calls Tryz.prog 35 #[.int .i64 n] w fun e w' => e = .returned (.string (pnB n)) ∧ Below w.heap.size w w' := by
  have e : Ed.pn n = Var.putI n := by unfold Ed.pn; rw [Int.max_eq_left h0]
  unfold pnB
  rw [e]
  exact put_any n w ⟨by omega, by omega⟩
theorem putM_any (n : Int) (w : World) (h : n < 9223372036854775808) :
    Calls Tryz.prog 35 #[.int .i64 (max n 0)] w fun e w' => e = .returned (.string (pnB n)) ∧ Below w.heap.size w w' := by
  have e : Ed.pn n = Var.putI (max n 0) := rfl
  unfold pnB
  rw [e]
  exact put_any (max n 0) w ⟨by omega, by omega⟩
def encTB (t : ByteArray) : ByteArray := ⟨(Ed.encT t.data.toList).toArray⟩
def encLB (l : List Int) : ByteArray := ⟨(Ed.encL l).toArray⟩
theorem list_len' (s : ByteArray) : s.data.toList.length = s.size := by simp
theorem putText_any (t : ByteArray) (w : World) (ht : t.size ≤ 1000000) :
    Calls Tryz.prog 37 #[.string t] w fun e w' => e = .returned (.string (encTB t)) ∧ Below w.heap.size w w' := by
  have hp := putP_any t.size w (by omega) (by omega)
  have hs := pnB_size (n := t.size) (by omega)
  have he : pnB t.size ++ t = encTB t := by
    unfold pnB encTB Ed.encT
    rw [cat_r, list_len']
  obtain ⟨P, hP⟩ : ∃ P, P = pnB t.size := ⟨_, rfl⟩
  rw [← hP] at hp hs he
  have HP := Lib.hid hp
  have HE := Lib.hid he
  clear hp hP he
  go_enter Tryz.func37, Tryz.ntmps37
  go_wp2_with fail
  refine HP.out.mono ?_
  rintro e w1 ⟨rfl, hb⟩
  go_wp2_with fail
  go_ret
  rw [HE.out]
  exact ⟨rfl, hb⟩
theorem rowP_succ (l : List Int) (k : Nat) (hk : k < l.length) (a : List UInt8) : (⟨(a ++ (l.take k).flatMap Ed.pn).toArray⟩ : ByteArray) ++ pnB l[k] = ⟨(a ++ (l.take (k + 1)).flatMap Ed.pn).toArray⟩ := by
  unfold pnB
  rw [cat_l, List.take_succ_eq_append_getElem hk, List.flatMap_append, List.append_assoc]
  simp
theorem rowP_len (l : List Int) (h : ∀ n ∈ l, n < 9223372036854775808) : (l.flatMap Ed.pn).length ≤ 9 * l.length := by
  induction l with
  | nil => simp
  | cons n l ih =>
    have h1 := pn_len (h n List.mem_cons_self)
    have h2 := ih fun m hm => h m (List.mem_cons_of_mem _ hm)
    rw [List.flatMap_cons, List.length_append, List.length_cons]
    omega
set_option maxHeartbeats 4000000 in
theorem encL_any (v : Value) (l : List Int) (w : World) (h : RdI w v l) (hl : l.length ≤ 1000000) (hn : ∀ n ∈ l, n < 9223372036854775808) :
    Calls Tryz.prog 36 #[v] w fun e w' => e = .returned (.string (encLB l)) ∧ Below w.heap.size w w' := by
  obtain ⟨x, c, rfl, hx⟩ := h.form
  have Hx := Lib.hid hx
  have HN := Lib.hid hn
  obtain ⟨m, hm⟩ : ∃ m, m = l.length := ⟨_, rfl⟩
  rw [← hm] at hl ⊢
  have HP := Lib.hid (putP_any m w (by omega) (by omega))
  have hps := pnB_size (n := m) (by omega)
  obtain ⟨P, hP⟩ : ∃ P, P = pnB m := ⟨_, rfl⟩
  rw [← hP] at HP hps
  have HPP := Lib.hid hP
  have Hm := Lib.hid hm
  clear hx hn h hm hP
  go_enter Tryz.func36, Tryz.ntmps36
  go_wp2_with fail
  refine HP.out.mono ?_
  rintro e w1 ⟨rfl, hb⟩
  have Hb := Lib.hid hb
  clear hb
  go_wp2_with fail
  go_loopw [3, 5, 11] (fun v3 _ v11 wr => ∃ (k : Nat) (T : ByteArray), v11 = .int .i64 k ∧ k ≤ m ∧ v3 = .string T ∧ T = ⟨(Ed.pn m ++ (l.take k).flatMap Ed.pn).toArray⟩ ∧ Below w.heap.size w wr) (fun _ _ v11 _ => m - (intOf v11).toNat)
  case atStart => exact ⟨0, P, rfl, Nat.zero_le _, rfl, by rw [HPP.out]; unfold pnB; simp, Hb.out⟩
  case round =>
    obtain ⟨k, T, rfl, hk, rfl, hT, hbe⟩ := hrel
    have HT := Lib.hid hT
    have Hbe := Lib.hid hbe
    have hTs : T.size ≤ 9 + 9 * k := by
      rw [hT, size_l, List.length_append]
      have h1 := rowP_len (l.take k) fun n hn => HN.out n (List.mem_of_mem_take hn)
      have h2 := pn_len (n := m) (by omega)
      rw [List.length_take] at h1
      omega
    clear hT hbe
    by_cases hlt : k < m
    · have hkl : k < l.length := by rw [← Hm.out]; exact hlt
      obtain ⟨b, off, rfl, hb, hc⟩ := Hx.out k hkl
      have hc2 := (Hbe.out.cell (p := ⟨b, off + k, none⟩) hb).trans hc
      have hsucc := rowP_succ l k hkl (Ed.pn m)
      rw [← HT.out] at hsucc
      have hnk := HN.out l[k] (List.getElem_mem hkl)
      obtain ⟨z, hz⟩ : ∃ z, z = l[k] := ⟨_, rfl⟩
      rw [← hz] at hc2 hsucc hnk
      have HPM := Lib.hid (putM_any z wr hnk)
      have hzs := pnB_size hnk
      have Hsucc := Lib.hid hsucc
      have hk0 : (0 : Int) ≤ k := by omega
      have hkm : (k : Int) < m := by omega
      have Hlt := Lib.hid hlt
      clear hc hz hsucc
      go_wp2_with fail
      refine HPM.out.mono ?_
      rintro e w2 ⟨rfl, hb2⟩
      have Hb2 := Lib.hid (Hbe.out.trans (hb2.mono Hbe.out.size))
      clear hb2 hc2
      go_wp2_with fail
      rw [Hsucc.out]
      go_roundw
      case rel => exact ⟨k + 1, _, by go_num, by have := Hlt.out; omega, rfl, rfl, Hb2.out⟩
      case measure => simp [intOf]; omega
    · obtain rfl : k = m := by omega
      have HF := Lib.hid (show T = encLB l from by
        rw [HT.out]
        unfold encLB Ed.encL
        rw [Hm.out, List.take_length])
      go_wp2_with fail
      go_ret
      rw [HF.out]
      exact ⟨rfl, Hbe.out⟩
theorem encT_len (t : ByteArray) (h : t.size ≤ 1000000) : (encTB t).size ≤ 9 + t.size := by
  unfold encTB Ed.encT
  rw [size_l, List.length_append, list_len']
  have := pn_len (n := t.size) (by omega)
  omega
theorem encL_len (l : List Int) (h : l.length ≤ 1000000) (hn : ∀ n ∈ l, n < 9223372036854775808) : (encLB l).size ≤ 9 + 9 * l.length := by
  unfold encLB Ed.encL
  rw [size_l, List.length_append]
  have h1 := pn_len (n := l.length) (by omega)
  have h2 := rowP_len l hn
  omega
set_option maxHeartbeats 2000000 in
/-- Is all read, and nothing wrong? -/
theorem whole_any (r : Nat) (s : ByteArray) (p : Nat) (bad : Bool) (w : World) (h : Rdr w r s p bad) (hs : s.size ≤ maxLen) :
    Calls Tryz.prog 68 #[.pointer (some ⟨r, 0, none⟩)] w fun e w' => e = .returned (.bool (!bad && decide (p = s.size))) ∧ ∃ m, w' = w.drewN m := by
  obtain ⟨c0, c1, c2, _⟩ := rdr_cells h
  unfold maxLen at hs
  clear h
  cases bad with
  | true =>
    go_enter Tryz.func68, Tryz.ntmps68
    go_wp2_with fail
    go_quiet (fail)
    go_wp2_with fail
    go_ret
    exact ⟨rfl, _, rfl⟩
  | false =>
    by_cases hq : p = s.size
    · have hb : ((p : Int) == (s.size : Int)) = true := by rw [hq]; simp
      have HV := Lib.hid (decide_eq_true hq)
      subst hq
      go_enter Tryz.func68, Tryz.ntmps68
      go_wp2_with fail
      go_quiet (fail)
      go_wp2_with fail
      go_ret
      rw [HV.out]
      exact ⟨rfl, _, rfl⟩
    · have hb : ((p : Int) == (s.size : Int)) = false := by rw [beq_eq_false_iff_ne]; omega
      have hb2 : ¬ (p : Int) = s.size := by omega
      have HV := Lib.hid (decide_eq_false hq)
      clear hq
      go_enter Tryz.func68, Tryz.ntmps68
      go_wp2_with fail
      go_quiet (fail)
      go_wp2_with fail
      go_ret
      rw [HV.out]
      exact ⟨rfl, _, rfl⟩
end Go.Proofs.YtcijhhnbhnaiaaaGreat
