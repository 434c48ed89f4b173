/- 'CursorsAlone', walked. -/
import Derived.Test.YtenbgfejonokdaaCurBack
import Derived.Test.YtenbgfejonokdaaAlonePlain
namespace Go.Proofs.Ytenbgfejonokdaa
set_option maxRecDepth 100000
open Go.RowKit Go.Maps
open Dsk

theorem namesLen (m : Files) : (strs (names m)).length = m.length := by simp [strs, names]
theorem textEq (a b : ByteArray) : (a.toList == b.toList) = decide (a = b) := by
  by_cases h : a = b
  · subst h; simp
  · rw [decide_eq_false h, beq_eq_false_iff_ne]
    intro e
    rw [ByteArray.toList_eq, ByteArray.toList_eq] at e
    exact h (bytes_ext e)
set_option maxHeartbeats 4000000 in
theorem cursorsAlone_any (nm data : ByteArray) (v : Value) (l : List (Int × Int)) (w : World) (hn : nm.size ≤ maxLen) (hd : data.size ≤ maxLen) (hl : RdC w v l) (hlm : l.length ≤ maxLen) :
    Calls Try.prog 5 #[.string nm, .string data, v] w fun e w' => e = .returned (.bool true) ∧ Below w.heap.size w w' := by
  obtain ⟨x, c, hv, hjunk⟩ := id hl
  subst hv
  clear hjunk
  have HL := Lib.hid hl
  have hlm2 : l.length ≤ 9223372036854775807 := by unfold maxLen at hlm; omega
  have hn2 : nm.size ≤ 9223372036854775807 := by unfold maxLen at hn; omega
  have hd2 : data.size ≤ 9223372036854775807 := by unfold maxLen at hd; omega
  clear hl hlm
  by_cases h1 : 100 < nm.size
  case pos =>
    have p1 : (100 : Int) < nm.size := by omega
    have p1' : decide ((100 : Int) < nm.size) = true := decide_eq_true (by omega)
    have p1'' : decide (100 < nm.size) = true := decide_eq_true (by omega)
    clear h1
    go_enter Try.func5, Try.ntmps5
    go_wp2_with fail
    refine (curDoes_any _).mono ?_
    rintro e w1 ⟨rfl, hb⟩
    have Hb := Lib.hid hb
    clear hb
    go_wp2_with fail
    go_ret
    exact ⟨rfl, Hb.out⟩
  have n1 : decide ((100 : Int) < nm.size) = false := decide_eq_false (by omega)
  have n1' : decide (100 < nm.size) = false := decide_eq_false (by omega)
  by_cases h2 : 300 < data.size
  case pos =>
    have p2 : (300 : Int) < data.size := by omega
    have p2' : decide ((300 : Int) < data.size) = true := decide_eq_true (by omega)
    have p2'' : decide (300 < data.size) = true := decide_eq_true (by omega)
    clear h2
    go_enter Try.func5, Try.ntmps5
    go_wp2_with fail
    refine (curDoes_any _).mono ?_
    rintro e w1 ⟨rfl, hb⟩
    have Hb := Lib.hid hb
    clear hb
    go_wp2_with fail
    go_ret
    exact ⟨rfl, Hb.out⟩
  have n2 : decide ((300 : Int) < data.size) = false := decide_eq_false (by omega)
  have n2' : decide (300 < data.size) = false := decide_eq_false (by omega)
  by_cases h3 : 30 < l.length
  case pos =>
    have p3 : (30 : Int) < l.length := by omega
    have p3' : decide ((30 : Int) < l.length) = true := decide_eq_true (by omega)
    have p3'' : decide (30 < l.length) = true := decide_eq_true (by omega)
    clear h3
    go_enter Try.func5, Try.ntmps5
    go_wp2_with fail
    refine (curDoes_any _).mono ?_
    rintro e w1 ⟨rfl, hb⟩
    have Hb := Lib.hid hb
    clear hb
    go_wp2_with fail
    go_ret
    exact ⟨rfl, Hb.out⟩
  have n3 : decide ((30 : Int) < l.length) = false := decide_eq_false (by omega)
  have n3' : decide (30 < l.length) = false := decide_eq_false (by omega)
  by_cases h4 : nm = ⟨#[99, 117, 114, 115, 111, 114]⟩
  case pos =>
    have p4 : (nm.toList == [99, 117, 114, 115, 111, 114]) = true := by rw [show [99, 117, 114, 115, 111, 114] = (⟨#[99, 117, 114, 115, 111, 114]⟩ : ByteArray).toList from by rw [ByteArray.toList_eq], textEq, decide_eq_true h4]
    clear h4
    go_enter Try.func5, Try.ntmps5
    go_wp2_with fail
    refine (curDoes_any _).mono ?_
    rintro e w1 ⟨rfl, hb⟩
    have Hb := Lib.hid hb
    clear hb
    go_wp2_with fail
    go_ret
    exact ⟨rfl, Hb.out⟩
  have n4 : (nm.toList == [99, 117, 114, 115, 111, 114]) = false := by rw [show [99, 117, 114, 115, 111, 114] = (⟨#[99, 117, 114, 115, 111, 114]⟩ : ByteArray).toList from by rw [ByteArray.toList_eq], textEq, decide_eq_false h4]
  by_cases h5 : nm = ⟨#[99, 117, 114, 115, 111, 114, 43]⟩
  case pos =>
    have p5 : (nm.toList == [99, 117, 114, 115, 111, 114, 43]) = true := by rw [show [99, 117, 114, 115, 111, 114, 43] = (⟨#[99, 117, 114, 115, 111, 114, 43]⟩ : ByteArray).toList from by rw [ByteArray.toList_eq], textEq, decide_eq_true h5]
    clear h5
    go_enter Try.func5, Try.ntmps5
    go_wp2_with fail
    refine (curDoes_any _).mono ?_
    rintro e w1 ⟨rfl, hb⟩
    have Hb := Lib.hid hb
    clear hb
    go_wp2_with fail
    go_ret
    exact ⟨rfl, Hb.out⟩
  have n5 : (nm.toList == [99, 117, 114, 115, 111, 114, 43]) = false := by rw [show [99, 117, 114, 115, 111, 114, 43] = (⟨#[99, 117, 114, 115, 111, 114, 43]⟩ : ByteArray).toList from by rw [ByteArray.toList_eq], textEq, decide_eq_false h5]
  have hne4 : nm.data.toList ≠ curN := fun e => h4 (bytes_ext e)
  have hne5 : nm.data.toList ≠ draN := fun e => h5 (bytes_ext e)
  have hdl : data.data.toList.length ≤ 300 := by have : data.data.toList.length = data.size := by simp
                                                 omega
  obtain ⟨e0, d0, hap, hcs⟩ := AInv.first (data := data.data.toList) hne4 hne5 hdl
  have hcs2 : ∃ app : Bool, AInv nm.data.toList data.data.toList app false d0 ∧ ((app = true ∧ e0 = 0) ∨ (app = false ∧ e0 = 2)) := by
    rcases hcs with ⟨_, h, i⟩ | ⟨_, h, i⟩
    · exact ⟨true, i, .inl ⟨rfl, h⟩⟩
    · exact ⟨false, i, .inr ⟨rfl, h⟩⟩
  obtain ⟨app, hinv, he0⟩ := hcs2
  have Hinv := Lib.hid hinv
  have He0 := Lib.hid he0
  have Hap := Lib.hid hap
  have Hne := Lib.hid hne4
  have Hdl := Lib.hid hdl
  have hl30 : l.length ≤ 30 := by omega
  clear hcs hinv he0 hap hne4 hne5 hdl h1 h2 h3 h4 h5
  go_enter Try.func5, Try.ntmps5
  go_wp2_with fail
  refine (live_new 1000 w (by omega) (by omega)).mono ?_
  rintro e w1 ⟨v, rfl, hlv⟩
  obtain ⟨bd, rfl⟩ := hlv.ptr
  have H1 := Lib.hid hlv
  clear hlv
  go_wp2_with fail
  have haa := H1.out.append nm data hn hd
  rw [Hap.out] at haa
  refine haa.mono ?_
  rintro e w2 ⟨rfl, hl2, hk2⟩
  have H2 := Lib.hid hl2
  clear haa hl2 hk2
  go_wp2_with fail
  clear n1 n1' n2 n2' n3 n3' n4 n5
  go_loopw [10, 11] (fun v10 v11 wr => ∃ (i sv : Nat) (saved : Bool) (d : Dk), v11 = .int .i64 i ∧ v10 = .int .i64 sv ∧ sv = (if saved then 1 else 0) ∧ i ≤ l.length ∧ AInv nm.data.toList data.data.toList app saved d ∧ Live w (fun _ => False) wr (.pointer (some ⟨bd, 0, none⟩)) d) (fun _ v11 _ => l.length - (intOf v11).toNat)
  case atStart => exact ⟨0, 0, false, d0, rfl, rfl, rfl, Nat.zero_le _, Hinv.out, H2.out⟩
  case round =>
    obtain ⟨i, sv, saved, d, rfl, rfl, hsv0, hi, hai, hlv⟩ := hrel
    have Hsv0 := Lib.hid hsv0
    clear hsv0
    have HA := Lib.hid hai
    have HV := Lib.hid hlv
    clear hai hlv
    by_cases hlt : i < l.length
    · obtain ⟨x', c', hv, hel⟩ := HL.out.below (Nat.le_refl _) HV.out.below
      injection hv with e1 e2 e3
      subst e1 e3
      obtain ⟨ho, b, off, rfl, hb, k0, k1⟩ := hel i hlt
      obtain ⟨a1, a2, hc⟩ : ∃ a1 a2, l[i] = (a1, a2) := ⟨_, _, rfl⟩
      rw [hc] at ho k0 k1
      simp only at k0 k1
      have Ho := Lib.hid ho
      have hii : (i : Int) < l.length := by omega
      rw [← Nat.add_assoc] at k1
      clear hel ho hc e2
      by_cases hm : Cur.May a1 a2
      · obtain ⟨d', hsv, hai'⟩ := HA.out.save Hne.out Hdl.out hm
        have HA' := Lib.hid hai'
        have Hsv := Lib.hid (HV.out.saveQ a1 a2 Ho.out hsv)
        clear hai' hsv hm
        go_wp2_with fail
        refine Hsv.out.mono ?_
        rintro e w4 ⟨rfl, hl4, _⟩
        have HV4 := Lib.hid hl4
        clear hl4 k0 k1
        go_wp2_with fail
        go_roundw
        case rel => exact ⟨i + 1, 1, true, d', by go_num, rfl, rfl, by omega, HA'.out, HV4.out⟩
        case measure => simp [intOf]; omega
      · have Hsv := Lib.hid (HV.out.saveQ a1 a2 Ho.out (HA.out.save_not hm))
        clear hm
        go_wp2_with fail
        refine Hsv.out.mono ?_
        rintro e w4 ⟨rfl, hl4, _⟩
        have HV4 := Lib.hid hl4
        clear hl4 k0 k1
        go_wp2_with fail
        go_roundw
        case rel => exact ⟨i + 1, sv, saved, d, by go_num, rfl, Hsv0.out, by omega, HA.out, HV4.out⟩
        case measure => simp [intOf]; omega
    · obtain rfl : i = l.length := by omega
      have hs2 : sv ≤ 1 := by have := Hsv0.out; split at this <;> omega
      have hmany := HA.out.many
      rw [← Hsv0.out] at hmany
      rcases He0.out with ⟨rfl, rfl⟩ | ⟨rfl, rfl⟩
      · simp only [if_true] at hmany
        have Hmany := Lib.hid hmany
        have hrd := HV.out.read nm hn
        have hf := HA.out.file rfl
        have ho := HA.out.off
        have e2 : d.read nm.data.toList = (data.data.toList, 0) := by unfold Dk.read; rw [if_neg (by rw [ho]; decide), hf]
        rw [e2] at hrd
        have hdd : (⟨data.data.toList.toArray⟩ : ByteArray) = data := by simp
        simp only [hdd] at hrd
        have hsy := fun (W : World) (h : Live w (fun _ => False) W (.pointer (some ⟨bd, 0, none⟩)) d) => h.synced nm hn
        have e3 : d.synced nm.data.toList = 0 := by unfold Dk.synced; rw [hf]
        rw [e3] at hsy
        have Hrd := Lib.hid hrd
        have Hsy := Lib.hid hsy
        clear hrd hf ho e2 hdd hsy e3 hmany
        go_wp2_with fail
        refine Hrd.out.mono ?_
        rintro e w4 ⟨rfl, hb4⟩
        have HV4 := Lib.hid (HV.out.keep hb4)
        clear hb4
        go_wp2_with fail
        refine (Hsy.out _ HV4.out).mono ?_
        rintro e w4' ⟨rfl, rfl⟩
        go_wp2_with fail
        refine HV4.out.names.mono ?_
        rintro e w5 ⟨un, rfl, hun, hb5⟩
        obtain ⟨nx, nc, hnx, hj1⟩ := hun.each
        subst hnx
        rw [namesLen, Hmany.out]
        have HV5 := Lib.hid (HV4.out.keep hb5)
        clear hun hb5 hj1
        have q1 : (((1 + sv : Nat) : Int) == 1 + (sv : Int)) = true := by rw [beq_iff_eq]; omega
        go_wp2_with fail
        refine (curDoes_any _).mono ?_
        rintro e w6 ⟨rfl, hb6⟩
        have HB := Lib.hid (HV5.out.below.trans (hb6.mono HV5.out.size))
        clear hb6
        go_wp2_with fail
        go_ret
        exact ⟨rfl, HB.out⟩
      · simp only [Bool.false_eq_true, if_false, Nat.zero_add] at hmany
        have Hmany := Lib.hid hmany
        clear hmany
        go_wp2_with fail
        refine HV.out.names.mono ?_
        rintro e w5 ⟨un, rfl, hun, hb5⟩
        obtain ⟨nx, nc, hnx, hj1⟩ := hun.each
        subst hnx
        rw [namesLen, Hmany.out]
        have HV5 := Lib.hid (HV.out.keep hb5)
        clear hun hb5 hj1
        go_wp2_with fail
        refine (curDoes_any _).mono ?_
        rintro e w6 ⟨rfl, hb6⟩
        have HB := Lib.hid (HV5.out.below.trans (hb6.mono HV5.out.size))
        clear hb6
        go_wp2_with fail
        go_ret
        exact ⟨rfl, HB.out⟩
theorem walkCursorsAlone (nm data : ByteArray) (x : Value × List (Int × Int)) (w : World) (h0 : nm.size ≤ maxLen) (h1 : data.size ≤ maxLen) (h2 : RdC w x.1 x.2 ∧ x.2.length ≤ maxLen) :
    Calls Try.prog 5 #[.string nm, .string data, x.1] w fun e w' => e = .returned (.bool true) ∧ Below w.heap.size w w' :=
  cursorsAlone_any nm data x.1 x.2 w h0 h1 h2.1 h2.2
end Go.Proofs.Ytenbgfejonokdaa
