/- Numbers as bytes, by the document, walked. -/
import Derived.Test.YtenbgfejonokdaaVar
import Derived.Test.YtenbgfejonokdaaVarP
import Derived.Test.YtenbgfejonokdaaRegion
namespace Go.Proofs.Ytenbgfejonokdaa
set_option maxRecDepth 100000
open Go.RowKit

theorem one_text (W : World) (k : Int) (c : UInt8) (hk : (c.toNat : Int) = k) : (convert 138 9 (.slice (some ⟨W.heap.size, 0, none⟩) 1 1)).run Try.prog (W.alloc (.cells #[.int .u8 k] 5 (0, 0))) = .ok (.string ⟨#[c]⟩) (W.alloc (.cells #[.int .u8 k] 5 (0, 0))) := by
  refine run_convert_bytes_back (W.alloc (.cells #[.int .u8 k] 5 (0, 0))) _ _ _ _ _ [c] under_bytes under_byte under_string ?_
  intro j hj
  obtain rfl : j = 0 := by simpa using hj
  have : (⟨W.heap.size, 0, none⟩ : Addr).add 0 = ⟨W.heap.size, 0, none⟩ := by unfold Addr.add; split <;> simp_all
  rw [this, (Blk.alloc_new W _ _).cell]
  simp [hk]
theorem cat_list (a b : List UInt8) : (⟨a.toArray⟩ : ByteArray) ++ ⟨b.toArray⟩ = ⟨(a ++ b).toArray⟩ := by
  apply bytes_ext
  rw [data_append]
set_option maxHeartbeats 2000000 in
theorem refPut_any (n : Int) (w : World) (hn : -9223372036854775808 ≤ n ∧ n ≤ 9223372036854775807) :
    Calls Try.prog 63 #[.int .i64 n] w fun e w' => e = .returned (.string ⟨(Var.putI n).toArray⟩) ∧ Below w.heap.size w w' := by
  unfold Var.putI
  obtain ⟨hn1, hn2⟩ := hn
  by_cases hneg : n < 0
  · rw [if_pos hneg]
    go_enter Try.func63, Try.ntmps63
    go_wp2_with fail
    go_ret
    exact ⟨rfl, Below.refl _ _⟩
  · rw [if_neg hneg]
    obtain ⟨m, rfl⟩ : ∃ m : Nat, n = m := ⟨n.toNat, by omega⟩
    rw [Int.toNat_natCast]
    have h1 := fun W : World => one_text W ((m : Int) % 128) (UInt8.ofNat (m % 128)) (by rw [Var.ofNat_toNat (by omega)]; omega)
    have hc1 := h1 w
    have q1 : Int.tmod (m : Int) 128 = (m : Int) % 128 := Int.tmod_eq_emod_of_nonneg (by omega)
    have q2 : Int.tdiv (m : Int) 128 = ((m / 128 : Nat) : Int) := by rw [Int.tdiv_eq_ediv_of_nonneg (by omega)]; rfl
    clear h1 hneg
    go_enter Try.func63, Try.ntmps63
    go_wp2_with fail
    clear hc1 q1 q2
    go_loopw [0, 3] (fun v0 v3 wr => ∃ (n : Nat) (S : List UInt8), v0 = .int .i64 n ∧ v3 = .string ⟨S.toArray⟩ ∧ ((n = 0 ∧ S = Var.put m) ∨ (0 < n ∧ Var.hi n ++ S = Var.put m)) ∧ n ≤ m ∧ Below w.heap.size w wr) (fun v0 _ _ => (intOf v0).toNat)
    case atStart =>
      refine ⟨m / 128, [UInt8.ofNat (m % 128)], rfl, rfl, ?_, by omega, (Below.refl _ _).alloc (Nat.le_refl _) _⟩
      unfold Var.put
      split
      · exact .inl ⟨by omega, by rw [Nat.mod_eq_of_lt (by assumption)]⟩
      · exact .inr ⟨by omega, rfl⟩
    case round =>
      obtain ⟨n, S, rfl, rfl, hS, hnm, hbe⟩ := hrel
      have Hbe := Lib.hid hbe
      have hz := hbe.size
      clear hbe
      rcases hS with ⟨rfl, rfl⟩ | ⟨hn0, hS⟩
      · go_wp2_with fail
        go_ret
        exact ⟨rfl, Hbe.out⟩
      · have h1 := one_text wr ((n : Int) % 128 + 128) (UInt8.ofNat (n % 128 + 128)) (by rw [Var.ofNat_toNat (by omega)]; omega)
        have q1 : Int.tmod (n : Int) 128 = (n : Int) % 128 := Int.tmod_eq_emod_of_nonneg (by omega)
        have hsl : S.length ≤ 9 := by
          have := congrArg List.length hS
          have h9 := Var.put_len_le (n := m) (by rw [Var.pow9]; omega)
          rw [List.length_append] at this
          omega
        have HS := Lib.hid hS
        obtain ⟨T, hT⟩ : ∃ T : ByteArray, T = ⟨S.toArray⟩ := ⟨_, rfl⟩
        have hTs : T.size ≤ 9 := by rw [hT]; exact Nat.le_trans (Nat.le_of_eq List.size_toArray) hsl
        rw [← hT]
        have HT := Lib.hid hT
        clear hS hT hsl
        go_wp2_with fail
        refine ⟨⟨n / 128, UInt8.ofNat (n % 128 + 128) :: S, rfl, ?_, ?_, by omega, Hbe.out.alloc hz _⟩, by simp [intOf]; omega⟩
        · rw [HT.out]
          congr 1
          have : UInt8.ofNat (n % 128) + 128 = UInt8.ofNat (n % 128 + 128) := by simp
          rw [this]
          exact cat_list [UInt8.ofNat (n % 128 + 128)] S
        · by_cases h128 : n < 128
          · refine .inl ⟨by omega, ?_⟩
            rw [← HS.out, Var.hi_small h128, Nat.mod_eq_of_lt h128]; rfl
          · refine .inr ⟨by omega, ?_⟩
            rw [← HS.out, Var.hi_big (show 128 ≤ n by omega)]
            simp
theorem fold_take_succ (l : List UInt8) (j : Nat) (hj : j < l.length) : Var.fold 0 (l.take (j + 1)) = Var.fold 0 (l.take j) * 128 + (l[j]).toNat % 128 := by
  rw [List.take_succ_eq_append_getElem hj, Var.fold_snoc]
set_option maxHeartbeats 4000000 in
theorem refGet_any (s : ByteArray) (p : Nat) (w : World) (hs : s.size ≤ maxLen) (hp : p ≤ 9223372036854775807) :
    Calls Try.prog 65 #[.string s, .int .i64 p] w fun e w' => e = gotE (Var.get s.data.toList p) ∧ Below w.heap.size w w' := by
  have hsm : s.size ≤ 9223372036854775807 := by unfold maxLen at hs; omega
  have hl : s.data.toList.length = s.size := by simp
  by_cases hin : p < s.size
  · obtain ⟨G, hG⟩ : ∃ G, G = Var.get s.data.toList p := ⟨_, rfl⟩
    rw [← hG]
    have HG := Lib.hid hG
    have Hl := Lib.hid hl
    have hpi : (p : Int) < s.size := by omega
    have q0 : decide ((s.size : Int) ≤ p) = false := decide_eq_false (by omega)
    have q0' : decide (s.size ≤ p) = false := decide_eq_false (by omega)
    clear hG hl hs
    go_enter Try.func65, Try.ntmps65
    go_wp2_with fail
    go_loopw [7] (fun v7 wr => ∃ e : Nat, v7 = .int .i64 e ∧ p ≤ e ∧ e ≤ s.size ∧ wr = w ∧ ∀ (j : Nat) (hj : j < s.data.toList.length), p ≤ j → j < e → 128 ≤ (s.data.toList[j]).toNat) (fun v7 _ => s.size - (intOf v7).toNat)
    case atStart => exact ⟨p, rfl, Nat.le_refl _, by omega, rfl, fun _ _ h1 h2 => absurd h1 (by omega)⟩
    case round =>
      obtain ⟨e, rfl, hpe, hes, rfl, hall⟩ := hrel
      have Hall := Lib.hid hall
      clear hall
      by_cases hlt : e < s.size
      · have hei : (e : Int) < s.size := by omega
        obtain ⟨c, hc⟩ : ∃ c, s[e] = c := ⟨_, rfl⟩
        have Hc := Lib.hid (show s.data.toList[e]'(by rw [Hl.out]; exact hlt) = c from hc)
        have hc256 := c.toNat_lt
        by_cases hc1 : 128 ≤ c.toNat
        · have q : decide ((128 : Int) ≤ c.toNat) = true := decide_eq_true (by omega)
          have q' : decide (128 ≤ c.toNat) = true := decide_eq_true hc1
          go_wp2_with fail
          go_roundw
          case rel =>
            refine ⟨e + 1, by go_num, by omega, by omega, by trivial, fun j hj h1 h2 => ?_⟩
            by_cases hje : j = e
            · subst hje; rw [Hc.out]; exact hc1
            · exact Hall.out j hj h1 (by omega)
          case measure => simp [intOf]; omega
        · have q : decide ((128 : Int) ≤ c.toNat) = false := decide_eq_false (by omega)
          have q' : decide (128 ≤ c.toNat) = false := decide_eq_false hc1
          have q2 : ((e : Int) == s.size) = false := by rw [beq_eq_false_iff_ne]; omega
          have q2' : (e == s.size) = false := by rw [beq_eq_false_iff_ne]; omega
          by_cases h8 : 8 < e - p
          · have HGn := Lib.hid (show G = none by rw [HG.out]; exact Var.get_far Hall.out h8)
            have q3 : decide ((8 : Int) < (e : Int) - p) = true := decide_eq_true (by omega)
            go_wp2_with fail
            go_ret3
            rw [HGn.out]
            exact ⟨rfl, Below.refl _ _⟩
          · have q3 : decide ((8 : Int) < (e : Int) - p) = false := decide_eq_false (by omega)
            have HGr := Lib.hid (HG.out.trans (Var.get_run hpe (by rw [Hl.out]; exact hlt) Hall.out (by rw [Hc.out]; omega) (by omega)))
            go_wp2_with fail
            clear q q' q2 q2' q3
            go_loopw [8, 9] (fun v8 v9 wq => ∃ i : Nat, v9 = .int .i64 i ∧ p ≤ i ∧ i ≤ e + 1 ∧ wq = wr ∧ v8 = .int .i64 (Var.fold 0 ((s.data.toList.drop p).take (i - p)) : Nat)) (fun _ v9 _ => e + 1 - (intOf v9).toNat)
            case atStart => exact ⟨p, rfl, Nat.le_refl _, by omega, rfl, by simp [Var.fold]⟩
            case round =>
              obtain ⟨i, rfl, hpi2, hie, rfl, rfl⟩ := hrel
              by_cases hlt2 : i ≤ e
              · have hisz0 : i < s.size := by omega
                have hdl : (s.data.toList.drop p).length = s.size - p := by rw [List.length_drop, Hl.out]
                have hf := fold_take_succ (s.data.toList.drop p) (i - p) (by omega)
                have hfl := Var.fold_lt ((s.data.toList.drop p).take (i - p))
                have hpw : (128 : Nat) ^ ((s.data.toList.drop p).take (i - p)).length ≤ 128 ^ 8 := Nat.pow_le_pow_right (by decide) (by rw [List.length_take]; omega)
                have h128 : (128 : Nat) ^ 8 = 72057594037927936 := by decide
                obtain ⟨ci, hci⟩ : ∃ ci, s[i]'hisz0 = ci := ⟨_, rfl⟩
                have hgi : (s.data.toList.drop p)[i - p]'(by omega) = ci := by
                  rw [List.getElem_drop, ← hci]
                  simp only [show p + (i - p) = i by omega]
                  rfl
                rw [hgi, show i - p + 1 = i + 1 - p by omega] at hf
                obtain ⟨A, hA⟩ : ∃ A, A = Var.fold 0 ((s.data.toList.drop p).take (i - p)) := ⟨_, rfl⟩
                rw [← hA] at hf hfl ⊢
                have hA2 : A < 72057594037927936 := by omega
                have Hf := Lib.hid hf
                have hc256i := ci.toNat_lt
                have hii : (i : Int) ≤ e := by omega
                have hisz : (i : Int) < s.size := by omega
                have w1 : IntKind.i64.wrap ((A : Int) * 128) = (A : Int) * 128 := IntWalk.i64_in _ ⟨by omega, by omega⟩
                clear hf hfl hpw h128 hgi hA hdl
                go_wp2_with fail
                go_roundw
                case rel => exact ⟨i + 1, by go_num, by omega, by omega, by trivial, by rw [Hf.out]; push_cast; rfl⟩
                case measure => simp [intOf]; omega
              · obtain rfl : i = e + 1 := by omega
                obtain ⟨A, hA⟩ : ∃ A, A = Var.fold 0 ((s.data.toList.drop p).take (e + 1 - p)) := ⟨_, rfl⟩
                have hfl := Var.fold_lt ((s.data.toList.drop p).take (e + 1 - p))
                have hpw : (128 : Nat) ^ ((s.data.toList.drop p).take (e + 1 - p)).length ≤ 128 ^ 9 := Nat.pow_le_pow_right (by decide) (by rw [List.length_take]; omega)
                rw [Var.pow9] at hpw
                rw [← hA] at hfl ⊢
                have hr := HGr.out
                rw [show e - p + 1 = e + 1 - p by omega, ← hA] at hr
                have Hr := Lib.hid hr
                have hp1 := fun W : World => refPut_any (A : Int) W ⟨by omega, by omega⟩
                have e1 : Var.putI (A : Int) = Var.put A := by unfold Var.putI; rw [if_neg (by omega), Int.toNat_natCast]
                rw [e1] at hp1
                have HP := Lib.hid (fun x : Ext wr => hp1 x.wd)
                have hsl : (⟨((s.data.toList.drop p).take (e + 1 - p)).toArray⟩ : ByteArray) = s.extract p (e + 1) := by
                  apply bytes_ext
                  rw [extract_list]
                have Hsl := Lib.hid hsl
                have w1 : IntKind.i64.wrap ((e : Int) + 1) = (e : Int) + 1 := IntWalk.i64_in _ ⟨by omega, by omega⟩
                have b1 : (p : Int) ≤ (e : Int) + 1 := by omega
                have b2 : (e : Int) + 1 ≤ s.size := by omega
                have b3 : ((e : Int) + 1).toNat = e + 1 := by omega
                clear hp1 e1 hsl hfl hpw hA
                by_cases heq : Var.put A = (s.data.toList.drop p).take (e + 1 - p)
                · rw [if_pos heq] at hr
                  have hb : (Var.put A == (s.extract p (e + 1)).toList) = true := by rw [← Hsl.out, heq]; simp
                  have Hr2 := Lib.hid hr
                  clear hr heq
                  go_wp2_with fail
                  refine wp_region_ext (by kernel_rfl) (by kernel_rfl) fun K hK => ?_
                  repeat (go_big_quiet_step ((go_at_call 63; exact Calls.ext_of (HP.out _))))
                  refine wpQuiet_nil (hK _ fun x => ?_)
                  clear hK K
                  have Hx := Lib.hid x.le
                  go_wp2_with fail
                  go_ret3
                  rw [Hr2.out]
                  refine ⟨?_, Hx.out⟩
                  simp [gotE]
                · rw [if_neg heq] at hr
                  have hb : (Var.put A == (s.extract p (e + 1)).toList) = false := by
                    rw [beq_eq_false_iff_ne]
                    intro e0
                    refine heq (e0.trans ?_)
                    rw [← Hsl.out]
                    simp
                  have Hr2 := Lib.hid hr
                  clear hr heq
                  go_wp2_with fail
                  refine wp_region_ext (by kernel_rfl) (by kernel_rfl) fun K hK => ?_
                  repeat (go_big_quiet_step ((go_at_call 63; exact Calls.ext_of (HP.out _))))
                  refine wpQuiet_nil (hK _ fun x => ?_)
                  clear hK K
                  have Hx := Lib.hid x.le
                  go_wp2_with fail
                  go_ret3
                  rw [Hr2.out]
                  exact ⟨rfl, Hx.out⟩
      · obtain rfl : e = s.size := by omega
        have HGn := Lib.hid (show G = none by rw [HG.out]; exact Var.get_all fun j hj h1 => Hall.out j hj h1 (by rw [← Hl.out]; exact hj))
        go_wp2_with fail
        go_ret3
        rw [HGn.out]
        exact ⟨rfl, Below.refl _ _⟩
  · rw [get_none (by omega)]
    unfold gotE
    have q : decide ((p : Int) < s.size) = false := decide_eq_false (by omega)
    have q1 : (s.size : Int) ≤ p := by omega
    clear hs hl
    go_enter Try.func65, Try.ntmps65
    go_wp2_with fail
    go_ret3
    exact ⟨rfl, Below.refl _ _⟩
end Go.Proofs.Ytenbgfejonokdaa
