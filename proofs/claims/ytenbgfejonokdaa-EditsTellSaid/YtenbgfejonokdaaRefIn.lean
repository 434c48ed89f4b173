/- The document's answer on edits: is a number in a list; a number into a rising list, once. Walked. -/
import Derived.Test.YtenbgfejonokdaaEdOps
import Derived.Test.YtenbgfejonokdaaRegion
namespace Go.Proofs.Ytenbgfejonokdaa
set_option linter.unusedSimpArgs false
set_option linter.unusedVariables false
set_option maxRecDepth 100000
open Go.RowKit

set_option maxHeartbeats 1000000 in
theorem refIn_any (v : Value) (l : List Int) (x : Int) (w : World) (h : RdI w v l) (hl : l.length ≤ 1000000) :
    Calls Try.prog 126 #[v, .int .i64 x] w fun e w' => e = .returned (.bool (decide (x ∈ l))) ∧ w = w' := by
  obtain ⟨y, c, rfl, hel⟩ := h.form
  have Hel := Lib.hid hel
  clear hel h
  go_enter Try.func126, Try.ntmps126
  go_wp2_with fail
  go_loop [5] (fun v5 => ∃ (k : Nat), v5 = .int .i64 k ∧ k ≤ l.length ∧ ∀ (j : Nat) (hj : j < l.length), j < k → l[j] ≠ x) (fun v5 => l.length - (intOf v5).toNat)
  case atStart => exact ⟨0, rfl, Nat.zero_le _, fun j _ hj => absurd hj (by omega)⟩
  case round =>
    obtain ⟨k, rfl, hk, hsm⟩ := hrel
    have Hsm := Lib.hid hsm
    clear hsm
    by_cases hlt : k < l.length
    · obtain ⟨b, off, rfl, _, c0⟩ := Hel.out k hlt
      obtain ⟨n, hn⟩ : ∃ n, n = l[k] := ⟨_, rfl⟩
      rw [← hn] at c0
      have Hn := Lib.hid hn
      clear hn
      by_cases hx : n = x
      · have hd : decide (x ∈ l) = true := decide_eq_true (by rw [← hx, Hn.out]; exact List.getElem_mem hlt)
        have HD := Lib.hid hd
        clear hd
        go_wp2_with fail
        go_ret
        rw [HD.out]
        exact ⟨rfl, rfl⟩
      · go_wp2_with fail
        go_round
        case rel => exact ⟨k + 1, by go_num, by omega, fun j hj hjk => (by
          by_cases e : j < k
          · exact Hsm.out j hj e
          · obtain rfl : j = k := by omega
            rw [← Hn.out]; exact hx)⟩
        case measure => simp [intOf]; omega
    · obtain rfl : k = l.length := by omega
      have hd : decide (x ∈ l) = false := decide_eq_false (fun hm => by
        obtain ⟨j, hj, e⟩ := List.mem_iff_getElem.1 hm
        exact Hsm.out j hj hj e)
      have HD := Lib.hid hd
      clear hd
      go_wp2_with fail
      go_ret
      rw [HD.out]
      exact ⟨rfl, rfl⟩
theorem RdI.take {w : World} {x : Option Addr} {n c : Nat} {l : List Int} (h : RdI w (.slice x n c) l) (k : Nat) (hk : k ≤ l.length) (c' : Nat) : RdI w (.slice x k c') (l.take k) := by
  rcases h with ⟨y, d, e, rfl⟩ | ⟨b, off, d, e, hb, hc⟩
  · injection e with e1 e2 e3
    simp at hk
    subst hk e1
    exact .inl ⟨x, c', rfl, by simp⟩
  · injection e with e1 e2 e3
    subst e1
    refine .inr ⟨b, off, c', by rw [List.length_take, Nat.min_eq_left hk], hb, fun j hj => ?_⟩
    rw [List.length_take] at hj
    rw [List.getElem_take]
    exact hc j (by omega)
theorem RdI.drop {w : World} {b off n c : Nat} {l : List Int} (h : RdI w (.slice (some ⟨b, off, none⟩) n c) l) (k : Nat) (hk : k ≤ l.length) (c' : Nat) : RdI w (.slice (some ⟨b, off + k, none⟩) (l.length - k) c') (l.drop k) := by
  rcases h with ⟨y, d, e, rfl⟩ | ⟨b', off', d, e, hb, hc⟩
  · simp at hk
    subst hk
    exact .inl ⟨_, c', rfl, by simp⟩
  · injection e with e1 e2 e3
    injection e1 with e1
    injection e1 with e4 e5
    subst e4 e5
    refine .inr ⟨b, off + k, c', by rw [List.length_drop], hb, fun j hj => ?_⟩
    rw [List.length_drop] at hj
    rw [List.getElem_drop, Nat.add_assoc]
    exact hc (k + j) (by omega)
/-- A slice that has room for what it has. -/
def CapOk (v : Value) : Prop := ∃ x n c, v = .slice x n c ∧ n ≤ c ∧ c ≤ maxLen
theorem OwnI.cap {w : World} {B : Nat} {v : Value} {l : List Int} (h : OwnI w B v l) : CapOk v := by
  obtain ⟨_, ⟨rfl, hn⟩ | ⟨g, cap, cur, rfl, _, _, hn, hm, _⟩⟩ := h
  · exact ⟨none, 0, 0, rfl, Nat.le_refl _, Nat.zero_le _⟩
  · exact ⟨_, _, _, rfl, hn, hm⟩
set_option maxHeartbeats 2000000 in
theorem refPut_any (v : Value) (l : List Int) (n : Int) (w : World) (h : RdI w v l) (hcap : CapOk v) (hl : l.length ≤ 1000000) :
    Calls Try.prog 104 #[v, .int .i64 n] w fun e w' => ∃ v', e = .returned v' ∧ RdI w' v' (Ed.put l n) ∧ CapOk v' ∧ Below w.heap.size w w' := by
  have HL := Lib.hid h
  have HIN := Lib.hid (refIn_any v l n w h hl)
  have HCP := Lib.hid hcap
  obtain ⟨x, c, rfl, hel⟩ := h.form
  have Hel := Lib.hid hel
  obtain ⟨_, _, _, hcv, hc1, hc2⟩ := hcap
  injection hcv with h1 h2 h3
  subst h1 h2 h3
  unfold maxLen at hc2
  clear hel h
  by_cases hin : n ∈ l
  · have HP := Lib.hid (show Ed.put l n = l by unfold Ed.put; rw [if_pos hin])
    rw [decide_eq_true hin] at HIN
    go_enter Try.func104, Try.ntmps104
    go_wp2_with fail
    refine HIN.out.mono ?_
    rintro e w' ⟨rfl, rfl⟩
    go_wp2_with fail
    go_ret
    rw [HP.out]
    exact ⟨_, rfl, HL.out, HCP.out, Below.refl _ _⟩
  · have HP := Lib.hid (show Ed.put l n = Ed.ins l n by unfold Ed.put; rw [if_neg hin])
    rw [decide_eq_false hin] at HIN
    clear hin
    go_enter Try.func104, Try.ntmps104
    go_wp2_with fail
    refine HIN.out.mono ?_
    rintro e w' ⟨rfl, rfl⟩
    go_wp2_with fail
    go_loop [5] (fun v5 => ∃ (k : Nat), v5 = .int .i64 k ∧ k ≤ l.length ∧ ∀ (j : Nat) (hj : j < l.length), j < k → l[j] < n) (fun v5 => l.length - (intOf v5).toNat)
    case atStart => exact ⟨0, rfl, Nat.zero_le _, fun j _ hj => absurd hj (by omega)⟩
    case round =>
      obtain ⟨k, rfl, hk, hsm⟩ := hrel
      have Hsm := Lib.hid hsm
      clear hsm
      by_cases hgo : ∃ h : k < l.length, l[k] < n
      · obtain ⟨hlt, hln⟩ := hgo
        obtain ⟨b, off, rfl, _, c0⟩ := Hel.out k hlt
        obtain ⟨m, hm⟩ : ∃ m, m = l[k] := ⟨_, rfl⟩
        rw [← hm] at c0 hln
        have Hm := Lib.hid hm
        clear hm
        go_wp2_with fail
        go_round
        case rel => exact ⟨k + 1, by go_num, by omega, fun j hj hjk => (by
          by_cases e : j < k
          · exact Hsm.out j hj e
          · obtain rfl : j = k := by omega
            rw [← Hm.out]; exact hln)⟩
        case measure => simp [intOf]; omega
      · have HI := Lib.hid (Ed.ins_at n l k hk (fun j hj hjk => Hsm.out j hj hjk) (fun h hn => hgo ⟨h, hn⟩))
        obtain ⟨m, hm⟩ : ∃ m, m = l.length := ⟨_, rfl⟩
        have Hm := Lib.hid hm
        have HT := Lib.hid (fun c' => RdI.take HL.out k hk c')
        have htl : (l.take k).length = k := by rw [List.length_take]; omega
        have HTL := Lib.hid htl
        have hkl := Lib.hid hk
        rcases HL.out with ⟨y, d, e, rfl⟩ | ⟨b, off, d, e, hb, hcell⟩
        · simp at hk
          subst hk
          have HI2 := Lib.hid (show Ed.put [] n = [n] by rw [HP.out]; rfl)
          clear hgo hm htl e HI
          cases x
          all_goals
            go_wp2_with (at_builtin; refine wpList_append_ints rfl _ _ rfl w.heap.size (.slice none 0 0) [] rfl (OwnI.nil _ _) _ [] rfl (.inl ⟨_, _, rfl, rfl⟩) (by simp) (Nat.le_refl _) ?_)
            intro v1 w1 ho1 hb1
            have HO1 := Lib.hid ho1
            have HB1 := Lib.hid hb1
            have hz1 := hb1.size
            clear ho1 hb1
            go_wp2_with (at_builtin; refine wpList_append_int rfl (.tmp 29) (.tmp 31) rfl w.heap.size v1 ([] ++ []) rfl (HO1.out.alloc _) w1.heap.size rfl n ((Blk.alloc_new w1 _ _).cell 0) (by simp) (by simp; omega) ?_)
            intro v2 w2 ho2 hb2
            have HO2 := Lib.hid ho2
            have HB2 := Lib.hid ((HB1.out.alloc hz1 _).trans hb2)
            have hz2 := HB2.out.size
            clear ho2 hb2
            go_wp2_with (at_builtin; refine wpList_append_ints rfl _ _ rfl w.heap.size v2 ([] ++ [] ++ [n]) rfl HO2.out _ [] rfl (.inl ⟨_, _, rfl, rfl⟩) (by simp) hz2 ?_)
            intro v3 w3 ho3 hb3
            have HO3 := Lib.hid ho3
            have HB3 := Lib.hid (HB2.out.trans hb3)
            clear ho3 hb3
            go_wp2_with fail
            go_ret
            rw [HI2.out]
            exact ⟨_, rfl, HO3.out.rd, HO3.out.cap, HB3.out⟩
        · injection e with e1 e2 e3
          subst e1 e3
          have HI2 := Lib.hid (show Ed.put l n = [] ++ l.take k ++ [n] ++ l.drop k by rw [HP.out, HI.out]; simp)
          have hdl : (l.drop k).length = l.length - k := List.length_drop
          have HDR := Lib.hid (fun c' => RdI.drop HL.out k hk c')
          have hcase : ((k : Int) < l.length ∧ ∃ m, w.cell? ⟨b, off + k, none⟩ = some (.int .i64 m) ∧ ¬ m < n) ∨ (¬ (k : Int) < l.length) := by
            by_cases hlt : k < l.length
            · exact .inl ⟨by omega, l[k], hcell k hlt, fun h => hgo ⟨hlt, h⟩⟩
            · exact .inr (by omega)
          clear hgo hm htl HI hcell
          have hkn : (k : Int) ≤ l.length := by omega
          have hkc : (k : Int) ≤ c := by omega
          rcases hcase with ⟨hlt, m', c0, hmn⟩ | hlt
          all_goals
            go_wp2_with (at_builtin; refine wpList_append_ints rfl _ _ rfl w.heap.size (.slice none 0 0) [] rfl (OwnI.nil _ _) _ (l.take k) rfl (HT.out _) (by rw [HTL.out]; simp; omega) (Nat.le_refl _) ?_)
            intro v1 w1 ho1 hb1
            have HO1 := Lib.hid ho1
            have HB1 := Lib.hid hb1
            have hz1 := hb1.size
            clear ho1 hb1
            try clear c0
            go_wp2_with (at_builtin; refine wpList_append_int rfl (.tmp 29) (.tmp 31) rfl w.heap.size v1 ([] ++ l.take k) rfl (HO1.out.alloc _) w1.heap.size rfl n ((Blk.alloc_new w1 _ _).cell 0) (by rw [List.nil_append, HTL.out]; omega) (by simp; omega) ?_)
            intro v2 w2 ho2 hb2
            have HO2 := Lib.hid ho2
            have HB2 := Lib.hid ((HB1.out.alloc hz1 _).trans hb2)
            have hz2 := HB2.out.size
            clear ho2 hb2
            by_cases hck : c = k
            · have hlk : l.length = k := by omega
              have hdn : l.drop k = [] := List.drop_of_length_le (by omega)
              have hkk : c - k = 0 := by omega
              go_wp2_with (at_builtin; refine wpList_append_ints rfl _ _ rfl w.heap.size v2 ([] ++ l.take k ++ [n]) rfl HO2.out _ (l.drop k) rfl (.inl ⟨_, _, rfl, hdn⟩) (by simp only [List.length_append, List.length_nil, List.length_take, List.length_singleton, List.length_drop]; omega) hz2 ?_)
              intro v3 w3 ho3 hb3
              have HO3 := Lib.hid ho3
              have HB3 := Lib.hid (HB2.out.trans hb3)
              clear ho3 hb3
              go_wp2_with fail
              go_ret
              rw [HI2.out]
              exact ⟨_, rfl, by have := HO3.out.rd; simp only [hdn, List.append_nil, List.nil_append] at this ⊢; exact this, HO3.out.cap, HB3.out⟩
            · go_wp2_with (at_builtin; refine wpList_append_ints rfl _ _ rfl w.heap.size v2 ([] ++ l.take k ++ [n]) rfl HO2.out _ (l.drop k) rfl ((HDR.out _).below HB2.out) (by simp only [List.length_append, List.length_nil, List.length_take, List.length_singleton, List.length_drop]; omega) hz2 ?_)
              intro v3 w3 ho3 hb3
              have HO3 := Lib.hid ho3
              have HB3 := Lib.hid (HB2.out.trans hb3)
              clear ho3 hb3
              go_wp2_with fail
              go_ret
              rw [HI2.out]
              exact ⟨_, rfl, by have := HO3.out.rd; simpa using this, HO3.out.cap, HB3.out⟩
end Go.Proofs.Ytenbgfejonokdaa
