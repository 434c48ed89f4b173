/- The reference's cursors, saved and loaded on its disk: walked. -/
import Derived.Test.YtenbgfejonokdaaSave
import Derived.Test.YtenbgfejonokdaaRefB
namespace Go.Proofs.Ytenbgfejonokdaa
set_option maxRecDepth 100000
open Go.RowKit Go.Maps
open Dsk

/-- What comes of a save behind the draft's removal. -/
def chainS (d : Dk) (s : Str) : Int × Dk :=
  if (d.append draN s).1 ≠ 0 then d.append draN s
  else if ((d.append draN s).2.sync draN).1 ≠ 0 then (d.append draN s).2.sync draN
  else ((d.append draN s).2.sync draN).2.rename draN curN
theorem rem_none {d : Dk} {n : Str} (h : d.off = false) (hg : get d.files n = none) : d.remove n = (4, d) := by
  unfold Dk.remove
  rw [if_neg (by rw [h]; decide), hg]
theorem rem_some {d : Dk} {n : Str} {f : Fl} (h : d.off = false) (hg : get d.files n = some f) : (d.remove n).1 ≠ 4 := by
  unfold Dk.remove
  rw [if_neg (by rw [h]; decide), hg]
  show (d.change _).1 ≠ 4
  unfold Dk.change
  split
  · split <;> simp
  · simp
theorem place_some {m : Files} {n : Str} {i : Nat} (hi : i < m.length) (h : m[i].1 = n) : ∃ f, get m n = some f := by
  cases hg : get m n with
  | some f => exact ⟨f, rfl⟩
  | none =>
    unfold Dsk.get at hg
    rw [Option.map_eq_none_iff, List.find?_eq_none] at hg
    exact absurd (by simp [h]) (hg _ (List.getElem_mem hi))
theorem saveD_none {d : Dk} {a b : Int} (h : d.off = false) (hm : Cur.May a b) (hg : get d.files draN = none) : saveD d a b = chainS d (Cur.enc a b).1 := by
  unfold saveD chainS
  rw [if_neg (by rw [h]; decide), if_neg (by simp [hm]), rem_none h hg]
  rw [if_neg (by simp)]
theorem saveD_some {d : Dk} {a b : Int} {f : Fl} (h : d.off = false) (hm : Cur.May a b) (hg : get d.files draN = some f) : saveD d a b = if (d.remove draN).1 = 0 then chainS (d.remove draN).2 (Cur.enc a b).1 else d.remove draN := by
  have h4 := rem_some h hg
  unfold saveD chainS
  rw [if_neg (by rw [h]; decide), if_neg (by simp [hm])]
  by_cases h0 : (d.remove draN).1 = 0
  · rw [if_pos h0, if_neg (by simp [h0])]
  · rw [if_neg h0, if_pos ⟨h0, h4⟩]
section
variable {w0 w : World} {X : Nat → Prop} {v : Value} {d : Dk}
theorem RLive.at_ (h : RLive w0 X w v d) (name : ByteArray) : Calls Try.prog 83 #[v, .string name] w fun e w' => ∃ r, e = .returned (.int .i64 r) ∧ Place d.files name.data.toList r ∧ w = w' := by
  obtain ⟨F, h, _⟩ := h; obtain ⟨_, rfl⟩ := h.ptr; obtain ⟨_, _, _, _, hi, _⟩ := h.open_; exact refPlace_in hi name
set_option maxHeartbeats 4000000 in
theorem RLive.save (h : RLive w0 X w v d) (a b : Int) (ha : -9223372036854775808 ≤ a ∧ a ≤ 9223372036854775807) (hb : -9223372036854775808 ≤ b ∧ b ≤ 9223372036854775807) :
    Calls Try.prog 37 #[v, curV a b] w fun e w' => e = .returned (.int .i64 (saveD d a b).1) ∧ RLive w0 X w' v (saveD d a b).2 ∧ Keeps X w w' := by
  obtain ⟨bd, rfl⟩ := h.ptr
  have HE := Lib.hid (fun W : World => refEncode_any a b W ha hb)
  obtain ⟨R, hR⟩ : ∃ R, R = saveD d a b := ⟨_, rfl⟩
  rw [← hR]
  unfold curV at HE ⊢
  obtain ⟨w1, hw1⟩ : ∃ w1, w1 = w.alloc (.cells #[.int .i64 a, .int .i64 b] 23 (0, 0)) := ⟨_, rfl⟩
  have hb1 : Below w.heap.size w w1 := by rw [hw1]; exact (Below.refl _ _).alloc (Nat.le_refl _) _
  have hk1 : Blk w1 w.heap.size 23 #[.int .i64 a, .int .i64 b] := by rw [hw1]; exact Blk.alloc_new w _ _
  have H1 := Lib.hid (h.keep hb1)
  have HK1 := Lib.hid (Keeps.below (X := X) hb1)
  have c0 := hk1.cell 0
  have c1 := hk1.cell 1
  simp at c0 c1
  obtain ⟨st, vl, nf, vk, hblk⟩ := H1.out.blk
  have c2 := hblk.cell 2
  simp at c2
  rw [hw1] at c0 c1 c2
  have HW1 := Lib.hid hw1
  clear h hb1 hk1 hw1 ha hb hblk
  cases hoff : d.off with
  | true =>
    rw [hoff] at c2
    unfold saveD at hR
    rw [if_pos hoff] at hR
    have HR := Lib.hid hR
    clear hR hoff
    go_enter Try.func37, Try.ntmps37
    go_wp2_with fail
    rw [← HW1.out]
    go_ret
    rw [HR.out]
    exact ⟨rfl, H1.out, HK1.out⟩
  | false =>
    rw [hoff] at c2
    have Hoff := Lib.hid hoff
    clear hoff
    by_cases hm : Cur.May a b
    · have Hm := Lib.hid hm
      have hen := Cur.enc_some hm
      have hlen := Cur.enc_length a b
      obtain ⟨s, hs⟩ : ∃ s : ByteArray, s = ⟨(Cur.enc a b).1.toArray⟩ := ⟨_, rfl⟩
      have hss : s.size ≤ 19 := by rw [hs]; exact Nat.le_trans (Nat.le_of_eq List.size_toArray) hlen
      have hsd : s.data.toList = (Cur.enc a b).1 := by rw [hs]
      have h2 : (Cur.enc a b).2 = 0 := by rw [hen]
      rw [← hs, h2] at HE
      have hn7 : (⟨#[99, 117, 114, 115, 111, 114, 43]⟩ : ByteArray).data.toList = draN := rfl
      have hn6 : (⟨#[99, 117, 114, 115, 111, 114]⟩ : ByteArray).data.toList = curN := rfl
      have Hn7 := Lib.hid hn7
      have Hn6 := Lib.hid hn6
      have Hsd := Lib.hid hsd
      have HR0 := Lib.hid hR
      have Hss := Lib.hid hss
      clear hR hen hlen hs hsd h2 hm hn7 hn6 hss
      go_enter Try.func37, Try.ntmps37
      go_wp2_with fail
      rw [← HW1.out]
      refine (HE.out _).mono ?_
      rintro e w2 ⟨rfl, hb2⟩
      have H2 := Lib.hid (H1.out.keep hb2)
      have HK2 := Lib.hid (HK1.out.trans (Keeps.below hb2))
      clear hb2 c0 c1 c2
      go_wp2_with fail
      refine (H2.out.at_ _).mono ?_
      rintro e w2' ⟨r, rfl, hpl, rfl⟩
      rcases hpl with ⟨rfl, hg⟩ | ⟨i, hi, rfl, hni⟩
      · have HRR := Lib.hid (show R = chainS d s.data.toList from by rw [HR0.out, Hsd.out]; exact saveD_none Hoff.out Hm.out hg)
        unfold chainS at HRR
        obtain ⟨dd, hdd⟩ : ∃ dd, dd = d := ⟨_, rfl⟩
        rw [← hdd] at HRR
        have H3 := H2
        rw [← hdd] at H3
        have HK3 := HK2
        have hap := H3.out.append ⟨#[99, 117, 114, 115, 111, 114, 43]⟩ s (lit_le (by decide)) (by have := Hss.out; omega)
        rw [Hn7.out] at hap
        have Hap := Lib.hid hap
        clear hg hap hdd
        go_wp2_with fail
        refine Hap.out.mono ?_
        rintro e w4 ⟨rfl, hl4, hk4⟩
        have hr := HRR.out
        generalize dd.append draN s.data.toList = r2 at hr hl4 ⊢
        obtain ⟨e2, d2⟩ := r2
        simp only at hr hl4 ⊢
        have H4 := Lib.hid hl4
        have HK4 := Lib.hid (HK3.out.trans hk4)
        clear hl4 hk4
        by_cases h2 : e2 = 0
        case neg =>
          rw [if_pos h2] at hr
          have q2 : (e2 == 0) = false := by rw [beq_eq_false_iff_ne]; exact h2
          have Hr := Lib.hid hr
          clear hr h2
          go_wp2_with fail
          go_ret
          rw [Hr.out]
          exact ⟨rfl, H4.out, HK4.out⟩
        subst h2
        rw [if_neg (by simp)] at hr
        have hsy := H4.out.sync ⟨#[99, 117, 114, 115, 111, 114, 43]⟩
        rw [Hn7.out] at hsy
        have Hsy := Lib.hid hsy
        have HR3 := Lib.hid hr
        clear hr hsy
        go_wp2_with fail
        refine Hsy.out.mono ?_
        rintro e w5 ⟨rfl, hl5, hk5⟩
        have hr := HR3.out
        generalize d2.sync draN = r3 at hr hl5 ⊢
        obtain ⟨e3, d3⟩ := r3
        simp only at hr hl5 ⊢
        have H5 := Lib.hid hl5
        have HK5 := Lib.hid (HK4.out.trans hk5)
        clear hl5 hk5
        by_cases h3 : e3 = 0
        case neg =>
          rw [if_pos h3] at hr
          have q2 : (e3 == 0) = false := by rw [beq_eq_false_iff_ne]; exact h3
          have Hr := Lib.hid hr
          clear hr h3
          go_wp2_with fail
          go_ret
          rw [Hr.out]
          exact ⟨rfl, H5.out, HK5.out⟩
        subst h3
        rw [if_neg (by simp)] at hr
        have hrn := H5.out.rename ⟨#[99, 117, 114, 115, 111, 114, 43]⟩ ⟨#[99, 117, 114, 115, 111, 114]⟩ (lit_le (by decide))
        rw [Hn7.out, Hn6.out] at hrn
        have Hrn := Lib.hid hrn
        have HR4 := Lib.hid hr
        clear hr hrn
        go_wp2_with fail
        refine Hrn.out.mono ?_
        rintro e w6 ⟨rfl, hl6, hk6⟩
        have H6 := Lib.hid hl6
        have HK6 := Lib.hid (HK5.out.trans hk6)
        clear hl6 hk6
        go_wp2_with fail
        go_ret
        rw [HR4.out]
        exact ⟨rfl, H6.out, HK6.out⟩
      · obtain ⟨f, hg⟩ := place_some hi hni
        have hr0 : R = if (d.remove draN).1 = 0 then chainS (d.remove draN).2 s.data.toList else d.remove draN := by rw [HR0.out, Hsd.out]; exact saveD_some Hoff.out Hm.out hg
        have hrm := H2.out.remove ⟨#[99, 117, 114, 115, 111, 114, 43]⟩
        rw [Hn7.out] at hrm
        have Hrm := Lib.hid hrm
        have HR1 := Lib.hid hr0
        have hi0 : (0 : Int) ≤ (i : Int) := by omega
        clear hr0 hrm hg hi hni
        go_wp2_with fail
        refine Hrm.out.mono ?_
        rintro e w3 ⟨rfl, hl3, hk3⟩
        have hr := HR1.out
        generalize d.remove draN = r1 at hr hl3 ⊢
        obtain ⟨e1, dd⟩ := r1
        simp only at hr hl3 ⊢
        have H3 := Lib.hid hl3
        have HK3 := Lib.hid (HK2.out.trans hk3)
        clear hl3 hk3
        by_cases h1 : e1 = 0
        case neg =>
          rw [if_neg h1] at hr
          have q2 : (e1 == 0) = false := by rw [beq_eq_false_iff_ne]; exact h1
          have Hr := Lib.hid hr
          clear hr h1
          go_wp2_with fail
          go_ret
          rw [Hr.out]
          exact ⟨rfl, H3.out, HK3.out⟩
        subst h1
        rw [if_pos rfl] at hr
        unfold chainS at hr
        have HRR := Lib.hid hr
        have hap := H3.out.append ⟨#[99, 117, 114, 115, 111, 114, 43]⟩ s (lit_le (by decide)) (by have := Hss.out; omega)
        rw [Hn7.out] at hap
        have Hap := Lib.hid hap
        clear hr hap
        go_wp2_with fail
        refine Hap.out.mono ?_
        rintro e w4 ⟨rfl, hl4, hk4⟩
        have hr := HRR.out
        generalize dd.append draN s.data.toList = r2 at hr hl4 ⊢
        obtain ⟨e2, d2⟩ := r2
        simp only at hr hl4 ⊢
        have H4 := Lib.hid hl4
        have HK4 := Lib.hid (HK3.out.trans hk4)
        clear hl4 hk4
        by_cases h2 : e2 = 0
        case neg =>
          rw [if_pos h2] at hr
          have q2 : (e2 == 0) = false := by rw [beq_eq_false_iff_ne]; exact h2
          have Hr := Lib.hid hr
          clear hr h2
          go_wp2_with fail
          go_ret
          rw [Hr.out]
          exact ⟨rfl, H4.out, HK4.out⟩
        subst h2
        rw [if_neg (by simp)] at hr
        have hsy := H4.out.sync ⟨#[99, 117, 114, 115, 111, 114, 43]⟩
        rw [Hn7.out] at hsy
        have Hsy := Lib.hid hsy
        have HR3 := Lib.hid hr
        clear hr hsy
        go_wp2_with fail
        refine Hsy.out.mono ?_
        rintro e w5 ⟨rfl, hl5, hk5⟩
        have hr := HR3.out
        generalize d2.sync draN = r3 at hr hl5 ⊢
        obtain ⟨e3, d3⟩ := r3
        simp only at hr hl5 ⊢
        have H5 := Lib.hid hl5
        have HK5 := Lib.hid (HK4.out.trans hk5)
        clear hl5 hk5
        by_cases h3 : e3 = 0
        case neg =>
          rw [if_pos h3] at hr
          have q2 : (e3 == 0) = false := by rw [beq_eq_false_iff_ne]; exact h3
          have Hr := Lib.hid hr
          clear hr h3
          go_wp2_with fail
          go_ret
          rw [Hr.out]
          exact ⟨rfl, H5.out, HK5.out⟩
        subst h3
        rw [if_neg (by simp)] at hr
        have hrn := H5.out.rename ⟨#[99, 117, 114, 115, 111, 114, 43]⟩ ⟨#[99, 117, 114, 115, 111, 114]⟩ (lit_le (by decide))
        rw [Hn7.out, Hn6.out] at hrn
        have Hrn := Lib.hid hrn
        have HR4 := Lib.hid hr
        clear hr hrn
        go_wp2_with fail
        refine Hrn.out.mono ?_
        rintro e w6 ⟨rfl, hl6, hk6⟩
        have H6 := Lib.hid hl6
        have HK6 := Lib.hid (HK5.out.trans hk6)
        clear hl6 hk6
        go_wp2_with fail
        go_ret
        rw [HR4.out]
        exact ⟨rfl, H6.out, HK6.out⟩
    · unfold saveD at hR
      rw [if_neg (by rw [Hoff.out]; decide), if_pos (by simp [hm])] at hR
      have hen := Cur.enc_none hm
      rw [hen] at HE
      have HR := Lib.hid hR
      clear hR hen hm
      go_enter Try.func37, Try.ntmps37
      go_wp2_with fail
      rw [← HW1.out]
      refine (HE.out _).mono ?_
      rintro e w2 ⟨rfl, hb2⟩
      have H2 := Lib.hid (H1.out.keep hb2)
      have HK2 := Lib.hid (HK1.out.trans (Keeps.below hb2))
      clear hb2
      go_wp2_with fail
      go_ret
      rw [HR.out]
      exact ⟨rfl, H2.out, HK2.out⟩
set_option maxHeartbeats 2000000 in
theorem RLive.load (h : RLive w0 X w v d) :
    Calls Try.prog 32 #[v] w fun e w' => e = .returned (.tuple #[curV (loadD d).1.1 (loadD d).1.2, .int .i64 (loadD d).2]) ∧ Below w.heap.size w w' := by
  obtain ⟨bd, rfl⟩ := h.ptr
  obtain ⟨R, hR⟩ : ∃ R, R = loadD d := ⟨_, rfl⟩
  rw [← hR]
  unfold curV loadD at *
  obtain ⟨w1, hw1⟩ : ∃ w1, w1 = w.alloc (.cells #[.int .i64 0, .int .i64 0] 23 (0, 0)) := ⟨_, rfl⟩
  have hb1 : Below w.heap.size w w1 := by rw [hw1]; exact (Below.refl _ _).alloc (Nat.le_refl _) _
  have B0 := Lib.hid (show Blk w1 w.heap.size 23 #[.int .i64 0, .int .i64 0] by rw [hw1]; exact Blk.alloc_new w _ _)
  have H1 := Lib.hid (h.keep hb1)
  have HW1 := Lib.hid hw1
  have Hb1 := Lib.hid hb1
  have hz1 : w1.heap.size = w.heap.size + 1 := by rw [hw1]; simp
  have hrd := H1.out.read ⟨#[99, 117, 114, 115, 111, 114]⟩
  rw [show (⟨#[99, 117, 114, 115, 111, 114]⟩ : ByteArray).data.toList = curN from rfl] at hrd
  have hlen : ∃ s : ByteArray, s = ⟨(d.read curN).1.toArray⟩ ∧ s.size ≤ maxLen := by
    refine ⟨_, rfl, ?_⟩
    show (List.toArray _).size ≤ _
    rw [List.size_toArray]
    have hf := h.ok.fits
    have hr2 := h.ok.room2
    unfold Dk.read
    split
    · simp
    · cases hg : get d.files curN with
      | none => simp
      | some f =>
        have hd : f.data.length ≤ total d.files := data_le (get_mem hg)
        unfold maxLen; simp only; omega
  generalize d.read curN = rd at hR hrd hlen
  obtain ⟨t, e1⟩ := rd
  simp only at hR hrd hlen
  obtain ⟨s, hs, hsl⟩ := hlen
  rw [← hs] at hrd
  have hst : s.data.toList = t := by rw [hs]
  rw [← hst] at hR
  have HR := Lib.hid hR
  have Hrd := Lib.hid hrd
  have Hde := Lib.hid (fun W : World => refDecode_any s W hsl)
  unfold curV at Hde
  have Bad := Lib.hid (show ∀ (v : World) (a b : Int), Below w1.heap.size w1 v → Blk ((v.setCell ⟨w.heap.size, 0, none⟩ (.int .i64 a)).setCell ⟨w.heap.size, 1, none⟩ (.int .i64 b)) w.heap.size 23 #[.int .i64 a, .int .i64 b] ∧ Below w.heap.size w ((v.setCell ⟨w.heap.size, 0, none⟩ (.int .i64 a)).setCell ⟨w.heap.size, 1, none⟩ (.int .i64 b)) from fun v a b hv =>
    ⟨cur_two (B0.out.below hv) _ _, ((Hb1.out.trans (hv.mono (by omega))).setCell (p := ⟨w.heap.size, 0, none⟩) (Nat.le_refl _) _).setCell (p := ⟨w.heap.size, 1, none⟩) (Nat.le_refl _) _⟩)
  clear h hb1 hw1 hR hrd hs hst hsl
  by_cases h4 : e1 = 4
  · subst h4
    have hr := HR.out
    rw [if_pos rfl] at hr
    have Hr := Lib.hid hr
    clear hr
    go_enter Try.func32, Try.ntmps32
    go_wp2_with fail
    rw [← HW1.out]
    refine Hrd.out.mono ?_
    rintro e w2 ⟨rfl, rfl⟩
    have hb2 : Below w1.heap.size w1 w1 := Below.refl _ _
    have HZ := Lib.hid (Bad.out w1 0 0 hb2)
    have bx := B0.out.below hb2
    have h0 := bx.free 0
    have h1 := bx.free 1
    have e0 := bx.cell 0
    have e1 := bx.cell 1
    simp at e0 e1
    clear bx hb2
    go_wp2_with fail
    generalize ((w1.setCell ⟨w.heap.size, 0, none⟩ (.int .i64 0)).setCell ⟨w.heap.size, 1, none⟩ (.int .i64 0)) = wz at HZ ⊢
    have k0 := HZ.out.1.cell 0
    have k1 := HZ.out.1.cell 1
    simp at k0 k1
    refine bodyPost_ret (v := .tuple #[.agg #[.int .i64 0, .int .i64 0], .int .i64 0]) (by simp [results, Try.results32, go_sem, k0, k1]) rfl ⟨by rw [Hr.out], HZ.out.2⟩
  by_cases h0 : e1 = 0
  · subst h0
    have hr := HR.out
    rw [if_neg (by decide), if_pos rfl] at hr
    have hdr : Cur.decR s.data.toList = match Cur.dec s.data.toList with | some c => (c, 0) | none => ((0, 0), 30) := rfl
    generalize Cur.decR s.data.toList = D at hdr Hde
    obtain ⟨⟨a, b⟩, e2⟩ := D
    have HRR := Lib.hid hr
    have HDR := Lib.hid hdr
    clear hr hdr h4
    go_enter Try.func32, Try.ntmps32
    go_wp2_with fail
    rw [← HW1.out]
    refine Hrd.out.mono ?_
    rintro e w2 ⟨rfl, rfl⟩
    have hb2 : Below w1.heap.size w1 w1 := Below.refl _ _
    have Hb2 := Lib.hid hb2
    clear hb2
    go_wp2_with fail
    refine (Hde.out _).mono ?_
    rintro e w3 ⟨rfl, hb3⟩
    obtain ⟨w4, hw4⟩ : ∃ w4, w4 = w3.alloc (.cells #[.int .i64 a, .int .i64 b] 23 (0, 0)) := ⟨_, rfl⟩
    have Hb3 := Lib.hid (Hb2.out.trans (hb3.mono Hb2.out.size))
    have Hb4 := Lib.hid (show Below w1.heap.size w1 w4 from by rw [hw4]; exact Hb3.out.alloc Hb3.out.size _)
    have bx := B0.out.below Hb4.out
    have h0 := bx.free 0
    have h1 := bx.free 1
    have e0 := bx.cell 0
    have e1 := bx.cell 1
    simp at e0 e1
    rw [hw4] at h0 h1 e0 e1
    have HW4 := Lib.hid hw4
    clear hb3 bx hw4
    by_cases hx : e2 = 0
    · have hd := HDR.out
      subst hx
      have hr := HRR.out
      cases hdc : Cur.dec s.data.toList with
      | none => rw [hdc] at hd; simp only [Prod.mk.injEq] at hd; exact absurd hd.2 (by decide)
      | some c =>
        rw [hdc] at hd hr
        simp only [Prod.mk.injEq] at hd
        obtain ⟨rfl, _⟩ := hd
        have Hr := Lib.hid hr
        have HZ := Lib.hid (Bad.out w4 a b Hb4.out)
        clear hr hdc
        go_wp2_with fail
        rw [← HW4.out]
        generalize ((w4.setCell ⟨w.heap.size, 0, none⟩ (.int .i64 a)).setCell ⟨w.heap.size, 1, none⟩ (.int .i64 b)) = wz at HZ ⊢
        have k0 := HZ.out.1.cell 0
        have k1 := HZ.out.1.cell 1
        simp at k0 k1
        refine bodyPost_ret (v := .tuple #[.agg #[.int .i64 a, .int .i64 b], .int .i64 0]) (by simp [results, Try.results32, go_sem, k0, k1]) rfl ⟨by rw [Hr.out], HZ.out.2⟩
    · have hd := HDR.out
      have hr := HRR.out
      cases hdc : Cur.dec s.data.toList with
      | some c => rw [hdc] at hd; simp only [Prod.mk.injEq] at hd; exact absurd hd.2 hx
      | none =>
        rw [hdc] at hr
        have q : (e2 == 0) = false := by rw [beq_eq_false_iff_ne]; exact hx
        have Hr := Lib.hid hr
        have HZ := Lib.hid (Bad.out w4 0 0 Hb4.out)
        clear hr hdc hd hx
        go_wp2_with fail
        rw [← HW4.out]
        generalize ((w4.setCell ⟨w.heap.size, 0, none⟩ (.int .i64 0)).setCell ⟨w.heap.size, 1, none⟩ (.int .i64 0)) = wz at HZ ⊢
        have k0 := HZ.out.1.cell 0
        have k1 := HZ.out.1.cell 1
        simp at k0 k1
        refine bodyPost_ret (v := .tuple #[.agg #[.int .i64 0, .int .i64 0], .int .i64 60]) (by simp [results, Try.results32, go_sem, k0, k1]) rfl ⟨by rw [Hr.out], HZ.out.2⟩
  · have hr := HR.out
    rw [if_neg h4, if_neg h0] at hr
    have q4 : (e1 == 4) = false := by rw [beq_eq_false_iff_ne]; exact h4
    have q0 : (e1 == 0) = false := by rw [beq_eq_false_iff_ne]; exact h0
    have Hr := Lib.hid hr
    clear hr h4 h0
    go_enter Try.func32, Try.ntmps32
    go_wp2_with fail
    rw [← HW1.out]
    refine Hrd.out.mono ?_
    rintro e w2 ⟨rfl, rfl⟩
    have hb2 : Below w1.heap.size w1 w1 := Below.refl _ _
    have HZ := Lib.hid (Bad.out w1 0 0 hb2)
    have bx := B0.out.below hb2
    have h0 := bx.free 0
    have h1 := bx.free 1
    have e0 := bx.cell 0
    have ee1 := bx.cell 1
    simp at e0 ee1
    clear bx hb2
    go_wp2_with fail
    generalize ((w1.setCell ⟨w.heap.size, 0, none⟩ (.int .i64 0)).setCell ⟨w.heap.size, 1, none⟩ (.int .i64 0)) = wz at HZ ⊢
    have k0 := HZ.out.1.cell 0
    have k1 := HZ.out.1.cell 1
    simp at k0 k1
    refine bodyPost_ret (v := .tuple #[.agg #[.int .i64 0, .int .i64 0], .int .i64 e1]) (by simp [results, Try.results32, go_sem, k0, k1]) rfl ⟨by rw [Hr.out], HZ.out.2⟩
end
end Go.Proofs.Ytenbgfejonokdaa
