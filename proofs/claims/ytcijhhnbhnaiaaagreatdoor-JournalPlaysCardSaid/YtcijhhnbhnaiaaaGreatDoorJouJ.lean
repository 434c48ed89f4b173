/- A journal opened: walked. -/
import Derived.Test.YtcijhhnbhnaiaaaGreatDoorJouI
namespace Go.Proofs.YtcijhhnbhnaiaaaGreatDoor
set_option linter.unusedSimpArgs false
set_option linter.unusedVariables false
set_option maxRecDepth 100000
open Go.RowKit Go.Maps
open Dsk

section
variable {w0 w w' : World} {X Z Y S : Nat → Prop} {v : Value} {d d1 d2 d' : Dk} {st num r fr : Int} {bad : Bool} {ns : List Nat}
set_option maxHeartbeats 2000000 in
theorem jopen_new (h : Live w0 X w v d) (hup : d.off = false) (hN : names d.files = []) (hfr : 1 ≤ fr) :
    Calls Tryz.prog 12 #[v, .int .i64 fr] w fun e w' => ∃ j Y, e = .returned (.tuple #[.pointer (some ⟨j, 0, none⟩), .slice none 0 0, .int .i64 0]) ∧ (∀ k, X k → Y k) ∧ JS w0 Y w' v d j d.starts false fr ∧ Below w.heap.size w w' ∧ w.heap.size ≤ j := by
  have HST := Lib.hid h.starts
  have HUP := Lib.hid h.up
  rw [hup] at HUP
  have H := Lib.hid h
  obtain ⟨bd, rfl⟩ := h.ptr
  obtain ⟨w1, hw1⟩ : ∃ w1, w1 = w.alloc (.cells #[.pointer (some ⟨bd, 0, none⟩), .int .i64 d.starts, .bool false, .int .i64 fr] 56 (0, 0)) := ⟨_, rfl⟩
  have hb1 : Below w.heap.size w w1 := by rw [hw1]; exact (Below.refl _ _).alloc (Nat.le_refl _) _
  have HUP1 := Lib.hid (show Calls Tryz.prog 32 #[.pointer (some ⟨bd, 0, none⟩)] w1 fun e w' => e = .returned (.bool true) ∧ w1 = w' by have := (h.keep hb1).up; rw [hup] at this; exact this)
  have hj1 : JS w0 (Also X w w1) w1 (.pointer (some ⟨bd, 0, none⟩)) d w.heap.size d.starts false fr := by
    have hk : Blk w1 w.heap.size 56 #[.pointer (some ⟨bd, 0, none⟩), .int .i64 d.starts, .bool false, .int .i64 fr] := by rw [hw1]; exact Blk.alloc_new _ _ _
    exact ⟨h.add hb1, hk, .inr ⟨Nat.le_refl _, hk.lt⟩, h.size⟩
  have HJ1 := Lib.hid hj1
  have HJ1X := Lib.hid (show ∀ b, X b → b < w.heap.size from h.lt)
  have HB1 := Lib.hid hb1
  have HW1 := Lib.hid hw1
  have t1 : ¬ fr < 1 := by omega
  have HCL := Lib.hid (jclear_keep (ns := []) hj1 hN (by simp) (fun n hn => by cases hn) fr (fun n hn => by cases hn))
  have HFI := Lib.hid (fun (W : World) (hW : Below w1.heap.size w1 W) => jfiles_any (ns := []) (hj1.live.keep hW) hN (by simp) (fun n hn => by cases hn))
  clear h hup hN hfr hw1 hb1 hj1
  go_enter Tryz.func12, Tryz.ntmps12
  go_wp2_with fail
  refine HST.out.mono ?_
  rintro e w' ⟨rfl, rfl⟩
  go_wp2_with fail
  rw [← HW1.out]
  refine HUP1.out.mono ?_
  rintro e w' ⟨rfl, rfl⟩
  go_wp2_with fail
  refine HUP1.out.mono ?_
  rintro e w' ⟨rfl, rfl⟩
  go_wp2_with fail
  refine HCL.out.mono ?_
  rintro e w2 ⟨rfl, hb2⟩
  have HB2 := Lib.hid hb2
  clear hb2
  go_wp2_with fail
  refine (HFI.out w2 HB2.out).mono ?_
  rintro e w3 ⟨u, rfl, hu, hb3⟩
  obtain ⟨ux, uc, hus, _⟩ := hu.each
  have hus2 : u = .slice ux 0 uc := hus
  subst hus2
  have HB3 := Lib.hid (HB2.out.trans (hb3.mono HB2.out.size))
  clear hu hb3 hus
  go_wp2_with fail
  go_loopw [11, 13, 14, 15, 16, 17, 18, 52] (fun v11 _ _ _ _ _ _ v52 wr => v11 = .slice none 0 0 ∧ v52 = .int .i64 0 ∧ w3 = wr) (fun _ _ _ _ _ _ _ _ _ => 0)
  case atStart => exact ⟨rfl, rfl, rfl⟩
  case round =>
    obtain ⟨rfl, rfl, rfl⟩ := hrel
    go_wp2_with fail
    refine bodyPost_ret (v := .tuple #[.pointer (some ⟨w.heap.size, 0, none⟩), .slice none 0 0, .int .i64 0]) (by simp [results, Tryz.results12, go_sem]) rfl ⟨_, _, rfl, fun k e => .inl e, HJ1.out.below HB3.out, HB1.out.trans (HB3.out.mono HB1.out.size), Nat.le_refl _⟩
def OpenPost (w0 : World) (X : Nat → Prop) (w : World) (v : Value) (d' : Dk) (st : Int) (n : Nat) (cells : List Jou.Cell) (e : Ending) (w' : World) : Prop :=
  ∃ j u Y, e = .returned (.tuple #[.pointer (some ⟨j, 0, none⟩), u, .int .i64 0]) ∧ (∀ k, X k → Y k) ∧ JS w0 Y w' v d' j st false n ∧ OwnC w' w.heap.size u cells ∧ (∀ k, u.ownBlock = some k → Y k ∧ k ≠ j) ∧ Keeps X w w' ∧ w.heap.size ≤ j
theorem below_of_le {w w' : World} {B B' : Nat} (h : Below B w w') (hB : B' ≤ B) : Below B' w w' := h.mono hB
set_option maxHeartbeats 4000000 in
theorem jopen_file {n : Nat} (h : Live w0 X w v d) (hup : d.off = false) (hN : names d.files = [jn n]) (hn : NumOk w0 n) (hfr : 1 ≤ fr) (hfn : fr ≤ n) (text : ByteArray) (ht : text.size ≤ 1048576) (hrd : d.read (jn n) = (text.data.toList, 0))
    {ps : List (List UInt8)} {en : Nat} (hw : Frm.whole text.size text.data.toList = (ps, en)) (hen : en ≤ text.size)
    {lots : List (List Jou.Cell)} (hll : lots.length = ps.length) (hps : ps.length ≤ 1048576) (hd : ∀ (k : Nat) (hk : k < ps.length) (hk' : k < lots.length), Jou.dec ps[k] = some lots[k] ∧ ps[k].length ≤ 16384) (hc : ∀ l ∈ lots, l.length ≤ 16384)
    (hmend : en < text.size → ∃ d1 d2, d.append jdraft (text.extract 0 en).data.toList = (0, d1) ∧ d1.sync jdraft = (0, d2) ∧ d2.rename jdraft (jn n) = (0, d')) (hsame : ¬ en < text.size → d' = d) :
    Calls Tryz.prog 12 #[v, .int .i64 fr] w (OpenPost w0 X w v d' d.starts n lots.flatten) := by
  have HST := Lib.hid h.starts
  have HUP := Lib.hid h.up
  rw [hup] at HUP
  have H := Lib.hid h
  obtain ⟨bd, rfl⟩ := h.ptr
  obtain ⟨w1, hw1⟩ : ∃ w1, w1 = w.alloc (.cells #[.pointer (some ⟨bd, 0, none⟩), .int .i64 d.starts, .bool false, .int .i64 fr] 56 (0, 0)) := ⟨_, rfl⟩
  have hb1 : Below w.heap.size w w1 := by rw [hw1]; exact (Below.refl _ _).alloc (Nat.le_refl _) _
  have HUP1 := Lib.hid (show Calls Tryz.prog 32 #[.pointer (some ⟨bd, 0, none⟩)] w1 fun e w' => e = .returned (.bool true) ∧ w1 = w' by have := (h.keep hb1).up; rw [hup] at this; exact this)
  have hj1 : JS w0 (Also X w w1) w1 (.pointer (some ⟨bd, 0, none⟩)) d w.heap.size d.starts false fr := by
    have hk : Blk w1 w.heap.size 56 #[.pointer (some ⟨bd, 0, none⟩), .int .i64 d.starts, .bool false, .int .i64 fr] := by rw [hw1]; exact Blk.alloc_new _ _ _
    exact ⟨h.add hb1, hk, .inr ⟨Nat.le_refl _, hk.lt⟩, h.size⟩
  have HJ1 := Lib.hid hj1
  have HJ1X := Lib.hid (show ∀ b, X b → b < w.heap.size from h.lt)
  have HB1 := Lib.hid hb1
  have HW1 := Lib.hid hw1
  have t1 : ¬ fr < 1 := by omega
  have HCL := Lib.hid (jclear_keep (ns := [n]) hj1 hN (by simp) (fun m hm => by obtain rfl : m = n := (by simpa using hm); exact hn) fr (fun m hm => by obtain rfl : m = n := (by simpa using hm); exact hfn))
  have HFI := Lib.hid (fun (W : World) (hW : Below w1.heap.size w1 W) => jfiles_any (ns := [n]) (hj1.live.keep hW) hN (by simp) (fun m hm => by obtain rfl : m = n := (by simpa using hm); exact hn))
  have HRE := Lib.hid (fun (W : World) (hW : Below w1.heap.size w1 W) => jread_any (hj1.live.keep hW) hn text ht hrd hw hen hll hps hd hc)
  have HME := Lib.hid hmend
  have HSA := Lib.hid hsame
  have HN := Lib.hid hn
  have HTZ := Lib.hid ht
  have HFL := Lib.hid (show lots.flatten.length ≤ 16384 * 1048576 by
    have h1 := flat_take_len hc lots.length
    rw [List.take_length] at h1
    have : lots.length ≤ 1048576 := by omega
    omega)
  obtain ⟨cells, hcells⟩ : ∃ cells, cells = lots.flatten := ⟨_, rfl⟩
  rw [← hcells] at HRE HFL ⊢
  obtain ⟨W0, hW0⟩ : ∃ W0, W0 = text.extract 0 en := ⟨_, rfl⟩
  rw [← hW0] at HRE HME
  have HWZ := Lib.hid (show W0.size ≤ maxLen by rw [hW0]; simp [ByteArray.size_extract]; unfold maxLen; omega)
  clear h hup hN hfr hw1 hb1 hj1 hn hrd hw hll hps hd hc hmend hsame hcells hW0 hfn ht
  go_enter Tryz.func12, Tryz.ntmps12
  go_wp2_with fail
  refine HST.out.mono ?_
  rintro e w' ⟨rfl, rfl⟩
  go_wp2_with fail
  rw [← HW1.out]
  refine HUP1.out.mono ?_
  rintro e w' ⟨rfl, rfl⟩
  go_wp2_with fail
  refine HUP1.out.mono ?_
  rintro e w' ⟨rfl, rfl⟩
  go_wp2_with fail
  refine HCL.out.mono ?_
  rintro e w2 ⟨rfl, hb2⟩
  have HB2 := Lib.hid hb2
  clear hb2
  go_wp2_with fail
  refine (HFI.out w2 HB2.out).mono ?_
  rintro e w3 ⟨u, rfl, hu, hb3⟩
  obtain ⟨ux, uc, hus, hcs⟩ := hu.each
  have hus2 : u = .slice ux 1 uc := hus
  subst hus2
  obtain ⟨g, rfl, _, hg, hgc⟩ := hcs 0 (by rw [nI_length]; simp)
  have hgc2 : w3.cell? ⟨g, 0, none⟩ = some (.int .i64 n) := hgc
  have HG := Lib.hid hgc2
  have HB3 := Lib.hid (HB2.out.trans (hb3.mono HB2.out.size))
  clear hu hb3 hus hcs hgc hgc2
  go_wp2_with fail
  go_loopw [11, 13, 14, 15, 16, 17, 18, 52] (fun v11 _ _ _ _ _ _ v52 wr => ∃ k : Nat, v52 = .int .i64 k ∧ k ≤ 1 ∧ (k = 0 → v11 = .slice none 0 0 ∧ w3 = wr) ∧
    (k = 1 → ∃ Y, (∀ b, X b → Y b) ∧ JS w0 Y wr (.pointer (some ⟨bd, 0, none⟩)) d' w.heap.size d.starts false n ∧ OwnC wr w.heap.size v11 cells ∧ (∀ b, v11.ownBlock = some b → Y b ∧ b ≠ w.heap.size) ∧ Keeps X w wr)) (fun _ _ _ _ _ _ _ v52 _ => 1 - (intOf v52).toNat)
  case atStart => exact ⟨0, rfl, by omega, fun _ => ⟨rfl, rfl⟩, fun e => by omega⟩
  case round =>
    obtain ⟨k, rfl, hk, hz, ho⟩ := hrel
    by_cases hlt : k = 0
    · obtain ⟨rfl, rfl⟩ := hz hlt
      have HK0 := Lib.hid hlt
      have hlt2 : (k : Int) < 1 := by omega
      have hlt3 : ¬ (k : Int) < 0 := by omega
      have g0 : w3.cell? ⟨g, k, none⟩ = some (.int .i64 n) := by rw [hlt]; exact HG.out
      clear hz ho hlt
      go_wp2_with fail
      refine (HRE.out w3 HB3.out).mono ?_
      rintro e w4 ⟨c, rfl, hoc, hb4⟩
      obtain ⟨cx, cc, hcv, _⟩ := hoc.rd
      obtain ⟨cn, hcn⟩ : ∃ cn, cn = cells.length := ⟨_, rfl⟩
      have HCN := Lib.hid hcn
      rw [← hcn] at hcv
      subst hcv
      have HOC := Lib.hid hoc
      have HJ4 := Lib.hid (HJ1.out.below HB3.out |>.add hb4)
      have HX := Lib.hid (fun (b : Nat) (hb : (Value.slice cx cn cc).ownBlock = some b) => show Also (Also X w w1) w3 w4 b from .inr (hoc.lt b hb))
      have HB4 := Lib.hid (HB1.out.trans ((HB3.out.trans (hb4.mono HB3.out.size)).mono HB1.out.size))
      have hz34 := hb4.size
      clear hoc hb4 hcn g0
      by_cases htr : en < text.size
      · obtain ⟨d1, d2, m1, m2, m3⟩ := HME.out htr
        have htt : decide (en < text.size) = true := decide_eq_true htr
        have HMD := Lib.hid (jmend_any HJ4.out HN.out W0 HWZ.out m1 m2 m3)
        rw [htt]
        clear m1 m2 m3 htr htt
        go_wp2_with fail
        refine HMD.out.mono ?_
        rintro e w5 ⟨rfl, hj5, hk5⟩
        have HJ5 := Lib.hid hj5
        have HK5 := Lib.hid (show Keeps X w w5 from (Keeps.below HB4.out).trans (hk5.mono fun b e => .inl (.inl e)))
        have HOC5 := Lib.hid (HOC.out.chg hk5 (fun b hb e => e (HX.out b hb)))
        clear hj5 hk5
        have hz5 := HJ5.out.live.size
        have HRD5 := Lib.hid HOC5.out.rd
        have hwl := HJ5.out.blk.lt
        go_wp2_with (at_builtin; refine wpList_append_cells rfl (.tmp 90) (.tmp 91) rfl w5.heap.size _ [] rfl (OwnC.nil _ _) _ cells rfl HRD5.out (by have := HFL.out; simp only [List.length_nil]; omega) (Nat.le_refl _) ?_; intro v6 w6 hown6 hbel6; have HOW6 := Lib.hid hown6; have HB6 := Lib.hid hbel6; have HJ6 := Lib.hid (HJ5.out.add hbel6); obtain ⟨_, _, _, c3⟩ := blk4 (HJ5.out.below hbel6).blk; have f3 := (HJ5.out.below hbel6).blk.free 3; clear hown6 hbel6)
        have hch := put_wr w6 w.heap.size 3 (.int .i64 n)
        have HJ7 := Lib.hid (HJ6.out.own hch (HJ6.out.blk.set 3 _))
        have HOW7 := Lib.hid ((HOW6.out.chg hch (fun b hb e => by have h1 := (HOW6.out.lt b hb).1; have e2 : b = w.heap.size := e; omega)))
        have HK7 := Lib.hid (show Keeps X w (w6.setCell ⟨w.heap.size, 3, none⟩ (.int .i64 n)) from (HK5.out.trans (Keeps.below HB6.out)).trans (Chg.mono hch fun b hb e => fun hx => by have e2 : b = w.heap.size := e; subst e2; exact absurd (HJ1X.out _ hx) (by omega)))
        clear hch c3 f3
        go_roundw
        case rel => exact ⟨k + 1, by go_num, by have := HK0.out; omega, fun e => by omega, fun _ => ⟨_, fun b e => .inl (.inl (.inl e)), HJ7.out, (by have := HOW7.out; rw [List.nil_append] at this; exact this.base (by have := HK5.out.size; omega)), fun b hb => ⟨.inr (HOW6.out.lt b hb), by have := (HOW6.out.lt b hb).1; omega⟩, HK7.out⟩⟩
        case measure => have := HK0.out; simp [intOf]; omega
      · have htt : decide (en < text.size) = false := decide_eq_false htr
        rw [htt]
        have hdd := HSA.out htr
        obtain ⟨w5, hw5⟩ : ∃ w5, w5 = w4 := ⟨_, rfl⟩
        have HJ5 := Lib.hid (show JS w0 (Also (Also X w w1) w3 w4) w5 (.pointer (some ⟨bd, 0, none⟩)) d' w.heap.size d.starts false fr by rw [hdd, hw5]; exact HJ4.out)
        have HK5 := Lib.hid (show Keeps X w w5 by rw [hw5]; exact Keeps.below HB4.out)
        have HOC5 := Lib.hid (show OwnC w5 w3.heap.size (.slice cx cn cc) cells by rw [hw5]; exact HOC.out)
        rw [← hw5]
        clear htr htt hdd hw5
        have hz5 := HJ5.out.live.size
        have HRD5 := Lib.hid HOC5.out.rd
        have hwl := HJ5.out.blk.lt
        go_wp2_with (at_builtin; refine wpList_append_cells rfl (.tmp 90) (.tmp 91) rfl w5.heap.size _ [] rfl (OwnC.nil _ _) _ cells rfl HRD5.out (by have := HFL.out; simp only [List.length_nil]; omega) (Nat.le_refl _) ?_; intro v6 w6 hown6 hbel6; have HOW6 := Lib.hid hown6; have HB6 := Lib.hid hbel6; have HJ6 := Lib.hid (HJ5.out.add hbel6); obtain ⟨_, _, _, c3⟩ := blk4 (HJ5.out.below hbel6).blk; have f3 := (HJ5.out.below hbel6).blk.free 3; clear hown6 hbel6)
        have hch := put_wr w6 w.heap.size 3 (.int .i64 n)
        have HJ7 := Lib.hid (HJ6.out.own hch (HJ6.out.blk.set 3 _))
        have HOW7 := Lib.hid ((HOW6.out.chg hch (fun b hb e => by have h1 := (HOW6.out.lt b hb).1; have e2 : b = w.heap.size := e; omega)))
        have HK7 := Lib.hid (show Keeps X w (w6.setCell ⟨w.heap.size, 3, none⟩ (.int .i64 n)) from (HK5.out.trans (Keeps.below HB6.out)).trans (Chg.mono hch fun b hb e => fun hx => by have e2 : b = w.heap.size := e; subst e2; exact absurd (HJ1X.out _ hx) (by omega)))
        clear hch c3 f3
        go_roundw
        case rel => exact ⟨k + 1, by go_num, by have := HK0.out; omega, fun e => by omega, fun _ => ⟨_, fun b e => .inl (.inl (.inl e)), HJ7.out, (by have := HOW7.out; rw [List.nil_append] at this; exact this.base (by have := HK5.out.size; omega)), fun b hb => ⟨.inr (HOW6.out.lt b hb), by have := (HOW6.out.lt b hb).1; omega⟩, HK7.out⟩⟩
        case measure => have := HK0.out; simp [intOf]; omega
    · have HO := Lib.hid (ho (by omega))
      have hge : ¬ (k : Int) < 1 := by omega
      clear hz ho hlt
      obtain ⟨Y, y1, y2, y3, y4, y5⟩ := HO.out
      obtain ⟨ax, ac, hav, _⟩ := y3.rd
      obtain ⟨an, han⟩ : ∃ an, an = cells.length := ⟨_, rfl⟩
      rw [← han] at hav
      subst hav
      have Y1 := Lib.hid y1
      have Y2 := Lib.hid y2
      have Y3 := Lib.hid y3
      have Y4 := Lib.hid y4
      have Y5 := Lib.hid y5
      clear y1 y2 y3 y4 y5 HO han
      go_wp2_with fail
      refine bodyPost_ret (v := .tuple #[.pointer (some ⟨w.heap.size, 0, none⟩), .slice ax an ac, .int .i64 0]) (by simp [results, Tryz.results12, go_sem]) rfl ⟨_, _, Y, rfl, Y1.out, Y2.out, Y3.out, Y4.out, Y5.out, Nat.le_refl _⟩
end
end Go.Proofs.YtcijhhnbhnaiaaaGreatDoor
