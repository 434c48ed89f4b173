/- 'JournalBytes', walked. -/
import Derived.Test.YtcijhhnbhnaiaaaGreatDoorJouRef
import Derived.Test.YtcijhhnbhnaiaaaGreatDoorJouL
import Derived.Test.YtcijhhnbhnaiaaaGreatDoorJouOpen
namespace Go.Proofs.YtcijhhnbhnaiaaaGreatDoor
set_option linter.unusedSimpArgs false
set_option linter.unusedVariables false
set_option maxRecDepth 100000
open Go.RowKit

theorem enc_len_ge : ∀ l : List Jou.Cell, l.length ≤ (Jou.enc l).length
  | [] => by simp
  | c :: l => by
    have h1 := enc_len_ge l
    have h2 := Jou.encC_pos c
    show l.length + 1 ≤ (Jou.encC c ++ Jou.enc l).length
    rw [List.length_append]
    omega
set_option maxHeartbeats 4000000 in
theorem walkJournalBytes (x : Value × List Jou.Cell) (b : ByteArray) (w : World) (h1 : CelsIn w x) (h2 : b.size ≤ maxLen) :
    Calls Tryz.prog 4 #[x.1, .string b] w fun e w' => e = .returned (.bool true) ∧ Below w.heap.size w w' := by
  obtain ⟨lv, l⟩ := x
  obtain ⟨hl, hlm, hbd⟩ := h1
  simp only at hl hlm hbd ⊢
  obtain ⟨lx, lc, rfl, _⟩ := id hl
  have HL := Lib.hid hl
  have HBY := Lib.hid (beyondC_any _ l 30 w hl hlm hbd)
  have HSQ := Lib.hid (show ∀ c ∈ l, c.seq < 9223372036854775808 from fun c hc => by
    obtain ⟨j, hj, rfl⟩ := List.mem_iff_getElem.1 hc
    have := (hbd j hj).seq.2
    omega)
  obtain ⟨m, hm⟩ : ∃ m, m = l.length := ⟨_, rfl⟩
  have Hm := Lib.hid hm
  rw [← hm] at HBY HL ⊢
  unfold maxLen at h2
  clear hl hbd hm hlm
  go_enter Tryz.func4, Tryz.ntmps4
  go_wp2_with fail
  refine HBY.out.mono ?_
  rintro e w0 ⟨⟨q, rfl, hsm⟩, rfl⟩
  have HSM := Lib.hid hsm
  clear hsm HBY
  by_cases hb1 : q = 1
  · subst hb1
    go_wp2_with fail
    refine (jlives_any w).mono ?_
    rintro e wl ⟨rfl, hbl⟩
    have HBL := Lib.hid (Below.trans (Below.refl w.heap.size w) (hbl.mono (Below.refl w.heap.size w).size))
    clear hbl
    go_wp2_with fail
    go_ret
    exact ⟨rfl, HBL.out⟩
  have hbf : (q == 1) = false := beq_eq_false_iff_ne.2 hb1
  rw [hbf]
  have hm30 : m ≤ 30 := by have := (HSM.out hb1).1; rw [← Hm.out] at this; omega
  clear hb1 hbf HSM
  by_cases hb300 : 300 < b.size
  · have hb3 : (300 : Int) < b.size := by omega
    go_wp2_with fail
    refine (jlives_any w).mono ?_
    rintro e wl ⟨rfl, hbl⟩
    have HBL := Lib.hid (Below.trans (Below.refl w.heap.size w) (hbl.mono (Below.refl w.heap.size w).size))
    clear hbl
    go_wp2_with fail
    go_ret
    exact ⟨rfl, HBL.out⟩
  have hb3 : ¬ (300 : Int) < b.size := by omega
  have HEN := Lib.hid (encode_c _ l w HL.out (by rw [← Hm.out]; omega) HSQ.out)
  have HRN := Lib.hid (fun (W : World) (hW : Below w.heap.size w W) => refEncode_c _ l W (HL.out.below hW) (by rw [← Hm.out]; omega) HSQ.out)
  have HDB := Lib.hid (fun W => decode_c b W (by omega))
  unfold DecCPost at HDB
  by_cases hall : ∀ c ∈ l, Jou.May c
  · have hq : encQ l = (Jou.enc l, 0) := by unfold encQ; exact if_pos hall
    have hdl : Jou.dec (Jou.enc l) = some l := Jou.dec_enc l (fun c hc => ⟨hall c hc, HSQ.out c hc⟩)
    have hel : (Jou.enc l).length ≤ 300 * m := by
      have := enc_take_size l HSQ.out l.length (Nat.le_refl _) (fun j hj _ => hall _ (List.getElem_mem _))
      rw [List.take_length] at this
      rw [Hm.out]; exact this
    obtain ⟨E, hE⟩ : ∃ E : ByteArray, E = ⟨(Jou.enc l).toArray⟩ := ⟨_, rfl⟩
    have HDE := Lib.hid (fun W => by
      have := decode_c E W (by rw [hE, size_l]; omega)
      unfold DecCPost at this
      rw [show E.data.toList = Jou.enc l by rw [hE], hdl] at this
      exact this)
    rw [hq] at HEN HRN
    simp only [← hE] at HEN HRN
    clear hq hdl hel hE hall
    go_wp2_with fail
    refine HEN.out.mono ?_
    rintro e w1 ⟨rfl, hb1⟩
    have HB1 := Lib.hid hb1
    clear hb1
    go_wp2_with fail
    refine (HRN.out w1 HB1.out).mono ?_
    rintro e w2 ⟨rfl, hb2⟩
    have HB2 := Lib.hid (HB1.out.trans (hb2.mono HB1.out.size))
    clear hb2
    go_wp2_with fail
    refine (HDE.out w2).mono ?_
    rintro e w3 ⟨hb3', dv, rfl, hod⟩
    have HB3 := Lib.hid (HB2.out.trans (hb3'.mono HB2.out.size))
    have HSC := Lib.hid (sameCells_any dv _ l l w3 hod.rd (HL.out.below HB3.out) (by rw [← Hm.out]; omega) (by rw [← Hm.out]; omega))
    obtain ⟨dx, dc, hdv, _⟩ := hod.rd
    subst hdv
    rw [sameC_true rfl] at HSC
    clear hb3' hod
    go_wp2_with fail
    refine HSC.out.mono ?_
    rintro e w4 ⟨rfl, hb4⟩
    have HB4 := Lib.hid (HB3.out.trans (hb4.mono HB3.out.size))
    clear hb4
    go_wp2_with fail
    refine (HDB.out w4).mono ?_
    rintro e w5 ⟨hb5, hres⟩
    have HB5 := Lib.hid (Below.trans HB4.out (hb5.mono HB4.out.size))
    have HRES := Lib.hid hres
    clear hres hb5
    cases hd : Jou.dec b.data.toList with
    | none =>
      have hres := HRES.out
      rw [hd] at hres
      simp only at hres
      subst hres
      clear hd HRES
      go_wp2_with fail
      refine (jlives_any w5).mono ?_
      rintro e wl ⟨rfl, hbl⟩
      have HBL := Lib.hid (Below.trans HB5.out (hbl.mono HB5.out.size))
      clear hbl
      go_wp2_with fail
      go_ret
      exact ⟨rfl, HBL.out⟩
    | some xl =>
      have hres := HRES.out
      rw [hd] at hres
      obtain ⟨xv, rfl, hox⟩ := hres
      obtain ⟨hen, hmay⟩ := Jou.enc_dec hd
      obtain ⟨xx, xc, hxv, _⟩ := hox.rd
      subst hxv
      have hq : encQ xl = (b.data.toList, 0) := by
        unfold encQ
        rw [if_pos (fun c hc => (hmay c hc).1), hen]
      have hlen : xl.length ≤ 300 := by
        have := enc_len_ge xl
        rw [hen] at this
        have hbl : b.data.toList.length = b.size := by simp
        omega
      have hre := refEncode_c _ xl w5 hox.rd (by omega) (fun c hc => (hmay c hc).2)
      rw [hq] at hre
      have hbb : (⟨b.data.toList.toArray⟩ : ByteArray) = b := by simp
      simp only [hbb] at hre
      have HRE := Lib.hid hre
      clear hd HRES hox hen hmay hq hlen hre hbb
      go_wp2_with fail
      refine HRE.out.mono ?_
      rintro e w6 ⟨rfl, hb6⟩
      have HB6 := Lib.hid (HB5.out.trans (hb6.mono HB5.out.size))
      clear hb6
      go_wp2_with fail
      refine (jlives_any w6).mono ?_
      rintro e wl ⟨rfl, hbl⟩
      have HBL := Lib.hid (Below.trans HB6.out (hbl.mono HB6.out.size))
      clear hbl
      go_wp2_with fail
      go_ret
      exact ⟨rfl, HBL.out⟩
  · have hq : encQ l = ([], 2) := by unfold encQ; exact if_neg hall
    rw [hq] at HEN HRN
    clear hq hall
    go_wp2_with fail
    refine HEN.out.mono ?_
    rintro e w1 ⟨rfl, hb1⟩
    have HB1 := Lib.hid hb1
    clear hb1
    go_wp2_with fail
    refine (HRN.out w1 HB1.out).mono ?_
    rintro e w2 ⟨rfl, hb2⟩
    have HB2 := Lib.hid (HB1.out.trans (hb2.mono HB1.out.size))
    clear hb2
    go_wp2_with fail
    refine (HDB.out w2).mono ?_
    rintro e w5 ⟨hb5, hres⟩
    have HB5 := Lib.hid (Below.trans HB2.out (hb5.mono HB2.out.size))
    have HRES := Lib.hid hres
    clear hres hb5
    cases hd : Jou.dec b.data.toList with
    | none =>
      have hres := HRES.out
      rw [hd] at hres
      simp only at hres
      subst hres
      clear hd HRES
      go_wp2_with fail
      refine (jlives_any w5).mono ?_
      rintro e wl ⟨rfl, hbl⟩
      have HBL := Lib.hid (Below.trans HB5.out (hbl.mono HB5.out.size))
      clear hbl
      go_wp2_with fail
      go_ret
      exact ⟨rfl, HBL.out⟩
    | some xl =>
      have hres := HRES.out
      rw [hd] at hres
      obtain ⟨xv, rfl, hox⟩ := hres
      obtain ⟨hen, hmay⟩ := Jou.enc_dec hd
      obtain ⟨xx, xc, hxv, _⟩ := hox.rd
      subst hxv
      have hq : encQ xl = (b.data.toList, 0) := by
        unfold encQ
        rw [if_pos (fun c hc => (hmay c hc).1), hen]
      have hlen : xl.length ≤ 300 := by
        have := enc_len_ge xl
        rw [hen] at this
        have hbl : b.data.toList.length = b.size := by simp
        omega
      have hre := refEncode_c _ xl w5 hox.rd (by omega) (fun c hc => (hmay c hc).2)
      rw [hq] at hre
      have hbb : (⟨b.data.toList.toArray⟩ : ByteArray) = b := by simp
      simp only [hbb] at hre
      have HRE := Lib.hid hre
      clear hd HRES hox hen hmay hq hlen hre hbb
      go_wp2_with fail
      refine HRE.out.mono ?_
      rintro e w6 ⟨rfl, hb6⟩
      have HB6 := Lib.hid (HB5.out.trans (hb6.mono HB5.out.size))
      clear hb6
      go_wp2_with fail
      refine (jlives_any w6).mono ?_
      rintro e wl ⟨rfl, hbl⟩
      have HBL := Lib.hid (Below.trans HB6.out (hbl.mono HB6.out.size))
      clear hbl
      go_wp2_with fail
      go_ret
      exact ⟨rfl, HBL.out⟩
end Go.Proofs.YtcijhhnbhnaiaaaGreatDoor
