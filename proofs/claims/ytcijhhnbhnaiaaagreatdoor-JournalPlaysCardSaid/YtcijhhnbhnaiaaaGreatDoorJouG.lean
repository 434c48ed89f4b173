/- A journal's file read, mended; what does not count taken away; how many bytes: walked. -/
import Derived.Test.YtcijhhnbhnaiaaaGreatDoorJouF
namespace Go.Proofs.YtcijhhnbhnaiaaaGreatDoor
set_option linter.unusedSimpArgs false
set_option linter.unusedVariables false
set_option maxRecDepth 100000
open Go.RowKit Go.Maps
open Dsk

def jdraft : Str := [106, 43]
section
variable {w0 w w' : World} {X Z Y S : Nat → Prop} {v : Value} {d d' : Dk} {j : Nat} {st num r : Int} {bad : Bool} {ns : List Nat}
theorem flat_take_len {lots : List (List Jou.Cell)} (h : ∀ l ∈ lots, l.length ≤ 16384) : ∀ k, (lots.take k).flatten.length ≤ 16384 * k
  | 0 => by simp
  | k + 1 => by
    by_cases hk : k < lots.length
    · rw [List.take_succ_eq_append_getElem hk, List.flatten_append, List.length_append]
      have h1 := flat_take_len h k
      have h2 := h _ (List.getElem_mem hk)
      simp only [List.flatten_cons, List.flatten_nil, List.append_nil]
      omega
    · rw [List.take_of_length_le (by omega)]
      have h1 := flat_take_len h k
      rw [List.take_of_length_le (by omega)] at h1
      omega
set_option maxHeartbeats 4000000 in
theorem jread_any {n : Nat} (h : Live w0 X w v d) (hn : NumOk w0 n) (text : ByteArray) (ht : text.size ≤ 1048576) (hrd : d.read (jn n) = (text.data.toList, 0)) {ps : List (List UInt8)} {en : Nat} (hw : Frm.whole text.size text.data.toList = (ps, en)) (hen : en ≤ text.size)
    {lots : List (List Jou.Cell)} (hll : lots.length = ps.length) (hps : ps.length ≤ 1048576) (hd : ∀ (k : Nat) (hk : k < ps.length) (hk' : k < lots.length), Jou.dec ps[k] = some lots[k] ∧ ps[k].length ≤ 16384) (hc : ∀ l ∈ lots, l.length ≤ 16384) :
    Calls Tryz.prog 36 #[v, .int .i64 n] w fun e w' => ∃ u, e = .returned (.tuple #[u, .string (text.extract 0 en), .bool (decide (en < text.size)), .int .i64 0]) ∧ OwnC w' w.heap.size u lots.flatten ∧ Below w.heap.size w w' := by
  have HNM := Lib.hid (jnamed_any hn h.below)
  have HRD := Lib.hid (fun (W : World) (hW : Below w.heap.size w W) => (h.keep hW).readP (jnB n) text (n := jn n) (jnB_data n) hrd (by have := jnB_size hn.hi; omega))
  have HWH := Lib.hid (fun W => by
    have := fwhole_any text W (by omega)
    rw [hw] at this
    exact this)
  have HD := Lib.hid (fun (k : Nat) (hk : k < ps.length) (hk' : k < lots.length) (W : World) => show Calls Tryz.prog 26 #[.string (strOf ps[k])] W fun e w' => ∃ c, e = .returned (.tuple #[c, .int .i64 0]) ∧ OwnC w' W.heap.size c lots[k] ∧ Below W.heap.size W w' by
    obtain ⟨h1, h2⟩ := hd k hk hk'
    have hsz : (strOf ps[k]).size = ps[k].length := List.size_toArray
    have hsd : (strOf ps[k]).data.toList = ps[k] := by simp [strOf]
    refine (decode_c (strOf ps[k]) W (by omega)).mono ?_
    rintro e w' ⟨hb, hm⟩
    rw [hsd, h1] at hm
    obtain ⟨c, he, ho⟩ := hm
    exact ⟨c, he, ho, hb⟩)
  have HFL := Lib.hid (flat_take_len hc)
  obtain ⟨JB, hJB⟩ : ∃ JB, JB = jnB n := ⟨_, rfl⟩
  rw [← hJB] at HNM HRD
  obtain ⟨m, hm⟩ : ∃ m, m = ps.length := ⟨_, rfl⟩
  have Hm := Lib.hid hm
  have Hll := Lib.hid hll
  rw [← hm] at hps
  obtain ⟨bd, rfl⟩ := h.ptr
  have hent : (en : Int) ≤ text.size := by omega
  obtain ⟨tb, htb⟩ : ∃ tb, tb = decide (en < text.size) := ⟨_, rfl⟩
  rw [← htb]
  have htb3 : decide (en < text.size) = tb := htb.symm
  have htb2 : decide ((en : Int) < text.size) = tb := by rw [htb]; exact decide_eq_decide.2 (by omega)
  clear h hn hrd hw hd hc hJB hm hll htb
  go_enter Tryz.func36, Tryz.ntmps36
  go_wp2_with fail
  refine HNM.out.mono ?_
  rintro e w1 ⟨rfl, hb1⟩
  have HB1 := Lib.hid hb1
  clear hb1
  go_wp2_with fail
  refine (HRD.out w1 HB1.out).mono ?_
  rintro e w2 ⟨rfl, hb2⟩
  have HB2 := Lib.hid (HB1.out.trans (hb2.mono HB1.out.size))
  clear hb2
  go_wp2_with fail
  refine (HWH.out w2).mono ?_
  rintro e w3 ⟨⟨u, rfl, hu⟩, hb3⟩
  obtain ⟨ux, uc, hus, hcs⟩ := hu.each
  rw [List.length_map, ← Hm.out] at hus
  subst hus
  have HCS := Lib.hid hcs
  have HB3 := Lib.hid (HB2.out.trans (hb3.mono HB2.out.size))
  clear hu hcs hb3
  go_wp2_with fail
  go_loopw [4, 12, 13, 14, 32] (fun v4 _ _ _ v32 wr => ∃ k : Nat, v32 = .int .i64 k ∧ k ≤ m ∧ OwnC wr w3.heap.size v4 (lots.take k).flatten ∧ Below w3.heap.size w3 wr) (fun _ _ _ _ v32 _ => m - (intOf v32).toNat)
  case atStart => exact ⟨0, rfl, by omega, OwnC.nil _ _, Below.refl _ _⟩
  case round =>
    obtain ⟨k, rfl, hk, hown, hb⟩ := hrel
    have HOW := Lib.hid hown
    have HB := Lib.hid hb
    obtain ⟨ox, oc, hov, _⟩ := hown.rd
    obtain ⟨on, hon⟩ : ∃ on, on = (lots.take k).flatten.length := ⟨_, rfl⟩
    rw [← hon] at hov
    subst hov
    have HON := Lib.hid hon
    clear hown hb hon
    by_cases hlt : k < m
    · have hlt2 : (k : Int) < m := by omega
      have hkp : k < ps.length := by rw [← Hm.out]; exact hlt
      have hkl : k < lots.length := by have := Hll.out; omega
      obtain ⟨g, rfl, _, hg, hc⟩ := HCS.out k (by rw [List.length_map]; exact hkp)
      rw [List.getElem_map] at hc
      have HDK := Lib.hid (HD.out k hkp hkl)
      obtain ⟨P, hP⟩ : ∃ P, P = strOf ps[k] := ⟨_, rfl⟩
      rw [← hP] at hc HDK
      have g0 := (HB.out.cell (p := ⟨g, k, none⟩) hg).trans hc
      have hfl := HFL.out k
      have hfk := HFL.out (k + 1)
      rw [List.take_succ_eq_append_getElem hkl, List.flatten_append, List.length_append] at hfk
      have HSN := Lib.hid (show (lots.take (k + 1)).flatten = (lots.take k).flatten ++ lots[k] by rw [List.take_succ_eq_append_getElem hkl, List.flatten_append]; simp)
      simp only [List.flatten_cons, List.flatten_nil, List.append_nil] at hfk
      have HFK := Lib.hid hfk
      clear hc hP hfl hfk
      go_wp2_with fail
      refine (HDK.out wr).mono ?_
      rintro e w4 ⟨c, rfl, hoc, hb4⟩
      have HOW4 := Lib.hid (HOW.out.kept hb4)
      have HOC := Lib.hid hoc.rd
      obtain ⟨cx, cc, hcv, _⟩ := hoc.rd
      obtain ⟨cn, hcn⟩ : ∃ cn, cn = lots[k].length := ⟨_, rfl⟩
      have HCN := Lib.hid hcn
      rw [← hcn] at hcv
      subst hcv
      have HB4 := Lib.hid (HB.out.trans (hb4.mono HB.out.size))
      have hz4 := HB4.out.size
      clear hoc hb4 g0 hcn
      go_wp2_with (at_builtin; refine wpList_append_cells rfl (.tmp 43) (.tmp 44) rfl w3.heap.size _ _ rfl HOW4.out _ _ rfl HOC.out (by have := HFK.out; omega) hz4 ?_; intro v5 w5 hown5 hbel5; have HOW5 := Lib.hid hown5; have HB5 := Lib.hid (HB4.out.trans hbel5); clear hown5 hbel5)
      go_roundw
      case rel => exact ⟨k + 1, by go_num, by omega, by rw [HSN.out]; exact HOW5.out, HB5.out⟩
      case measure => simp [intOf]; omega
    · have hge : ¬ (k : Int) < m := by omega
      have HT := Lib.hid (show (lots.take k).flatten = lots.flatten by rw [List.take_of_length_le (by have := Hll.out; have := Hm.out; omega)])
      go_wp2_with fail
      go_quiet (fail)
      go_wp2_with fail
      rw [HT.out] at HOW
      refine bodyPost_ret (v := .tuple #[.slice ox on oc, .string (text.extract 0 en), .bool tb, .int .i64 0]) (by simp [results, Tryz.results36, go_sem]) rfl ⟨_, rfl, ?_, ?_⟩
      · exact ((OwnC.kept HOW.out (below_drewN wr nq)).base HB3.out.size)
      · exact HB3.out.trans ((HB.out.trans ((below_drewN wr nq).mono HB.out.size)).mono HB3.out.size)
end
end Go.Proofs.YtcijhhnbhnaiaaaGreatDoor
