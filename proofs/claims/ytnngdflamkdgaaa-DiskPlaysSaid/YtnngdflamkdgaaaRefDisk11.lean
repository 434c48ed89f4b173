/- The reference's disk: Append. -/
import Derived.Test.YtnngdflamkdgaaaRefDisk10
import Derived.BigQuiet
namespace Go.Proofs.Ytnngdflamkdgaaa
set_option maxRecDepth 100000
open Go.RowKit Go.Maps
open Dsk

theorem OwnF.one1 {w : World} {b n c : Nat} {B : Nat} {m : Files} (h : OwnF w B (.slice (some ⟨b, 0, none⟩) n c) m) {w1 : World} (hw : Below w.heap.size w w1) {i : Nat} (hi : i < m.length) (s : ByteArray) {M : Files} (eM : m.set i (m[i].1, ⟨s.data.toList, m[i].2.safe⟩) = M) :
    OwnF (w1.setCell ⟨b, i * 3 + 1, none⟩ (.string s)) B (.slice (some ⟨b, 0, none⟩) n c) M ∧ Chg (fun k => (Value.slice (some ⟨b, 0, none⟩) n c).ownBlock = some k) w (w1.setCell ⟨b, i * 3 + 1, none⟩ (.string s)) := by
  subst eM
  obtain ⟨_, _, hv, _⟩ := h.shape
  injection hv with _ hn _
  subst hn
  have h1 := h.below hw
  have h3 := World.ownsRow.stored h1 (i * 3 + 1) (.string s)
  have e : (cellsF m).set (i * 3 + 1) (.string s) = cellsF (m.set i (m[i].1, ⟨s.data.toList, m[i].2.safe⟩)) := by
    have := cellsF_set m i hi s m[i].2.safe
    rw [set_there (show ((cellsF m).set (i * 3 + 1) (.string s))[i * 3 + 2]? = some (.int .i64 m[i].2.safe) from by rw [List.getElem?_set_ne (by omega)]; exact (cellsF_get m i hi).2.2)] at this
    exact this
  rw [e] at h3
  refine ⟨?_, (Chg.of_below hw).trans ((Chg.grown h3.2).mono fun k _ e => by rw [e]; rfl)⟩
  unfold OwnF
  rw [List.length_set]
  exact h3.1
section
variable {w : World} {F : Nat → Prop} {br : Nat} {vl vk : Value} {st : Bool} {nf : Int} {d : Dk}
theorem last_yes (hb : (st && decide (nf ≤ 0)) = true) (hst : st = d.fail.isSome) (hnf : ∀ n, d.fail = some n → nf = n) : st = true ∧ ∃ n, d.fail = some n ∧ n ≤ 0 := by
  obtain ⟨h1, h2⟩ := Bool.and_eq_true_iff.1 hb
  subst h1
  obtain ⟨n, hn⟩ := Option.isSome_iff_exists.1 hst.symm
  exact ⟨rfl, n, hn, by rw [← hnf n hn]; exact of_decide_eq_true h2⟩
theorem last_no (hi : RefIn w F br vl vk st (if st then nf - 1 else nf) d) (hb : (st && decide (nf ≤ 0)) = false) (hst : st = d.fail.isSome) (hnf : ∀ n, d.fail = some n → nf = n) (hf : FOk d) :
    (∀ n, d.fail = some n → 0 < n) ∧ RefAt w F (.pointer (some ⟨br, 0, none⟩)) (Dk.ticked d) := by
  have hpos : ∀ n, d.fail = some n → 0 < n := fun n hn => by
    rw [hn] at hst
    rw [hst] at hb
    have := hnf n hn
    simp at hb
    omega
  refine ⟨hpos, ?_⟩
  cases hfl : d.fail with
  | none =>
    rw [hfl] at hst
    have hst2 : st = false := by simpa using hst
    rw [hst2] at hi
    refine ⟨br, vl, vk, false, nf, rfl, ?_, ?_, fun n hn => ?_, ?_⟩
    · unfold Dk.ticked; rw [hfl]; exact hi
    · unfold Dk.ticked; rw [hfl, hfl]; rfl
    · unfold Dk.ticked at hn; rw [hfl] at hn; simp only at hn; rw [hfl] at hn; cases hn
    · unfold Dk.ticked; rw [hfl]; exact hf
  | some n =>
    rw [hfl] at hst
    have hst2 : st = true := by simpa using hst
    have hnn := hnf n hfl
    have hp := hpos n hfl
    rw [hst2, hnn] at hi
    have hfo := hf n hfl
    refine ⟨br, vl, vk, true, n - 1, rfl, ?_, ?_, fun m hm => ?_, fun m hm => ?_⟩
    · unfold Dk.ticked; rw [hfl]
      exact ⟨hi.blk, hi.row, hi.kept, hi.fr, hi.fl, hi.fk, ⟨hi.ok.room1, hi.ok.room2, hi.ok.rising, hi.ok.named, hi.ok.safe, hi.ok.count, hi.ok.fits, hi.ok.starts, hi.ok.keep⟩, hi.lt⟩
    · unfold Dk.ticked; rw [hfl]; rfl
    · unfold Dk.ticked at hm; rw [hfl] at hm; simp only [Option.some.injEq] at hm; exact hm
    · unfold Dk.ticked at hm; rw [hfl] at hm; simp only [Option.some.injEq] at hm; omega
theorem range_of (hst : st = d.fail.isSome) (hnf : ∀ n, d.fail = some n → nf = n) (hf : FOk d) : st = true → 0 ≤ nf ∧ nf ≤ 9223372036854775807 := fun e => by
  rw [hst] at e
  obtain ⟨n, hn⟩ := Option.isSome_iff_exists.1 e
  rw [hnf n hn]
  exact hf n hn
set_option maxHeartbeats 4000000 in
theorem refAppend_at {v : Value} (h : RefAt w F v d) (name s : ByteArray) (hn : name.size ≤ maxLen) (hsz : s.size ≤ 4611686018427387904) :
    Calls Try.prog 56 #[v, .string name, .string s] w fun e w' => ∃ r, e = .returned (.int .i64 r) ∧ DidR w F v (d.append name.data.toList s.data.toList) r w' := by
  have Hat := Lib.hid h
  obtain ⟨br, rfl⟩ := h.ptr
  obtain ⟨vl, vk, st, nf, hi, hrest⟩ := h.open_
  have Hbad := Lib.hid (refBad_any name hn w)
  have Hpl := Lib.hid (refPlace_in hi name)
  have HI := Lib.hid hi
  have HR := Lib.hid hrest
  have c0 := hi.blk.cell 0
  have c2 := hi.blk.cell 2
  have c4 := hi.blk.cell 4
  simp at c0 c2 c4
  clear hi hrest h hn
  cases ho : d.off with
  | true =>
    rw [ho] at c2
    have Ho := Lib.hid ho
    clear ho
    go_enter Try.func56, Try.ntmps56
    go_wp2_with fail
    go_ret
    refine ⟨51, rfl, ?_⟩
    unfold Dk.append
    rw [if_pos Ho.out]
    exact DidR.same Hat.out (Below.refl _ _) _
  | false =>
    rw [ho] at c2
    have Ho := Lib.hid ho
    clear ho
    by_cases hnm : Named name.data.toList
    case neg =>
      rw [show (!decide (Named name.data.toList)) = true by simp [hnm]] at Hbad
      have Hnm := Lib.hid hnm
      clear hnm
      go_enter Try.func56, Try.ntmps56
      go_wp2_with fail
      refine Hbad.out.mono ?_
      rintro e w2 ⟨rfl, rfl⟩
      go_wp2_with fail
      go_ret
      refine ⟨2, rfl, ?_⟩
      unfold Dk.append
      rw [if_neg (by rw [Ho.out]; decide), if_pos Hnm.out]
      exact DidR.same Hat.out (Below.refl _ _) _
    rw [show (!decide (Named name.data.toList)) = false by simp [hnm]] at Hbad
    have Hnm := Lib.hid hnm
    clear hnm
    have htot : total d.files ≤ d.room := Hat.out.ok.fits
    have hroom : d.room ≤ 1048576 := Hat.out.ok.room2
    have hcnt := Hat.out.ok.count
    obtain ⟨YY, c, hvl, _⟩ := HI.out.row.shape
    subst hvl
    have Hsize := Lib.hid (fun (X : Ext w) => Calls.ext_same (x := X) (refSize_in (HI.out.below X.le)))
    obtain ⟨T, hT⟩ : ∃ T, T = total d.files := ⟨_, rfl⟩
    obtain ⟨R, hR⟩ : ∃ R, R = d.room := ⟨_, rfl⟩
    rw [← hT] at Hsize htot
    rw [← hR] at htot hroom c0
    have HTe := Lib.hid hT
    have HRe := Lib.hid hR
    clear hT hR
    have hw0 : IntKind.i64.wrap ((T : Int) + (s.size : Int)) = (T : Int) + (s.size : Int) := IntWalk.i64_in _ ⟨by omega, by omega⟩
    have hfull : (get d.files name.data.toList = none ∧ 1024 ≤ d.files.length) ∨ d.room < total d.files + s.data.toList.length ↔ ((get d.files name.data.toList = none ∧ d.files.length = 1024) ∨ R < T + s.size) := by
      rw [HTe.out, HRe.out, show s.data.toList.length = s.size by simp]
      constructor
      · rintro (⟨a, b⟩ | a)
        · exact .inl ⟨a, by omega⟩
        · exact .inr a
      · rintro (⟨a, b⟩ | a)
        · exact .inl ⟨a, by omega⟩
        · exact .inr a
    have Hfull := Lib.hid hfull
    clear hfull
    go_enter Try.func56, Try.ntmps56
    go_wp2_with fail
    refine Hbad.out.mono ?_
    rintro e w2 ⟨rfl, rfl⟩
    go_wp2_with fail
    refine Hpl.out.mono ?_
    rintro e w5 ⟨r, rfl, hp, rfl⟩
    rcases hp with ⟨rfl, hg⟩ | ⟨i, hi, rfl, he⟩
    · by_cases hlen : d.files.length = 1024
      · have Hfl := Lib.hid (Hfull.out.2 (.inl ⟨hg, hlen⟩))
        have q1 : ((d.files.length : Nat) : Int) = 1024 := by omega
        clear hg
        go_wp2_with fail
        refine wp_region_ext (by kernel_rfl) (by kernel_rfl) fun K hK => ?_
        repeat (go_big_quiet_step ((go_at_call 60; exact Hsize.out _)))
        refine wpQuiet_nil (hK _ fun x => ?_)
        clear hK K
        have Hx := Lib.hid x.le
        go_wp2_with fail
        go_ret
        refine ⟨50, rfl, ?_⟩
        unfold Dk.append
        rw [if_neg (by rw [Ho.out]; decide), if_neg (by simp [Hnm.out]), if_pos Hfl.out]
        exact DidR.same Hat.out Hx.out _
      · have q1 : ¬ ((d.files.length : Nat) : Int) = 1024 := by omega
        have q2 : ((((d.files.length : Nat) : Int)) == 1024) = false := by simpa using q1
        by_cases hrm : R < T + s.size
        · have Hfl := Lib.hid (Hfull.out.2 (.inr hrm))
          have q3 : decide ((R : Int) < (T : Int) + (s.size : Int)) = true := decide_eq_true (by omega)
          clear hg
          go_wp2_with fail
          refine wp_region_ext (by kernel_rfl) (by kernel_rfl) fun K hK => ?_
          repeat (go_big_quiet_step ((go_at_call 60; exact Hsize.out _)))
          refine wpQuiet_nil (hK _ fun x => ?_)
          clear hK K
          have Hx := Lib.hid x.le
          go_wp2_with fail
          go_ret
          refine ⟨50, rfl, ?_⟩
          unfold Dk.append
          rw [if_neg (by rw [Ho.out]; decide), if_neg (by simp [Hnm.out]), if_pos Hfl.out]
          exact DidR.same Hat.out Hx.out _
        · have hnf := fun e => (Hfull.out.1 e).elim (fun e => absurd e.2 hlen) hrm
          have Heq := Lib.hid (show d.append name.data.toList s.data.toList = ({ d with files := put d.files name.data.toList ⟨s.data.toList, 0⟩ } : Dk).change (put d.files name.data.toList ⟨s.data.toList, 0⟩) by
            unfold Dk.append
            rw [if_neg (by rw [Ho.out]; decide), if_neg (by simp [Hnm.out]), if_neg hnf, hg]
            rfl)
          have hfacts := append_facts Hat.out.ok Hnm.out hnf (m := put d.files name.data.toList ⟨s.data.toList, 0⟩) (by rw [hg]; rfl)
          have HokM := Lib.hid (show Ok { d with files := put d.files name.data.toList ⟨s.data.toList, 0⟩ } from Hat.out.ok.files hfacts.1 hfacts.2.1 hfacts.2.2.1 hfacts.2.2.2)
          have hfacts0 := append_facts (s := []) Hat.out.ok Hnm.out (by
            rintro (e | e)
            · exact hlen (by omega)
            · have := Hat.out.ok.fits; simp at e; omega) (m := ins (name.data.toList, ⟨[], 0⟩) d.files) (by rw [hg]; show _ = put d.files name.data.toList ⟨[], 0⟩; unfold put; rw [del_none hg])
          have Hok0 := Lib.hid (show Ok { d with files := ins (name.data.toList, ⟨[], 0⟩) d.files } from Hat.out.ok.files hfacts0.1 hfacts0.2.1 hfacts0.2.2.1 hfacts0.2.2.2)
          have Hg := Lib.hid hg
          have q3 : decide ((R : Int) < (T : Int) + (s.size : Int)) = false := decide_eq_false (by omega)
          clear hg hnf hfacts hfacts0
          go_wp2_with fail
          refine wp_region_ext (by kernel_rfl) (by kernel_rfl) fun K hK => ?_
          repeat (go_big_quiet_step ((go_at_call 60; exact Hsize.out _)))
          refine wpQuiet_nil (hK _ fun x => ?_)
          clear hK K
          have Hlay := Lib.hid (refLay_in (HI.out.below x.le) name ⟨#[]⟩ 0 Hg.out)
          have Hx := Lib.hid x.le
          clear c0 c2 c4
          go_wp2_with fail
          refine Hlay.out.mono ?_
          rintro e w5 ⟨rfl, vl5, ho5, hb5, hc5⟩
          have hIG := (HI.out.below Hx.out).newRow ho5 hb5 hc5 Hok0.out
          have Hpl5 := Lib.hid (refPlace_in hIG.1 name)
          obtain ⟨m5, hm5⟩ : ∃ m5, m5 = ins (name.data.toList, ⟨[], 0⟩) d.files := ⟨_, rfl⟩
          obtain ⟨M, hM⟩ : ∃ M, M = put d.files name.data.toList ⟨s.data.toList, 0⟩ := ⟨_, rfl⟩
          have HI5 := Lib.hid (show RefIn w5 (fun k => F k ∨ vl5.ownBlock = some k) br vl5 vk st nf { d with files := m5 } by rw [hm5]; exact hIG.1)
          have HG5 := Lib.hid ((Grow.same (F := F) Hx.out).trans hIG.2)
          obtain ⟨F5, hF5⟩ : ∃ F5, F5 = (fun k => F k ∨ vl5.ownBlock = some k) := ⟨_, rfl⟩
          rw [← hF5] at HI5 HG5
          have hgm : get m5 name.data.toList = some ⟨[], 0⟩ := by
            have := get_put_same Hat.out.ok.rising name.data.toList ⟨[], 0⟩
            unfold put at this
            rwa [del_none Hg.out, ← hm5] at this
          have hput0 : put m5 name.data.toList ⟨s.data.toList, 0⟩ = M := by
            have := put_put d.files name.data.toList ⟨[], 0⟩ ⟨s.data.toList, 0⟩
            have e : put d.files name.data.toList ⟨[], 0⟩ = m5 := by unfold put; rw [del_none Hg.out, hm5]
            rw [e] at this
            rw [hM, this]
          have hEqM := Heq.out
          rw [← hM] at hEqM
          have hOkM := HokM.out
          rw [← hM] at hOkM
          have Hgm := Lib.hid hgm
          have Hput0 := Lib.hid hput0
          have HEqM := Lib.hid hEqM
          have HOkM := Lib.hid hOkM
          have Hm5 := Lib.hid hm5
          clear Heq HokM hF5 hM hgm hput0 hEqM hOkM ho5 hb5 hc5 hIG hm5
          go_wp2_with fail
          refine Hpl5.out.mono ?_
          rintro e w6 ⟨r, rfl, hp, rfl⟩
          rcases hp with ⟨rfl, hgn⟩ | ⟨j, hj, rfl, hje⟩
          · have := Hgm.out
            rw [Hm5.out, hgn] at this
            cases this
          · have hjl : j < m5.length := by rw [Hm5.out]; exact hj
            have Hj := Lib.hid hjl
            have Hje := Lib.hid (show m5[j].1 = name.data.toList by simp only [Hm5.out]; exact hje)
            have hput : put m5 name.data.toList ⟨m5[j].2.data ++ s.data.toList, m5[j].2.safe⟩ = M := by
              have h1 := place_get HI5.out.ok.rising Hj.out Hje.out
              have h2 := Hgm.out
              have h3 : m5[j].2 = ⟨[], 0⟩ := by
                have := h1.symm.trans h2
                injection this
              rw [h3]
              exact Hput0.out
            have hEqM := HEqM.out
            have hOkM := HOkM.out
            clear hje hj
            have Hput := Lib.hid hput
            have HeqM := Lib.hid hEqM
            have HokM := Lib.hid hOkM
            obtain ⟨b5, c5, hv5, hb5, hFb5, hne5, hfr5, _, hd5, _, hrow5⟩ := HI5.out.atm (m := m5) rfl Hj.out
            subst hv5
            have hds : m5[j].2.data.length ≤ 1048576 := Nat.le_trans (data_le (List.getElem_mem Hj.out)) (Nat.le_trans HI5.out.ok.fits HI5.out.ok.room2)
            obtain ⟨sd, hsd⟩ : ∃ sd : ByteArray, sd = ⟨m5[j].2.data.toArray⟩ := ⟨_, rfl⟩
            have hsdz : sd.size ≤ 1048576 := by rw [hsd]; exact hds
            have hd : w5.cell? ⟨b5, j * 3 + 1, none⟩ = some (.string sd) := by rw [hsd]; exact hd5
            have Hsd := Lib.hid (show m5[j].2.data = sd.data.toList by rw [hsd])
            have hc54 := HI5.out.blk.cell 4
            simp at hc54
            have hf5 := hfr5 (j * 3 + 1)
            have hbr5 := HI5.out.blk.lt
            have hj4 : (j : Int) < m5.length := by have := Hj.out; omega
            have Hrow := Lib.hid hrow5
            clear hput hEqM hOkM hfr5 hsd hd5 hrow5 hds
            go_wp2_with fail
            refine wp_region_ext_tail 17 (by kernel_rfl) (by kernel_rfl) fun K hK => ?_
            simp only [List.take_succ_cons, List.take_zero]
            repeat (go_big_quiet_step (fail))
            refine wpQuiet_nil (hK _ fun x5 => ?_)
            clear hK K
            simp only [List.drop_succ_cons, List.drop_zero]
            have fx := (x5.le.frozen (p := ⟨b5, j * 3 + 1, none⟩) hb5).trans hf5
            have cx := (x5.le.cell (p := ⟨b5, j * 3 + 1, none⟩) hb5).trans hd
            have hone := Hrow.out.one1 x5.le Hj.out (sd ++ s) (M := M) (by rw [data_append, ← Hsd.out]; exact (set_put (show Rising m5 from HI5.out.ok.rising) Hj.out Hje.out _).trans Hput.out)
            have HI6 := Lib.hid (HI5.out.oneRow hone.1 hone.2 HokM.out)
            have Hc6 := Lib.hid (show Chg F5 w5 _ from hone.2.mono fun k _ e => HI5.out.fl k e)
            have Hlast := Lib.hid (refLast_in HI6.out (range_of HR.out.1 HR.out.2.1 HR.out.2.2))
            clear hone hd hf5 hc54
            go_wp2_with fail
            refine Hlast.out.mono ?_
            rintro e w7 ⟨rfl, hi7, hc7⟩
            cases hb : (st && decide (nf ≤ 0)) with
            | true =>
              obtain ⟨hst1, n, hn, hn0⟩ := last_yes hb HR.out.1 HR.out.2.1
              have e6 := hi7.blk.cell 6
              simp at e6
              have Hcr := Lib.hid (refCrash_on hi7 Ho.out vk d.keep hi7.keepR (by have := hi7.ok.keep; exact Nat.le_trans this (by decide)))
              have HI7 := Lib.hid hi7
              have HC7 := Lib.hid hc7
              have Hn := Lib.hid (And.intro hn hn0)
              clear hi7 hc7 hb hn hn0 hst1 fx cx
              go_wp2_with fail
              refine Hcr.out.mono ?_
              rintro e w8 ⟨rfl, hi8, hc8⟩
              have HI8 := Lib.hid hi8
              have HC8 := Lib.hid (show Chg F5 w5 w8 from (Hc6.out.trans (HC7.out.mono fun _ _ e => e ▸ HI5.out.fr)).trans (hc8.mono fun k _ e => e.elim (fun e => e ▸ HI5.out.fr) (fun e => HI5.out.fl k e)))
              clear hi8 hc8 e6
              go_wp2_with fail
              go_ret
              refine ⟨51, rfl, ?_⟩
              rw [HeqM.out, change_crash (d := { d with files := M }) Hn.out.1 Hn.out.2]
              exact ⟨rfl, F5, ⟨br, _, vk, false, _, rfl, HI8.out, rfl, fun _ e => (by cases e), fun _ e => (by cases e)⟩, HG5.out.trans ⟨HC8.out, fun _ e => .inl e⟩⟩
            | false =>
              have Hno := Lib.hid (last_no hi7 hb HR.out.1 HR.out.2.1 HR.out.2.2)
              have HC7 := Lib.hid (show Chg F5 w5 w7 from Hc6.out.trans (hc7.mono fun _ _ e => e ▸ HI5.out.fr))
              clear hi7 hc7 hb fx cx
              go_wp2_with fail
              go_ret
              refine ⟨0, rfl, ?_⟩
              have hat := Hno.out.2
              rw [HeqM.out, change_made (d := { d with files := M }) Hno.out.1]
              have hef : ({ Dk.ticked { d with files := M } with files := M } : Dk) = Dk.ticked { d with files := M } := by unfold Dk.ticked; split <;> rfl
              rw [hef]
              exact ⟨rfl, F5, hat, HG5.out.trans ⟨HC7.out, fun _ e => .inl e⟩⟩
    · by_cases hrm : R < T + s.size
      · have Hfl := Lib.hid (Hfull.out.2 (.inr hrm))
        have q3 : decide ((R : Int) < (T : Int) + (s.size : Int)) = true := decide_eq_true (by omega)
        have q4 : decide ((i : Int) < 0) = false := decide_eq_false (by omega)
        clear he
        go_wp2_with fail
        refine wp_region_ext (by kernel_rfl) (by kernel_rfl) fun K hK => ?_
        repeat (go_big_quiet_step ((go_at_call 60; exact Hsize.out _)))
        refine wpQuiet_nil (hK _ fun x => ?_)
        clear hK K
        have Hx := Lib.hid x.le
        go_wp2_with fail
        go_ret
        refine ⟨50, rfl, ?_⟩
        unfold Dk.append
        rw [if_neg (by rw [Ho.out]; decide), if_neg (by simp [Hnm.out]), if_pos Hfl.out]
        exact DidR.same Hat.out Hx.out _
      · have hnf := fun e => (Hfull.out.1 e).elim (fun e => by have := place_get Hat.out.ok.rising hi he; rw [e.1] at this; cases this) hrm
        have hg := place_get Hat.out.ok.rising hi he
        obtain ⟨m5, hm5⟩ : ∃ m5, m5 = d.files := ⟨_, rfl⟩
        obtain ⟨M, hM⟩ : ∃ M, M = put d.files name.data.toList ⟨d.files[i].2.data ++ s.data.toList, d.files[i].2.safe⟩ := ⟨_, rfl⟩
        have hEqM : d.append name.data.toList s.data.toList = ({ d with files := M } : Dk).change M := by
          rw [hM]
          unfold Dk.append
          rw [if_neg (by rw [Ho.out]; decide), if_neg (by simp [Hnm.out]), if_neg hnf, hg]
          rfl
        have hfacts := append_facts Hat.out.ok Hnm.out hnf (m := M) (by rw [hM, hg]; rfl)
        have hOkM : Ok { d with files := M } := Hat.out.ok.files hfacts.1 hfacts.2.1 hfacts.2.2.1 hfacts.2.2.2
        have HI5 := Lib.hid (fun (w5 : World) (hb : Below w.heap.size w w5) => HI.out.below hb)
        have Hi := Lib.hid hi
        have He := Lib.hid he
        have HEqM := Lib.hid hEqM
        have HOkM := Lib.hid hOkM
        have hput0 : put d.files name.data.toList ⟨d.files[i].2.data ++ s.data.toList, d.files[i].2.safe⟩ = M := hM.symm
        have Hput0 := Lib.hid hput0
        have q3 : decide ((R : Int) < (T : Int) + (s.size : Int)) = false := decide_eq_false (by omega)
        have q4 : decide ((i : Int) < 0) = false := decide_eq_false (by omega)
        have hi4 : (i : Int) < d.files.length := by omega
        clear hnf hg hm5 hM hEqM hfacts hOkM hput0 he HI5
        go_wp2_with fail
        refine wp_region_ext (by kernel_rfl) (by kernel_rfl) fun K hK => ?_
        repeat (go_big_quiet_step ((go_at_call 60; exact Hsize.out _)))
        refine wpQuiet_nil (hK _ fun x => ?_)
        clear hK K
        have Hx := Lib.hid x.le
        obtain ⟨F5, hF5⟩ : ∃ F5, F5 = F := ⟨_, rfl⟩
        obtain ⟨m5, hm5⟩ : ∃ m5, m5 = d.files := ⟨_, rfl⟩
        obtain ⟨vl5, hvl5⟩ : ∃ v, v = Value.slice YY d.files.length c := ⟨_, rfl⟩
        have HI5 := Lib.hid (show RefIn x.wd F5 br vl5 vk st nf { d with files := m5 } by rw [hF5, hm5, hvl5]; exact HI.out.below Hx.out)
        clear hvl5
        have HG5 := Lib.hid (show Grow F F5 w x.wd by rw [hF5]; exact Grow.same Hx.out)
        obtain ⟨w5, hw5⟩ : ∃ w5, w5 = x.wd := ⟨_, rfl⟩
        rw [← hw5] at HI5 HG5 Hx ⊢
        have hjl : i < m5.length := by rw [hm5]; exact hi
        have Hj := Lib.hid hjl
        have Hje := Lib.hid (show m5[i].1 = name.data.toList by simp only [hm5]; exact He.out)
        have hput : put m5 name.data.toList ⟨m5[i].2.data ++ s.data.toList, m5[i].2.safe⟩ = M := by simp only [hm5]; exact Hput0.out
        have hEqM := HEqM.out
        have hOkM := HOkM.out
        clear hF5 hw5 hm5 Hput0 c2 c0 c4 He
        obtain ⟨j, hjj⟩ : ∃ j, j = i := ⟨_, rfl⟩
        subst hjj
        have Hput := Lib.hid hput
        have HeqM := Lib.hid hEqM
        have HokM := Lib.hid hOkM
        obtain ⟨b5, c5, hv5, hb5, hFb5, hne5, hfr5, _, hd5, _, hrow5⟩ := HI5.out.atm (m := m5) rfl Hj.out
        subst hv5
        have hds : m5[j].2.data.length ≤ 1048576 := Nat.le_trans (data_le (List.getElem_mem Hj.out)) (Nat.le_trans HI5.out.ok.fits HI5.out.ok.room2)
        obtain ⟨sd, hsd⟩ : ∃ sd : ByteArray, sd = ⟨m5[j].2.data.toArray⟩ := ⟨_, rfl⟩
        have hsdz : sd.size ≤ 1048576 := by rw [hsd]; exact hds
        have hd : w5.cell? ⟨b5, j * 3 + 1, none⟩ = some (.string sd) := by rw [hsd]; exact hd5
        have Hsd := Lib.hid (show m5[j].2.data = sd.data.toList by rw [hsd])
        have hc54 := HI5.out.blk.cell 4
        simp at hc54
        have hf5 := hfr5 (j * 3 + 1)
        have hbr5 := HI5.out.blk.lt
        have hj4 : (j : Int) < m5.length := by have := Hj.out; omega
        have Hrow := Lib.hid hrow5
        clear hput hEqM hOkM hfr5 hsd hd5 hrow5 hds
        go_wp2_with fail
        refine wp_region_ext_tail 17 (by kernel_rfl) (by kernel_rfl) fun K hK => ?_
        simp only [List.take_succ_cons, List.take_zero]
        repeat (go_big_quiet_step (fail))
        refine wpQuiet_nil (hK _ fun x5 => ?_)
        clear hK K
        simp only [List.drop_succ_cons, List.drop_zero]
        have fx := (x5.le.frozen (p := ⟨b5, j * 3 + 1, none⟩) hb5).trans hf5
        have cx := (x5.le.cell (p := ⟨b5, j * 3 + 1, none⟩) hb5).trans hd
        have hone := Hrow.out.one1 x5.le Hj.out (sd ++ s) (M := M) (by rw [data_append, ← Hsd.out]; exact (set_put (show Rising m5 from HI5.out.ok.rising) Hj.out Hje.out _).trans Hput.out)
        have HI6 := Lib.hid (HI5.out.oneRow hone.1 hone.2 HokM.out)
        have Hc6 := Lib.hid (show Chg F5 w5 _ from hone.2.mono fun k _ e => HI5.out.fl k e)
        have Hlast := Lib.hid (refLast_in HI6.out (range_of HR.out.1 HR.out.2.1 HR.out.2.2))
        clear hone hd hf5 hc54
        go_wp2_with fail
        refine Hlast.out.mono ?_
        rintro e w7 ⟨rfl, hi7, hc7⟩
        cases hb : (st && decide (nf ≤ 0)) with
        | true =>
          obtain ⟨hst1, n, hn, hn0⟩ := last_yes hb HR.out.1 HR.out.2.1
          have e6 := hi7.blk.cell 6
          simp at e6
          have Hcr := Lib.hid (refCrash_on hi7 Ho.out vk d.keep hi7.keepR (by have := hi7.ok.keep; exact Nat.le_trans this (by decide)))
          have HI7 := Lib.hid hi7
          have HC7 := Lib.hid hc7
          have Hn := Lib.hid (And.intro hn hn0)
          clear hi7 hc7 hb hn hn0 hst1 fx cx
          go_wp2_with fail
          refine Hcr.out.mono ?_
          rintro e w8 ⟨rfl, hi8, hc8⟩
          have HI8 := Lib.hid hi8
          have HC8 := Lib.hid (show Chg F5 w5 w8 from (Hc6.out.trans (HC7.out.mono fun _ _ e => e ▸ HI5.out.fr)).trans (hc8.mono fun k _ e => e.elim (fun e => e ▸ HI5.out.fr) (fun e => HI5.out.fl k e)))
          clear hi8 hc8 e6
          go_wp2_with fail
          go_ret
          refine ⟨51, rfl, ?_⟩
          rw [HeqM.out, change_crash (d := { d with files := M }) Hn.out.1 Hn.out.2]
          exact ⟨rfl, F5, ⟨br, _, vk, false, _, rfl, HI8.out, rfl, fun _ e => (by cases e), fun _ e => (by cases e)⟩, HG5.out.trans ⟨HC8.out, fun _ e => .inl e⟩⟩
        | false =>
          have Hno := Lib.hid (last_no hi7 hb HR.out.1 HR.out.2.1 HR.out.2.2)
          have HC7 := Lib.hid (show Chg F5 w5 w7 from Hc6.out.trans (hc7.mono fun _ _ e => e ▸ HI5.out.fr))
          clear hi7 hc7 hb fx cx
          go_wp2_with fail
          go_ret
          refine ⟨0, rfl, ?_⟩
          have hat := Hno.out.2
          rw [HeqM.out, change_made (d := { d with files := M }) Hno.out.1]
          have hef : ({ Dk.ticked { d with files := M } with files := M } : Dk) = Dk.ticked { d with files := M } := by unfold Dk.ticked; split <;> rfl
          rw [hef]
          exact ⟨rfl, F5, hat, HG5.out.trans ⟨HC7.out, fun _ e => .inl e⟩⟩
end
end Go.Proofs.Ytnngdflamkdgaaa
