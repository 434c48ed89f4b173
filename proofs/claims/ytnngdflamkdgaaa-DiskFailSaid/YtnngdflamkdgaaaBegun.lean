/- 'begun', 'ready', walked. -/
import Derived.Test.YtnngdflamkdgaaaDiskCrash2
import Derived.Test.YtnngdflamkdgaaaFailPlain
namespace Go.Proofs.Ytnngdflamkdgaaa
open Go.RowKit Go.Maps
open Dsk

theorem RdS.each' {w : World} {v : Value} {l : List ByteArray} (h : RdS w v l) : ∃ x c, v = .slice x l.length c ∧ ∀ (j : Nat) (hj : j < l.length), ∃ b off, x = some ⟨b, off, none⟩ ∧ b < w.heap.size ∧ w.cell? ⟨b, off + j, none⟩ = some (.string l[j]) := by
  rcases h with ⟨c, rfl, rfl⟩ | ⟨b, off, c, rfl, hb, hc⟩
  · exact ⟨_, _, rfl, fun j hj => absurd hj (by simp)⟩
  · exact ⟨_, _, rfl, fun j hj => ⟨b, off, rfl, hb, hc j hj⟩⟩
set_option maxRecDepth 100000 in
set_option maxHeartbeats 4000000 in
theorem begun_any {w : World} {F : Nat → Prop} {v : Value} {d : Dk} {m : Files} (h : DiskAt w F v d) (hoff : d.off = false) (vn vd : Value) (hn : RdS w vn (strs (names m))) (hd : RdS w vd (strs (datas m)))
    (hnm : names d.files = names m) (hp : ∀ (i : Nat) (hi : i < m.length) (hi' : i < d.files.length), d.files[i].2.data = m[i].2.data.take d.files[i].2.data.length) (hmb : ∀ p ∈ m, p.2.data.length ≤ 1048576) :
    Calls Try.prog 37 #[v, vn, vd] w fun e w' => e = .returned (.bool true) ∧ Below w.heap.size w w' := by
  have hlen : d.files.length = m.length := by have := congrArg List.length hnm; simpa [names] using this
  have hcnt := h.ok.count
  have ht := texts_any h hoff
  obtain ⟨bd, hv⟩ := h.ptr
  subst hv
  obtain ⟨nx, nc, hnx⟩ := hn.form
  obtain ⟨dx, dc, hdx⟩ := hd.form
  subst hnx hdx
  rw [names_len] at *
  rw [datas_len] at *
  have H := Lib.hid h
  have Hn := Lib.hid hn
  have Hd := Lib.hid hd
  have Hnm := Lib.hid hnm
  have Hp := Lib.hid hp
  have Hlen := Lib.hid hlen
  have Ht := Lib.hid ht
  have Hmb := Lib.hid hmb
  have hml : m.length ≤ 1024 := by omega
  clear h hn hd hnm hp hlen ht hoff hcnt hmb
  go_enter Try.func37, Try.ntmps37
  go_wp2_with fail
  refine Ht.out.mono ?_
  rintro e w1 ⟨u, rfl, hu, hb1⟩
  obtain ⟨ux, uc, hux, hj1⟩ := hu.each
  subst hux
  clear hj1
  have hl0 := (datas_len d.files).trans Hlen.out
  rw [hl0] at hu ⊢
  clear hl0
  have Hu := Lib.hid hu
  have Hb1 := Lib.hid hb1
  have H1 := Lib.hid (H.out.below hb1)
  clear hu hb1
  go_wp2_with fail
  refine (names_at H1.out).mono ?_
  rintro e w2 ⟨q, rfl, hq, hb2⟩
  rw [Hnm.out] at hq
  obtain ⟨qx, qc, hqx, hj1⟩ := hq.each
  subst hqx
  clear hj1
  rw [names_len] at *
  have Hq := Lib.hid hq
  have Hb2 := Lib.hid (Hb1.out.trans (hb2.mono Hb1.out.size))
  have Hu2 := Lib.hid (Hu.out.kept hb2)
  have Hst := Lib.hid (show Calls Try.prog 22 #[.slice qx m.length qc, .slice nx m.length nc] w2 fun e w' => e = .returned (.bool true) ∧ Below w2.heap.size w2 w' from by
    have hl := names_len m
    have h1 := hq.rd
    refine (sameTexts_any _ _ _ _ w2 h1 (Hn.out.below (Hb2.out.mono (Nat.le_refl _))) (by rw [hl]; omega) (by rw [hl]; omega)).mono ?_
    rintro e w' ⟨rfl, hb⟩
    exact ⟨by simp, hb⟩)
  clear hq hb2
  go_wp2_with fail
  refine Hst.out.mono ?_
  rintro e w3 ⟨rfl, hb3⟩
  have Hb3 := Lib.hid (Hb2.out.trans (hb3.mono Hb2.out.size))
  have Hu3 := Lib.hid (Hu2.out.kept hb3)
  have Hd3 := Lib.hid (Hd.out.below Hb3.out)
  clear hb3
  go_wp2_with fail
  go_loopw [8] (fun v8 wr => ∃ i : Nat, v8 = .int .i64 i ∧ i ≤ m.length ∧ ∃ n, wr = w3.drewN n) (fun v8 _ => m.length - (intOf v8).toNat)
  case atStart => exact ⟨0, rfl, Nat.zero_le _, 0, rfl⟩
  case round =>
    obtain ⟨i, rfl, hi, nd, rfl⟩ := hrel
    by_cases hlt : i < m.length
    · have hlt2 : i < d.files.length := by rw [Hlen.out]; exact hlt
      obtain ⟨x1, c1, e1, he1⟩ := Hu3.out.each
      obtain ⟨bo, hbo, _, hlo, gO⟩ := he1 i (by rw [datas_len]; exact hlt2)
      injection e1 with e1 e1b e1c
      have eo := e1.trans hbo
      subst eo
      rw [datas_get d.files i hlt2] at gO
      obtain ⟨x2, c2, e2, he2⟩ := Hd3.out.each'
      obtain ⟨bw, woff, hbw, hlw, gW⟩ := he2 i (by rw [datas_len]; exact hlt)
      injection e2 with e2 e2b e2c
      have ew := e2.trans hbw
      subst ew
      rw [datas_get m i hlt] at gW
      obtain ⟨sw, hsw⟩ : ∃ sw : ByteArray, sw = ⟨m[i].2.data.toArray⟩ := ⟨_, rfl⟩
      obtain ⟨Q, hQ⟩ : ∃ Q, Q = d.files[i].2.data.length := ⟨_, rfl⟩
      have hpi := Hp.out i hlt hlt2
      have hswl : sw.size = m[i].2.data.length := by rw [hsw]; exact List.size_toArray
      have hQs : Q ≤ sw.size := by
        have := congrArg List.length hpi
        rw [List.length_take] at this
        omega
      have hso : (ByteArray.mk d.files[i].2.data.toArray) = sw.extract 0 Q := by
        refine bytes_ext ?_
        rw [extract_list, hsw, hQ, hpi]
        simp
      rw [← hsw] at gW
      rw [hso] at gO
      have hsb : sw.size ≤ 1048576 := by rw [hswl]; exact Hmb.out _ (List.getElem_mem hlt)
      have hss : (sw.extract 0 Q).size = Q := by rw [ByteArray.size_extract]; omega
      have ii : (i : Int) < m.length := by omega
      have z3 : decide ((sw.size : Int) < Q) = false := decide_eq_false (by omega)
      have z3' : decide (sw.size < Q) = false := decide_eq_false (by omega)
      have z4 : ((sw.extract 0 Q).toList != (sw.extract 0 Q).toList) = false := by simp
      clear he1 he2 e1 e1b e1c e2 e2b e2c hbo hbw hpi hswl hso hsw hQ
      go_wp2_with fail
      go_quiet (fail)
      go_wp2_with fail
      go_roundw
      case rel => exact ⟨i + 1, by go_num, by omega, nd + nq, rfl⟩
      case measure => simp [intOf]; omega
    · have HB := Lib.hid (below_drewN Hb3.out nd)
      go_wp2_with fail
      go_ret
      exact ⟨rfl, HB.out⟩
set_option maxHeartbeats 1000000 in
theorem ready_at {w0 w : World} {X : Nat → Prop} {v : Value} {d : Dk} (h : Live w0 X w v d) :
    Calls Try.prog 36 #[v] w fun e w' => e = .returned (.bool true) ∧ Live w0 X w' v (if d.off then d.start.2 else backUp d d.unsynced) ∧ Keeps X w w' := by
  obtain ⟨bd, hv⟩ := h.ptr
  subst hv
  have H := Lib.hid h
  have hup := h.up
  clear h
  cases hoff : d.off
  · rw [hoff] at hup
    have Hoff := Lib.hid hoff
    clear hoff
    go_enter Try.func36, Try.ntmps36
    go_wp2_with (go_at_call 31; refine hup.mono ?_; rintro e w' ⟨rfl, rfl⟩)
    refine H.out.unsynced.mono ?_
    rintro e w1 ⟨u, rfl, hu, hb1⟩
    obtain ⟨ux, uc, hux, hj1⟩ := hu.each
    subst hux
    clear hj1
    have hl1 := H.out.add hb1
    have hkr : KeepR w1 (fun k => ¬ Also X w w1 k ∧ w0.heap.size ≤ k) (.slice ux d.unsynced.length uc) d.unsynced := by
      obtain ⟨x2, c2, e2, he2⟩ := hu.each
      refine ⟨x2, c2, e2, fun e => ?_, fun j hj => ?_⟩
      · subst e
        obtain ⟨_, ⟨e3, _⟩ | ⟨g, cap, cur, e3, _⟩⟩ := hu
        · rw [e3] at e2; injection e2 with _ _ e2; exact e2.symm
        · rw [e3] at e2; injection e2 with e2; cases e2
      · obtain ⟨b, e, hb1', hb2', hc⟩ := he2 j hj
        exact ⟨b, 0, e, hb2', fun e => e.1 (.inr ⟨hb1', hb2'⟩), by rw [Nat.zero_add]; exact hc⟩
    have hcn := hl1.ok.count
    have Hcr := Lib.hid (hl1.crashP _ d.unsynced hkr (by rw [unsynced_length]; omega) (crash_up Hoff.out d.unsynced))
    have Hb1 := Lib.hid hb1
    clear hu hb1 hl1 hkr hup
    go_wp2_with fail
    refine Hcr.out.mono ?_
    rintro e w2 ⟨rfl, hl2, hk2⟩
    have Hst := Lib.hid (hl2.startK (start_down d d.unsynced))
    have Hk2 := Lib.hid hk2
    clear hl2 hk2
    go_wp2_with fail
    refine Hst.out.mono ?_
    rintro e w3 ⟨rfl, hl3, hk3⟩
    have Hl3 := Lib.hid hl3
    have Hk3 := Lib.hid (Hk2.out.trans hk3)
    clear hl3 hk3
    go_wp2_with fail
    go_ret
    exact ⟨rfl, by simpa using Hl3.out.drop (fun k hk => .inl hk), (Keeps.below Hb1.out).trans (Hk3.out.mono fun k hk => .inl hk)⟩
  · rw [hoff] at hup
    have Hst := Lib.hid (H.out.startK (show d.start = (0, d.start.2) from by unfold Dk.start; rw [hoff]; rfl))
    clear hoff
    go_enter Try.func36, Try.ntmps36
    go_wp2_with (go_at_call 31; refine hup.mono ?_; rintro e w' ⟨rfl, rfl⟩)
    refine Hst.out.mono ?_
    rintro e w3 ⟨rfl, hl3, hk3⟩
    have Hl3 := Lib.hid hl3
    have Hk3 := Lib.hid hk3
    clear hl3 hk3
    go_wp2_with fail
    go_ret
    exact ⟨rfl, by simpa using Hl3.out, Hk3.out⟩
end Go.Proofs.Ytnngdflamkdgaaa
