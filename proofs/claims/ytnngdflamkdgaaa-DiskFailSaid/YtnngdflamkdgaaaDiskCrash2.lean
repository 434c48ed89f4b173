/- 'DiskCrash', walked. -/
import Derived.Test.YtnngdflamkdgaaaDiskCrash
namespace Go.Proofs.Ytnngdflamkdgaaa
open Go.RowKit Go.Maps
open Dsk

theorem OwnI.each {w : World} {B : Nat} {v : Value} {l : List Int} (h : OwnI w B v l) : ∃ x c, v = .slice x l.length c ∧ ∀ (j : Nat) (hj : j < l.length), ∃ b, x = some ⟨b, 0, none⟩ ∧ B ≤ b ∧ b < w.heap.size ∧ w.cell? ⟨b, j, none⟩ = some (.int .i64 l[j]) := by
  have hlt := World.ownsRow.lt h
  have hcs := fun g (hg : v.ownBlock = some g) => World.ownsRow.cells h hg
  obtain ⟨h1, h2⟩ := h
  rcases h2 with ⟨rfl, h2⟩ | ⟨g, cap, cur, hv, hg, hh, r⟩
  · exact ⟨none, 0, by rw [h2], fun j hj => absurd hj (by omega)⟩
  · refine ⟨some ⟨g, 0, none⟩, cap, hv, fun j hj => ⟨g, rfl, hg, (hlt g (by rw [hv]; rfl)).2, ?_⟩⟩
    have := hcs g (by rw [hv]; rfl) j (.int .i64 l[j]) (by rw [List.getElem?_map, List.getElem?_eq_getElem hj]; rfl)
    have e : (⟨g, 0, none⟩ : Addr).add j = ⟨g, j, none⟩ := by unfold Addr.add; split <;> simp_all
    rw [← e]; exact this
theorem OwnI.keeps {w w1 w2 : World} {X : Nat → Prop} {v : Value} {l : List Int} (h : OwnI w1 w.heap.size v l) (x : Keeps (Also X w w1) w1 w2) : OwnI w2 w.heap.size v l :=
  h.chg x fun k hk hx => hx (.inr ((World.ownsRow.lt h) k hk))
theorem OwnS.base {w : World} {B B' : Nat} {v : Value} {l : List ByteArray} (h : OwnS w B v l) (hB : B' ≤ B) : OwnS w B' v l := by
  obtain ⟨h1, h2⟩ := h
  refine ⟨h1, ?_⟩
  rcases h2 with h2 | ⟨g, cap, cur, hv, hg, r⟩
  · exact .inl h2
  · exact .inr ⟨g, cap, cur, hv, Nat.le_trans hB hg, r⟩
theorem Live.texts {w0 w : World} {X : Nat → Prop} {v : Value} {d : Dk} (h : Live w0 X w v d) (hoff : d.off = false) :
    Calls Try.prog 34 #[v] w fun e w' => ∃ u, e = .returned u ∧ OwnS w' w.heap.size u (strs (datas d.files)) ∧ Below w.heap.size w w' := by obtain ⟨F, h, _⟩ := h; exact texts_any h hoff
theorem Live.crashP {w0 w : World} {X : Nat → Prop} {v : Value} {d d' : Dk} {r : Int} (h : Live w0 X w v d) (kv0 : Value) (keep : List Int) (hk : KeepR w (fun k => ¬ X k ∧ w0.heap.size ≤ k) kv0 keep) (hkl : keep.length ≤ 9223372036854775807) (he : d.crash keep = (r, d')) :
    Calls Try.prog 35 #[v, kv0] w fun e w' => e = .returned (.int .i64 r) ∧ Live w0 X w' v d' ∧ Keeps X w w' := by
  refine (h.crash kv0 keep hk hkl).mono fun _ _ x => ?_
  rw [he] at x
  exact x
theorem Live.startK {w0 w : World} {X : Nat → Prop} {v : Value} {d d' : Dk} {r : Int} (h : Live w0 X w v d) (he : d.start = (r, d')) :
    Calls Try.prog 15 #[v] w fun e w' => e = .returned (.int .i64 r) ∧ Live w0 X w' v d' ∧ Keeps X w w' := by
  refine h.start.mono fun _ _ x => ?_
  rw [he] at x
  exact x
theorem keepR_nil (w : World) (S : Nat → Prop) : KeepR w S (.slice none 0 0) [] := ⟨none, 0, rfl, fun _ => rfl, fun j hj => absurd hj (by simp)⟩
theorem datas_len (m : Files) : (strs (datas m)).length = m.length := by simp [strs, datas]
theorem datas_get (m : Files) (k : Nat) (hk : k < m.length) (hk' : k < (strs (datas m)).length) : (strs (datas m))[k] = ⟨m[k].2.data.toArray⟩ := by simp [strs, datas]
theorem unsynced_get (d : Dk) (k : Nat) (hk : k < d.files.length) (hk' : k < d.unsynced.length) : d.unsynced[k] = (d.files[k].2.data.length : Int) - d.files[k].2.safe := by simp [Dk.unsynced]

set_option maxRecDepth 100000 in
set_option maxHeartbeats 8000000 in
theorem diskCrash_any (room : Int) (hr : 0 ≤ room ∧ room ≤ 65535) (v : Value) (l : List ActS) (kv : Value) (keep : List Int) (w : World) (h : RdA w w.heap.size v l) (hm : l.length ≤ maxLen) (hk : KeepR w (fun k => w.heap.size ≤ k) kv keep) (hkm : keep.length ≤ maxLen) :
    Calls Try.prog 8 #[.int .u16 room, v, kv] w fun e w' => e = .returned (.bool true) ∧ Below w.heap.size w w' := by
  have hm2 : l.length ≤ 9223372036854775807 := by unfold maxLen at hm; omega
  have hkm2 : keep.length ≤ 9223372036854775807 := by unfold maxLen at hkm; omega
  have hg := great_any v l w.heap.size w h hm2
  obtain ⟨x, c, hv, hj⟩ := id h
  subst hv
  clear hj
  obtain ⟨kx, kc, hkv, hj1, hj2⟩ := id hk
  subst hkv
  clear hj1 hj2
  have Hg := Lib.hid hg
  have H := Lib.hid h
  have Hk := Lib.hid hk
  obtain ⟨hr1, hr2⟩ := hr
  clear h hm hg hk hkm
  go_enter Try.func8, Try.ntmps8
  go_wp2_with fail
  refine Hg.out.mono ?_
  rintro e w0 ⟨b, rfl, hsm, rfl⟩
  cases b with
  | true =>
    clear hsm
    go_wp2_with fail
    go_ret
    exact ⟨rfl, Below.refl _ _⟩
  | false =>
    have Hs := Lib.hid (hsm rfl)
    clear hsm Hg
    by_cases hk100 : keep.length ≤ 100
    case neg =>
      have g1 : (100 : Int) < keep.length := by omega
      clear hk100
      go_wp2_with fail
      go_ret
      exact ⟨rfl, Below.refl _ _⟩
    have g1 : ¬ (100 : Int) < keep.length := by omega
    have g2 : decide ((100 : Int) < keep.length) = false := decide_eq_false (by omega)
    have g3 : decide (100 < keep.length) = false := decide_eq_false (by omega)
    have hpl := played_any room ⟨hr1, hr2⟩ _ l w (Nat.le_refl _) H.out Hs.out
    have Hpl := Lib.hid hpl
    clear hpl
    go_wp2_with fail
    refine Hpl.out.mono ?_
    rintro e w1 ⟨u, rfl, hl⟩
    obtain ⟨bd, rfl⟩ := hl.ptr
    obtain ⟨d0, hd0⟩ : ∃ d0, d0 = playsA (Dk.new (1 + room % 4000).toNat) l := ⟨_, rfl⟩
    rw [← hd0] at hl
    have HL := Lib.hid hl
    clear hl hd0 Hpl
    go_wp2_with fail
    refine HL.out.up.mono ?_
    rintro e w1' ⟨rfl, rfl⟩
    cases hoff : d0.off
    case' false =>
      have HL2 := Lib.hid HL.out
      have Hoff := Lib.hid hoff
      obtain ⟨w2, hw2⟩ : ∃ w2, w2 = w1 := ⟨_, rfl⟩
      obtain ⟨d1, hd1⟩ : ∃ d1, d1 = d0 := ⟨_, rfl⟩
      rw [← hw2, ← hd1] at HL2
      rw [← hd1] at Hoff
      rw [← hw2]
      clear hoff hd1 hw2
    case' true =>
      have Hst0 := Lib.hid (show d0.start = (0, d0.start.2) from by unfold Dk.start; rw [hoff]; rfl)
      have Hoff := Lib.hid (show d0.start.2.off = false from by unfold Dk.start; rw [hoff]; rfl)
      clear hoff
      go_wp2_with fail
      refine (HL.out.startP Hst0.out).mono ?_
      rintro e w2 ⟨rfl, hl⟩
      obtain ⟨d1, hd1⟩ : ∃ d1, d1 = d0.start.2 := ⟨_, rfl⟩
      rw [← hd1] at Hoff hl
      have HL2 := Lib.hid hl
      clear hl hd1 Hst0
    all_goals
      go_wp2_with fail
      refine HL2.out.names.mono ?_
      rintro e w3 ⟨un, rfl, hun, hb3⟩
      have HL3 := Lib.hid (HL2.out.keep hb3)
      obtain ⟨nx, nc, hnx, hj1⟩ := hun.each
      subst hnx
      rw [names_len] at *
      clear hj1
      have Hun := Lib.hid hun
      have Hb3 := Lib.hid hb3
      clear hun hb3
      go_wp2_with fail
      refine HL3.out.unsynced.mono ?_
      rintro e w4 ⟨ul, rfl, hul, hb4⟩
      have HL4 := Lib.hid (HL3.out.keep hb4)
      obtain ⟨lx, lc, hlx, hj1⟩ := hul.each
      subst hlx
      rw [unsynced_length] at *
      clear hj1
      have Hul := Lib.hid hul
      have Hb4 := Lib.hid hb4
      clear hul hb4
      go_wp2_with fail
      refine (HL4.out.texts Hoff.out).mono ?_
      rintro e w5 ⟨ud, rfl, hud, hb5⟩
      have hz3 := Hb3.out.size
      have hz4 := Hb4.out.size
      have hb25 : Below w2.heap.size w2 w5 := (Hb3.out.trans (Hb4.out.mono hz3)).trans (hb5.mono (by omega))
      have HL5 := Lib.hid (HL2.out.add hb25)
      obtain ⟨dx, dc, hdx, hj1⟩ := hud.each
      subst hdx
      rw [datas_len] at *
      clear hj1
      have hun5 := ((Hun.out.kept Hb4.out).kept hb5)
      have hul5 := (Hul.out.kept hb5).base hz3
      have hud5 := hud.base (show w2.heap.size ≤ w4.heap.size by omega)
      have Hun5 := Lib.hid hun5
      have Hul5 := Lib.hid hul5
      have Hud5 := Lib.hid hud5
      have Hcr := Lib.hid (crash_up Hoff.out keep)
      have hka := (Hk.out.chg (Chg.of_below HL5.out.below (S := fun _ => False)) (fun _ e => e.elim)).mono (T := fun k => ¬ Also (fun _ => False) w2 w5 k ∧ w.heap.size ≤ k) (fun k e => e.2)
      have Hka := Lib.hid hka
      have q1 : ((d1.files.length : Int) != d1.files.length) = false := by simp
      have q1' : (d1.files.length != d1.files.length) = false := by simp
      clear hb25 hun5 hul5 hud5 hka hud hb5
      go_wp2_with fail
      refine (HL5.out.crashP _ keep Hka.out hkm2 Hcr.out).mono ?_
      rintro e w6 ⟨rfl, hl6, hk6⟩
      have HL6 := Lib.hid hl6
      have Hk6 := Lib.hid hk6
      clear hl6 hk6
      go_wp2_with fail
      refine HL6.out.up.mono ?_
      rintro e w6' ⟨rfl, rfl⟩
      have hup : (d1.crashed keep).off = true := rfl
      rw [hup]
      clear hup
      go_wp2_with fail
      have hka := (Hk.out.chg (Chg.of_below HL6.out.below (S := fun _ => False)) (fun _ e => e.elim)).mono (T := fun k => ¬ Also (fun _ => False) w2 w5 k ∧ w.heap.size ≤ k) (fun k e => e.2)
      refine (HL6.out.crashP _ keep hka hkm2 (crash_down d1 keep keep)).mono ?_
      rintro e w7 ⟨rfl, hl7, hk7⟩
      have HL7 := Lib.hid hl7
      have Hk7 := Lib.hid (Hk6.out.trans hk7)
      clear hl7 hk7 hka
      go_wp2_with fail
      refine (HL7.out.startK (start_down d1 keep)).mono ?_
      rintro e w8 ⟨rfl, hl8, hk8⟩
      have HL8 := Lib.hid hl8
      have Hk8 := Lib.hid (Hk7.out.trans hk8)
      clear hl8 hk8
      go_wp2_with fail
      refine (HL8.out.texts (backUp_off d1 keep)).mono ?_
      rintro e w9 ⟨ue, rfl, hue, hb9⟩
      have HL9 := Lib.hid (HL8.out.keep hb9)
      have Hb9 := Lib.hid hb9
      obtain ⟨ex, ec, hex, hj1⟩ := hue.each
      subst hex
      rw [datas_len, backUp_length] at *
      clear hj1
      have Hun9 := Lib.hid ((Hun5.out.keeps Hk8.out).kept hb9)
      have Hul9 := Lib.hid ((Hul5.out.keeps Hk8.out).kept hb9)
      have Hud9 := Lib.hid ((Hud5.out.keeps Hk8.out).kept hb9)
      have Hue9 := Lib.hid hue
      clear hue hb9
      go_wp2_with fail
      refine HL9.out.names.mono ?_
      rintro e w10 ⟨um, rfl, hum, hb10⟩
      have HL10 := Lib.hid (HL9.out.keep hb10)
      rw [backUp_names] at hum
      obtain ⟨mx, mc, hmx, hj1⟩ := hum.each
      subst hmx
      rw [names_len] at *
      clear hj1
      have Hst := Lib.hid (show Calls Try.prog 22 #[.slice mx d1.files.length mc, .slice nx d1.files.length nc] w10 fun e w' => e = .returned (.bool true) ∧ Below w10.heap.size w10 w' from by
        have l2 := (names_len d1.files)
        have hcn := HL2.out.ok.count
        refine (sameTexts_any _ _ _ _ w10 hum.rd (Hun9.out.kept hb10).rd (by rw [l2]; omega) (by rw [l2]; omega)).mono ?_
        rintro e w' ⟨rfl, hb⟩
        exact ⟨by simp, hb⟩)
      have Hb10 := Lib.hid hb10
      clear hum hb10
      go_wp2_with fail
      refine Hst.out.mono ?_
      rintro e w11 ⟨rfl, hb11⟩
      have HL11 := Lib.hid (HL10.out.keep hb11)
      have Hb11 := Lib.hid (Hb10.out.trans (hb11.mono Hb10.out.size))
      clear hb11
      go_wp2_with fail
      go_loopw [12, 13] (fun v12 _ wr => ∃ i : Nat, v12 = .int .i64 i ∧ i ≤ d1.files.length ∧ Below w9.heap.size w9 wr) (fun v12 _ _ => d1.files.length - (intOf v12).toNat)
      case atStart => exact ⟨0, rfl, Nat.zero_le _, Hb11.out⟩
      case round =>
        obtain ⟨i, rfl, hi, hbe⟩ := hrel
        have Hbe := Lib.hid hbe
        have hzr := hbe.size
        have hcn := HL2.out.ok.count
        clear hbe
        by_cases hlt : i < d1.files.length
        · obtain ⟨x1, c1, e1, he1⟩ := Hun9.out.each
          obtain ⟨bn, hbn, _, hln, hcn1⟩ := he1 i (by rw [names_len]; exact hlt)
          obtain ⟨x2, c2, e2, he2⟩ := Hul9.out.each
          obtain ⟨bl, hbl, _, hll, hcl1⟩ := he2 i (by rw [unsynced_length]; exact hlt)
          obtain ⟨x3, c3, e3, he3⟩ := Hud9.out.each
          obtain ⟨bw, hbw, _, hlw, hcw1⟩ := he3 i (by rw [datas_len]; exact hlt)
          obtain ⟨x4, c4, e4, he4⟩ := Hue9.out.each
          obtain ⟨bo, hbo, _, hlo, hco1⟩ := he4 i (by rw [datas_len, backUp_length]; exact hlt)
          injection e1 with e1 e1b e1c
          clear e1b e1c
          injection e2 with e2 e2b e2c
          clear e2b e2c
          injection e3 with e3 e3b e3c
          clear e3b e3c
          injection e4 with e4 e4b e4c
          clear e4b e4c
          have en := e1.trans hbn
          have el := e2.trans hbl
          have ew := e3.trans hbw
          have eo := e4.trans hbo
          subst en el ew eo
          rw [strs_get d1.files i hlt] at hcn1
          rw [unsynced_get d1 i hlt] at hcl1
          rw [datas_get d1.files i hlt] at hcw1
          rw [datas_get (backUp d1 keep).files i (by rw [backUp_length]; exact hlt)] at hco1
          have hget : (backUp d1 keep).files[i]'(by rw [backUp_length]; exact hlt) = (d1.files[i].1, cutF d1.files[i].2 keep[i]?) := by
            have := cutL_get keep 0 d1.files i hlt (by rw [cutL_length]; exact hlt)
            rw [Nat.zero_add] at this
            exact this
          rw [hget] at hco1
          have hsafe := HL2.out.ok.safe _ (List.getElem_mem hlt)
          have hsm := stays_more hsafe keep[i]?
          have hstl := stays_le hsafe keep[i]?
          have hdl := data_le (List.getElem_mem hlt)
          have hft := HL2.out.ok.fits
          have hr2 := HL2.out.ok.room2
          have hsyn : (backUp d1 keep).synced d1.files[i].1 = stays d1.files[i].2 keep[i]? := by
            have h1 := get_nth HL8.out.ok.rising i (by rw [backUp_length]; exact hlt)
            rw [hget] at h1
            unfold Dk.synced
            rw [h1]; rfl
          have Hnm := Lib.hid (name_size HL2.out.ok.named i hlt)
          obtain ⟨sw, hsw⟩ : ∃ sw : ByteArray, sw = ⟨d1.files[i].2.data.toArray⟩ := ⟨_, rfl⟩
          have hswl : sw.size = d1.files[i].2.data.length := by rw [hsw]; exact List.size_toArray
          obtain ⟨Q, hQ⟩ : ∃ Q, Q = stays d1.files[i].2 keep[i]? := ⟨_, rfl⟩
          have hso : (ByteArray.mk (cutF d1.files[i].2 keep[i]?).data.toArray) = sw.extract 0 Q := by
            refine bytes_ext ?_
            rw [extract_list, hsw, hQ]
            simp [cutF]
          rw [← hsw] at hcw1
          rw [show (d1.files[i].1, cutF d1.files[i].2 keep[i]?).2.data = (cutF d1.files[i].2 keep[i]?).data from rfl, hso] at hco1
          obtain ⟨nm, hnm⟩ : ∃ nm : ByteArray, nm = ⟨d1.files[i].1.toArray⟩ := ⟨_, rfl⟩
          rw [← hnm] at hcn1
          obtain ⟨L, hL⟩ : ∃ L : Nat, (d1.files[i].2.data.length : Int) - d1.files[i].2.safe = (L : Int) := ⟨d1.files[i].2.data.length - d1.files[i].2.safe, by omega⟩
          rw [hL] at hcl1 hsm
          rw [← hQ] at hsm hstl hsyn
          rw [← hswl] at hsm hstl hdl
          have hLs : L ≤ sw.size := by omega
          obtain ⟨P, hP⟩ : ∃ P : Nat, (sw.size : Int) - L = (P : Int) := ⟨sw.size - L, by omega⟩
          obtain ⟨N, hN⟩ : ∃ N : Nat, moreOf d1.files[i].2 keep[i]? = (N : Int) := by
            refine ⟨(moreOf d1.files[i].2 keep[i]?).toNat, ?_⟩
            unfold moreOf
            split <;> omega
          rw [hN, hP] at hsm
          have hPQ : (P : Int) + N = (Q : Int) := by omega
          have hss : (sw.extract 0 Q).size = Q := by rw [ByteArray.size_extract]; omega
          have Hsyn := Lib.hid (show ∀ W : World, Below wr.heap.size wr W → Calls Try.prog 27 #[.pointer (some ⟨bd, 0, none⟩), .string nm] W fun e w' => e = .returned (.int .i64 Q) ∧ W = w' from fun W hW => by
            have h1 := ((HL9.out.keep Hbe.out).keep hW).synced nm (by rw [hnm]; exact Hnm.out)
            have e : (backUp d1 keep).synced nm.data.toList = Q := by rw [hnm]; exact hsyn
            rw [e] at h1
            exact h1)
          have gN := (Hbe.out.cell (p := ⟨bn, i, none⟩) hln).trans hcn1
          have gL := (Hbe.out.cell (p := ⟨bl, i, none⟩) hll).trans hcl1
          have gW := (Hbe.out.cell (p := ⟨bw, i, none⟩) hlw).trans hcw1
          have gO := (Hbe.out.cell (p := ⟨bo, i, none⟩) hlo).trans hco1
          have ii : (i : Int) < d1.files.length := by omega
          have hQs : Q ≤ sw.size := hstl
          have hsb : sw.size ≤ 1048576 := by omega
          have HN := Lib.hid hN
          have HLL := Lib.hid hL
          have Hkb := Lib.hid (show Below w.heap.size w wr from HL9.out.below.trans (Hbe.out.mono (HL9.out.size)))
          clear he1 he2 he3 he4 e1 e2 e3 e4 hbn hbl hbw hbo hcn1 hcl1 hcw1 hco1 hget hsafe hsm hstl hdl hft hr2 hsyn hsw hswl hQ hso hnm hL hN
          have z1 : IntKind.i64.wrap ((sw.size : Int) - L) = (P : Int) := by rw [hP]; exact IntWalk.i64_in _ ⟨by omega, by omega⟩
          have z2 : IntKind.i64.wrap ((P : Int) + N) = (Q : Int) := by rw [hPQ]; exact IntWalk.i64_in _ ⟨by omega, by omega⟩
          have z3 : decide ((sw.size : Int) < L) = false := decide_eq_false (by omega)
          have z3' : decide (sw.size < L) = false := decide_eq_false (by omega)
          have z4 : ((sw.extract 0 Q).toList != (sw.extract 0 Q).toList) = false := by simp
          have z5 : ((Q : Int) != Q) = false := by simp
          have z5' : (Q != Q) = false := by simp
          by_cases hik : i < keep.length
          · have hik2 : ((i : Int) < keep.length) = True := by simp; omega
            obtain ⟨x5, c5, e5, _, he5⟩ := Hk.out
            obtain ⟨bk, koff, hbk, hlk, hnk, hck⟩ := he5 i hik
            injection e5 with e5 e5b e5c
            clear e5b e5c
            have ek := e5.trans hbk
            subst ek
            have gK := (Hkb.out.cell (p := ⟨bk, koff + i, none⟩) hlk).trans hck
            obtain ⟨kx, hkx⟩ : ∃ kx, keep[i] = kx := ⟨_, rfl⟩
            rw [hkx] at gK
            have hmm : max 0 (min kx (L : Int)) = (N : Int) := by
              have h1 := HN.out
              unfold moreOf at h1
              rw [List.getElem?_eq_getElem hik, hkx] at h1
              simp only at h1
              rw [HLL.out] at h1
              exact h1
            clear he5 e5 hbk hck hkx
            go_wp2_with fail
            go_quiet (fail)
            go_wp2_with fail
            have Hsx := Lib.hid (fun x : Ext (wr.drewN nq) => Hsyn.out x.wd ((below_drewN (Below.refl _ _) nq).trans (x.le.mono (Nat.le_refl _))))
            refine wp_region_ext (by kernel_rfl) (by kernel_rfl) fun K hK => ?_
            repeat (go_big_quiet_step ((go_at_call 27; exact Calls.ext_same (Hsx.out _))))
            refine wpQuiet_nil (hK _ fun x => ?_)
            clear hK K
            have Hend := Lib.hid (Hbe.out.trans (((below_drewN (Below.refl _ _) nq).trans (x.le.mono (Nat.le_refl _))).mono hzr))
            clear z1 z2
            go_wp2_with fail
            go_roundw
            case rel => exact ⟨i + 1, by go_num, by omega, Hend.out⟩
            case measure => simp [intOf]; omega
          · have hik2 : ((i : Int) < keep.length) = False := by simp; omega
            have hN0 : N = 0 := by
              have h1 := HN.out
              unfold moreOf at h1
              rw [List.getElem?_eq_none (by omega)] at h1
              simp only at h1
              omega
            subst hN0
            have z6 : IntKind.i64.wrap ((P : Int) + 0) = (Q : Int) := by have := z2; simpa using this
            have z7 : IntKind.i64.wrap (P : Int) = (Q : Int) := by have := z2; simpa using this
            clear z2
            have Hsx := Lib.hid (fun x : Ext wr => Hsyn.out x.wd x.le)
            go_wp2_with fail
            refine wp_region_ext (by kernel_rfl) (by kernel_rfl) fun K hK => ?_
            repeat (go_big_quiet_step ((go_at_call 27; exact Calls.ext_same (Hsx.out _))))
            refine wpQuiet_nil (hK _ fun x => ?_)
            clear hK K
            have Hend := Lib.hid (Hbe.out.trans (x.le.mono hzr))
            clear z1 z6 z7
            go_wp2_with fail
            go_roundw
            case rel => exact ⟨i + 1, by go_num, by omega, Hend.out⟩
            case measure => simp [intOf]; omega
        · obtain rfl : i = d1.files.length := by omega
          have HL12 := Lib.hid (HL8.out.add (Hb9.out.trans (Hbe.out.mono Hb9.out.size)))
          have Hka2 := Lib.hid (keepR_nil wr (fun k => ¬ Also (Also (fun _ => False) w2 w5) w8 wr k ∧ w.heap.size ≤ k))
          have Hue12 := Lib.hid (Hue9.out.kept Hbe.out)
          go_wp2_with fail
          refine (HL12.out.crashP _ [] Hka2.out (by simp) (crash_up (backUp_off d1 keep) [])).mono ?_
          rintro e w13 ⟨rfl, hl13, hk13⟩
          have HL13 := Lib.hid hl13
          have Hk13 := Lib.hid hk13
          clear hl13 hk13
          go_wp2_with fail
          refine (HL13.out.startK (start_down (backUp d1 keep) [])).mono ?_
          rintro e w14 ⟨rfl, hl14, hk14⟩
          have HL14 := Lib.hid hl14
          have Hk14 := Lib.hid (Hk13.out.trans hk14)
          clear hl14 hk14
          go_wp2_with fail
          refine (HL14.out.texts (backUp_off (backUp d1 keep) [])).mono ?_
          rintro e w15 ⟨uf, rfl, huf, hb15⟩
          have HL15 := Lib.hid (HL14.out.keep hb15)
          rw [backUp_again HL2.out.ok keep] at huf
          obtain ⟨fx, fc, hfx, hj1⟩ := huf.each
          subst hfx
          clear hj1
          have hl1 : (strs (datas (backUp d1 keep).files)).length = d1.files.length := by rw [datas_len, backUp_length]
          have Hst2 := Lib.hid (show Calls Try.prog 22 #[.slice fx d1.files.length fc, .slice ex d1.files.length ec] w15 fun e w' => e = .returned (.bool true) ∧ Below w15.heap.size w15 w' from by
            have h1 := huf.rd
            have h2 := ((Hue12.out.keeps Hk14.out).kept hb15).rd
            rw [hl1] at h1
            refine (sameTexts_any _ _ _ _ w15 h1 h2 (by rw [hl1]; omega) (by rw [hl1]; omega)).mono ?_
            rintro e w' ⟨rfl, hb⟩
            exact ⟨by simp, hb⟩)
          rw [hl1]
          clear huf hb15 hl1
          go_wp2_with fail
          refine Hst2.out.mono ?_
          rintro e w16 ⟨rfl, hb16⟩
          have HL16 := Lib.hid (HL15.out.keep hb16)
          clear hb16
          go_wp2_with fail
          refine (does_any _).mono ?_
          rintro e w17 ⟨rfl, hb17⟩
          have HB := Lib.hid (HL16.out.below.trans (hb17.mono HL16.out.size))
          clear hb17
          go_wp2_with fail
          go_ret
          exact ⟨rfl, HB.out⟩
theorem walkDiskCrash (room : Int) (x : Value × List ActS) (k : Value × List Int) (w : World) (h0 : 0 ≤ room ∧ room ≤ 65535) (h1 : RdA w w.heap.size x.1 x.2 ∧ x.2.length ≤ maxLen) (h2 : KeepR w (fun k => w.heap.size ≤ k) k.1 k.2 ∧ k.2.length ≤ maxLen) :
    Calls Try.prog 8 #[.int .u16 room, x.1, k.1] w fun e w' => e = .returned (.bool true) ∧ Below w.heap.size w w' :=
  diskCrash_any room h0 x.1 x.2 k.1 k.2 w h1.1 h1.2 h2.1 h2.2
end Go.Proofs.Ytnngdflamkdgaaa
