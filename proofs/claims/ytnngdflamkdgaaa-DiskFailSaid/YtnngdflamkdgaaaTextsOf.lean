/- 'texts': of all files of a disk that is running. -/
import Derived.Test.YtnngdflamkdgaaaPlayed
namespace Go.Proofs.Ytnngdflamkdgaaa
open Go.RowKit Go.Maps
open Dsk

def datas (m : Files) : List Str := m.map (·.2.data)
/-- The first files' bytes, the others' names. -/
def mix (m : Files) (k : Nat) : List Str := datas (m.take k) ++ names (m.drop k)
theorem mix_length (m : Files) (k : Nat) : (mix m k).length = m.length := by
  unfold mix datas names
  simp; omega
theorem mix_zero (m : Files) : mix m 0 = names m := by simp [mix, datas]
theorem mix_end (m : Files) : mix m m.length = datas m := by simp [mix, names]
theorem mix_get (m : Files) (k : Nat) (hk : k < m.length) (h : k < (strs (mix m k)).length) : (strs (mix m k))[k] = ⟨m[k].1.toArray⟩ := by
  have h2 : k < (mix m k).length := by rw [mix_length]; exact hk
  have e : (mix m k)[k] = m[k].1 := by
    simp only [mix]
    rw [List.getElem_append_right (by simp [datas]; omega)]
    simp [names, datas, Nat.min_eq_left (Nat.le_of_lt hk)]
  have e2 : (strs (mix m k))[k]? = some ⟨m[k].1.toArray⟩ := by
    unfold strs
    rw [List.getElem?_map, List.getElem?_eq_getElem h2, e]; rfl
  rw [List.getElem?_eq_getElem h] at e2
  exact Option.some.inj e2
theorem mix_set (m : Files) (k : Nat) (hk : k < m.length) : (strs (mix m k)).set k ⟨m[k].2.data.toArray⟩ = strs (mix m (k + 1)) := by
  unfold strs
  rw [← List.map_set]
  congr 1
  unfold mix
  rw [List.set_append_right _ _ (by simp [datas]; omega)]
  have e : (datas (m.take k)).length = k := by simp [datas]; omega
  rw [e, Nat.sub_self, List.drop_eq_getElem_cons hk, List.take_succ_eq_append_getElem hk]
  show datas (m.take k) ++ (m[k].1 :: names (m.drop (k + 1))).set 0 m[k].2.data = datas (m.take k ++ [m[k]]) ++ names (m.drop (k + 1))
  have e2 : datas (m.take k ++ [m[k]]) = datas (m.take k) ++ [m[k].2.data] := List.map_append
  rw [List.set_cons_zero, e2, List.append_assoc]
  rfl
theorem read_ok {d : Dk} (hoff : d.off = false) {n : Str} {f : Fl} (hg : get d.files n = some f) : d.read n = (f.data, 0) := by
  unfold Dk.read
  rw [if_neg (by simp [hoff]), hg]
set_option maxRecDepth 100000 in
set_option maxHeartbeats 2000000 in
theorem texts_any {w : World} {F : Nat → Prop} {v : Value} {d : Dk} (h : DiskAt w F v d) (hoff : d.off = false) :
    Calls Try.prog 34 #[v] w fun e w' => ∃ u, e = .returned u ∧ OwnS w' w.heap.size u (strs (datas d.files)) ∧ Below w.heap.size w w' := by
  have hn := names_at h
  have hcnt := h.ok.count
  have Hok := Lib.hid h.ok
  have H := Lib.hid h
  have Hoff := Lib.hid hoff
  obtain ⟨bd, hv⟩ := h.ptr
  subst hv
  clear h hoff
  go_enter Try.func34, Try.ntmps34
  go_wp2_with fail
  refine hn.mono ?_
  rintro e w1 ⟨u, rfl, hown, hb1⟩
  obtain ⟨x, c, rfl, _⟩ := hown.each
  have hz1 := hb1.size
  have Hown := Lib.hid hown
  have Hb1 := Lib.hid hb1
  rw [names_len]
  clear hown hb1 hn
  go_wp2_with fail
  go_loopw [4, 5, 6] (fun v4 _ _ wr => ∃ k : Nat, v4 = .int .i64 k ∧ k ≤ d.files.length ∧ OwnS wr w.heap.size (.slice x d.files.length c) (strs (mix d.files k)) ∧ Below w.heap.size w wr) (fun v4 _ _ _ => d.files.length - (intOf v4).toNat)
  case atStart => exact ⟨0, rfl, Nat.zero_le _, by rw [mix_zero]; have := Hown.out; rw [names_len] at this; exact this, Hb1.out⟩
  case round =>
    obtain ⟨k, rfl, hk, hown, hbe⟩ := hrel
    have hz := hbe.size
    have Ho := Lib.hid hown
    have Hbe := Lib.hid hbe
    by_cases hlt : k < d.files.length
    · obtain ⟨x2, c2, hx2, hc⟩ := hown.each
      have hl2 : (strs (mix d.files k)).length = d.files.length := by rw [strs_length, mix_length]
      obtain ⟨g, hg1, hg2, hg3, hg4⟩ := hc k (by rw [hl2]; exact hlt)
      injection hx2 with e1 e2 e3
      have ex : x = some ⟨g, 0, none⟩ := e1.trans hg1
      subst ex
      rw [mix_get d.files k hlt] at hg4
      have hst := World.ownsRow.stored (show wr.ownsRow w.heap.size 9 1 (.slice (some ⟨g, 0, none⟩) d.files.length c) d.files.length ((strs (mix d.files k)).map Value.string) from by
        have := hown
        unfold OwnS at this
        rw [hl2] at this
        exact this) k (.string ⟨d.files[k].2.data.toArray⟩)
      have hfr := World.ownsRow.frozenAt (show wr.ownsRow w.heap.size 9 1 (.slice (some ⟨g, 0, none⟩) d.files.length c) d.files.length ((strs (mix d.files k)).map Value.string) from by
        have := hown
        unfold OwnS at this
        rw [hl2] at this
        exact this) k
      have Hns := Lib.hid (name_size Hok.out.named k hlt)
      have Hrd := Lib.hid (read_ok Hoff.out (get_nth Hok.out.rising k hlt))
      have Hrow := Lib.hid hown
      obtain ⟨name, hname⟩ : ∃ name : ByteArray, name = ⟨d.files[k].1.toArray⟩ := ⟨_, rfl⟩
      obtain ⟨s, hs⟩ : ∃ s : ByteArray, s = ⟨d.files[k].2.data.toArray⟩ := ⟨_, rfl⟩
      rw [← hname] at hg4
      rw [← hs] at hst
      have Hread := Lib.hid (show Calls Try.prog 16 #[.pointer (some ⟨bd, 0, none⟩), .string name] wr fun e w' => e = .returned (.tuple #[.string s, .int .i64 0]) ∧ Below wr.heap.size wr w' from by
        refine (read_at (H.out.chg (Chg.of_below (hbe.mono (Nat.le_refl _)) (S := fun _ => False)) (fun _ _ e => e)) name (by rw [hname]; exact Hns.out)).mono fun _ _ y => ⟨?_, y.2⟩
        have e : d.read name.data.toList = (d.files[k].2.data, 0) := by rw [hname]; exact Hrd.out
        rw [y.1, e, hs])
      have Hst := Lib.hid hst
      have Hset := Lib.hid (mix_set d.files k hlt)
      have Hs := Lib.hid hs
      clear hc hg2 hst hown hbe hname hs e1 e2 e3 hl2
      go_wp2_with fail
      refine Hread.out.mono ?_
      rintro e w2 ⟨rfl, hb2⟩
      have q0 := (hb2.cell (p := ⟨g, k, none⟩) hg3).trans hg4
      have q1 := (hb2.frozen (p := ⟨g, k, none⟩) hg3).trans hfr
      have Hb2 := Lib.hid hb2
      have hz2 := hb2.size
      clear hb2
      go_wp2_with fail
      have hrow2 : OwnS (w2.setCell ⟨g, k, none⟩ (.string s)) w.heap.size (.slice (some ⟨g, 0, none⟩) d.files.length c) (strs (mix d.files (k + 1))) := by
        have h1 := Hrow.out.kept Hb2.out
        have hl2 : (strs (mix d.files k)).length = d.files.length := by rw [strs_length, mix_length]
        have hl3 : (strs (mix d.files (k + 1))).length = d.files.length := by rw [strs_length, mix_length]
        unfold OwnS at h1 ⊢
        rw [hl2] at h1
        rw [hl3, ← Hset.out, List.map_set, ← Hs.out]
        exact (World.ownsRow.stored h1 k (.string s)).1
      have Hrow2 := Lib.hid hrow2
      have hgz : w.heap.size ≤ g := (World.ownsRow.lt Hrow.out g rfl).1
      have Hbe2 := Lib.hid ((Hbe.out.trans (Hb2.out.mono hz)).setCell (p := ⟨g, k, none⟩) hgz (.string s))
      clear hrow2
      go_roundw
      case rel => exact ⟨k + 1, by go_num, by omega, Hrow2.out, Hbe2.out⟩
      case measure => simp [intOf]; omega
    · obtain rfl : k = d.files.length := by omega
      rw [mix_end] at Ho
      go_wp2_with fail
      go_ret
      exact ⟨_, rfl, Ho.out, Hbe.out⟩
end Go.Proofs.Ytnngdflamkdgaaa
