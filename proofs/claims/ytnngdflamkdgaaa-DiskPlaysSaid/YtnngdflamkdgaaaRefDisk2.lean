/- The reference's disk: what it tells. -/
import Derived.Test.YtnngdflamkdgaaaRefDisk
namespace Go.Proofs.Ytnngdflamkdgaaa
open Go.RowKit Go.Maps
open Dsk

theorem place_get {m : Files} (hr : Rising m) {name : Str} {i : Nat} (hi : i < m.length) (e : m[i].1 = name) : get m name = some m[i].2 := by
  refine get_of_mem (rising_apart hr) ?_
  rw [← e]
  exact List.getElem_mem hi
section
variable {w : World} {F : Nat → Prop} {br : Nat} {vl vk : Value} {st : Bool} {nf : Int} {d : Dk}
/-- The cells of the file at place i. -/
theorem RefIn.at_ (h : RefIn w F br vl vk st nf d) {i : Nat} (hi : i < d.files.length) : ∃ b c, vl = .slice (some ⟨b, 0, none⟩) d.files.length c ∧ b < w.heap.size ∧ F b ∧ b ≠ br ∧ (∀ j, w.frozen? ⟨b, j, none⟩ = false) ∧
    w.cell? ⟨b, i * 3, none⟩ = some (.string ⟨d.files[i].1.toArray⟩) ∧ w.cell? ⟨b, i * 3 + 1, none⟩ = some (.string ⟨d.files[i].2.data.toArray⟩) ∧ w.cell? ⟨b, i * 3 + 2, none⟩ = some (.int .i64 d.files[i].2.safe) := by
  obtain ⟨b, c, hv, _, hb, hf, hc⟩ := h.row.at_ (Nat.lt_of_le_of_lt (Nat.zero_le _) hi)
  refine ⟨b, c, hv, hb, h.fl b (by rw [hv]; rfl), fun e => ?_, hf, hc i hi⟩
  subst e
  have h1 := h.row
  have h2 := h.blk
  rw [hv] at h1
  obtain ⟨_, ⟨e, _⟩ | ⟨g, cap, cur, hv', _, hh, _⟩⟩ := h1
  · cases e
  · injection hv' with hv'
    injection hv' with hv'
    injection hv' with hv'
    subst hv'
    unfold Blk at h2
    rw [h2] at hh
    injection hh with hh
    injection hh with _ hh _
    exact absurd hh (by decide)
set_option maxHeartbeats 1000000 in
theorem refAsks_in (h : RefIn w F br vl vk st nf d) (name : ByteArray) :
    Calls Try.prog 66 #[.pointer (some ⟨br, 0, none⟩), .string name] w fun e w' => ∃ r c, e = .returned (.tuple #[.int .i64 r, .int .i64 c]) ∧ w = w' ∧
      ((d.off = true ∧ c = 51) ∨ (d.off = false ∧ c = 4 ∧ get d.files name.data.toList = none) ∨ (d.off = false ∧ c = 0 ∧ ∃ (i : Nat) (hi : i < d.files.length), r = i ∧ d.files[i].1 = name.data.toList)) := by
  have c2 := h.blk.cell 2
  simp at c2
  have Hp := Lib.hid (refPlace_in h name)
  clear h
  by_cases ho : d.off = true
  · have Ho := Lib.hid ho
    rw [ho] at c2
    clear ho
    go_enter Try.func66, Try.ntmps66
    go_wp2_with fail
    go_ret2
    exact ⟨0, 51, rfl, rfl, .inl ⟨Ho.out, rfl⟩⟩
  · rw [Bool.not_eq_true] at ho
    have Ho := Lib.hid ho
    rw [ho] at c2
    clear ho
    go_enter Try.func66, Try.ntmps66
    go_wp2_with fail
    refine Hp.out.mono ?_
    rintro e w1 ⟨r, rfl, hp, rfl⟩
    rcases hp with ⟨rfl, hg⟩ | ⟨i, hi, rfl, he⟩
    · have Hg := Lib.hid hg
      clear hg
      go_wp2_with fail
      go_ret2
      exact ⟨0, 4, rfl, rfl, .inr (.inl ⟨Ho.out, rfl, Hg.out⟩)⟩
    · have Hi := Lib.hid hi
      have He := Lib.hid he
      have q : decide ((i : Int) < 0) = false := decide_eq_false (by omega)
      clear he
      go_wp2_with fail
      go_ret2
      exact ⟨i, 0, rfl, rfl, .inr (.inr ⟨Ho.out, rfl, i, hi, rfl, He.out⟩)⟩
set_option maxHeartbeats 1000000 in
theorem refSynced_in (h : RefIn w F br vl vk st nf d) (name : ByteArray) :
    Calls Try.prog 28 #[.pointer (some ⟨br, 0, none⟩), .string name] w fun e w' => e = .returned (.int .i64 (d.synced name.data.toList)) ∧ w = w' := by
  have c4 := h.blk.cell 4
  simp at c4
  have Hp := Lib.hid (refPlace_in h name)
  have H := Lib.hid h
  clear h
  go_enter Try.func28, Try.ntmps28
  go_wp2_with fail
  refine Hp.out.mono ?_
  rintro e w1 ⟨r, rfl, hp, rfl⟩
  rcases hp with ⟨rfl, hg⟩ | ⟨i, hi, rfl, he⟩
  · have hs : d.synced name.data.toList = 0 := by unfold Dk.synced; rw [hg]
    have Hs := Lib.hid hs
    clear hg hs
    go_wp2_with fail
    go_ret
    exact ⟨by rw [Hs.out]; rfl, rfl⟩
  · have hs : d.synced name.data.toList = d.files[i].2.safe := by unfold Dk.synced; rw [place_get H.out.ok.rising hi he]
    have q : decide ((i : Int) < 0) = false := decide_eq_false (by omega)
    obtain ⟨b, c, rfl, hb, _, _, _, _, _, hc⟩ := H.out.at_ hi
    have hi2 : (i : Int) < d.files.length := by omega
    obtain ⟨s, hss⟩ : ∃ s : Nat, s = d.files[i].2.safe := ⟨_, rfl⟩
    have Hs := Lib.hid (hs.trans hss.symm)
    rw [← hss] at hc
    clear hs hss he
    go_wp2_with fail
    go_ret
    exact ⟨by rw [Hs.out]; rfl, rfl⟩
set_option maxHeartbeats 1000000 in
theorem refRead_in (h : RefIn w F br vl vk st nf d) (name : ByteArray) :
    Calls Try.prog 61 #[.pointer (some ⟨br, 0, none⟩), .string name] w fun e w' => e = .returned (.tuple #[.string ⟨(d.read name.data.toList).1.toArray⟩, .int .i64 (d.read name.data.toList).2]) ∧ w = w' := by
  have c4 := h.blk.cell 4
  simp at c4
  have Hp := Lib.hid (refAsks_in h name)
  have H := Lib.hid h
  clear h
  go_enter Try.func61, Try.ntmps61
  go_wp2_with fail
  refine Hp.out.mono ?_
  rintro e w1 ⟨r, c, rfl, rfl, hp⟩
  rcases hp with ⟨ho, rfl⟩ | ⟨ho, rfl, hg⟩ | ⟨ho, rfl, i, hi, rfl, he⟩
  · have hs : d.read name.data.toList = ([], 51) := by unfold Dk.read; rw [ho]; rfl
    have Hs := Lib.hid hs
    clear hs ho
    go_wp2_with fail
    go_ret2
    exact ⟨by rw [Hs.out]; rfl, rfl⟩
  · have hs : d.read name.data.toList = ([], 4) := by unfold Dk.read; rw [ho, hg]; rfl
    have Hs := Lib.hid hs
    clear hs ho hg
    go_wp2_with fail
    go_ret2
    exact ⟨by rw [Hs.out]; rfl, rfl⟩
  · have hs : d.read name.data.toList = (d.files[i].2.data, 0) := by unfold Dk.read; rw [ho, place_get H.out.ok.rising hi he]; rfl
    obtain ⟨b, c, rfl, hb, _, _, _, _, hc, _⟩ := H.out.at_ hi
    have hi2 : (i : Int) < d.files.length := by omega
    have hi0 : (0 : Int) ≤ (i : Int) := by omega
    obtain ⟨s, hss⟩ : ∃ s : ByteArray, s = ⟨d.files[i].2.data.toArray⟩ := ⟨_, rfl⟩
    have Hs := Lib.hid hs
    have Hss := Lib.hid hss
    rw [← hss] at hc
    clear hs hss he ho
    go_wp2_with fail
    go_ret2
    exact ⟨by rw [Hs.out, Hss.out]; rfl, rfl⟩
end
end Go.Proofs.Ytnngdflamkdgaaa
