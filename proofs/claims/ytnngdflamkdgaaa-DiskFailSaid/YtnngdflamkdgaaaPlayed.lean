/- 'Played', 'texts', 'ready', walked. -/
import Derived.Test.YtnngdflamkdgaaaGreat
namespace Go.Proofs.Ytnngdflamkdgaaa
open Go.RowKit Go.Maps
open Dsk

def playsA (d : Dk) (l : List ActS) : Dk := l.foldl (fun d a => (stepA d a).2) d
theorem playsA_succ (d : Dk) (l : List ActS) (k : Nat) (hk : k < l.length) : playsA d (l.take (k + 1)) = (stepA (playsA d (l.take k)) l[k]).2 := by
  unfold playsA
  rw [List.take_succ_eq_append_getElem hk, List.foldl_append]; rfl
/-- An act's cells, read as one. -/
theorem act_load {w : World} {b off : Nat} {a : ActS} (hc : ∀ i, i < 6 → w.cell? ⟨b, off + i, none⟩ = (actCells a)[i]?) :
    w.cell? ⟨b, off, none⟩ = some (.int .u8 a.kind) ∧ w.cell? ⟨b, off + 1, none⟩ = some (.string a.name) ∧ w.cell? ⟨b, off + 2, none⟩ = some (.string a.other) ∧ w.cell? ⟨b, off + 3, none⟩ = some (.string a.data) ∧ w.cell? ⟨b, off + 4, none⟩ = some (.int .i64 a.n) ∧ w.cell? ⟨b, off + 5, none⟩ = some a.kv :=
  ⟨hc 0 (by omega), hc 1 (by omega), hc 2 (by omega), hc 3 (by omega), hc 4 (by omega), hc 5 (by omega)⟩
set_option maxRecDepth 100000 in
set_option maxHeartbeats 2000000 in
theorem played_any (room : Int) (hr : 0 ≤ room ∧ room ≤ 65535) (v : Value) (l : List ActS) (w : World) {B : Nat} (hB : B ≤ w.heap.size) (h : RdA w B v l) (hs : Small l) :
    Calls Try.prog 33 #[.int .u16 room, v] w fun e w' => ∃ u, e = .returned u ∧ Live w (fun _ => False) w' u (playsA (Dk.new (1 + room % 4000).toNat) l) := by
  obtain ⟨x, c, hv, _⟩ := id h
  subst hv
  obtain ⟨m, hm⟩ : ∃ m : Nat, 1 + room % 4000 = (m : Int) := ⟨(1 + room % 4000).toNat, by omega⟩
  have hm1 : 1 ≤ m ∧ m ≤ 1048576 := by omega
  have hml : l.length ≤ 150 := hs.1
  have hwr : IntKind.i64.wrap room = room := IntWalk.i64_in _ ⟨by omega, by omega⟩
  rw [hm]
  have hmt : (m : Int).toNat = m := by omega
  rw [hmt]
  have Hs := Lib.hid hs
  have H := Lib.hid h
  have HM := Lib.hid hm1
  obtain ⟨hr1, hr2⟩ := hr
  clear hs h hm1 hmt
  go_enter Try.func33, Try.ntmps33
  go_wp2_with fail
  refine (live_new m w HM.out.1 HM.out.2).mono ?_
  rintro e w1 ⟨u, rfl, hl⟩
  obtain ⟨bd, rfl⟩ := hl.ptr
  have HL := Lib.hid hl
  clear hl
  go_wp2_with fail
  go_loopw [7] (fun v7 wr => ∃ k : Nat, v7 = .int .i64 k ∧ k ≤ l.length ∧ Live w (fun _ => False) wr (.pointer (some ⟨bd, 0, none⟩)) (playsA (Dk.new m) (l.take k))) (fun v7 _ => l.length - (intOf v7).toNat)
  case atStart => exact ⟨0, rfl, Nat.zero_le _, HL.out⟩
  case round =>
    obtain ⟨k, rfl, hk, hl⟩ := hrel
    have HL2 := Lib.hid hl
    clear hl
    by_cases hlt : k < l.length
    · have hra := H.out.chg (Chg.of_below HL2.out.below (S := fun _ => False)) (fun _ e => e.elim)
      obtain ⟨x', c', hv, hel⟩ := hra
      injection hv with e1 e2 e3
      subst e1 e3
      obtain ⟨ho, b, off, rfl, _, hbl, hc⟩ := hel k hlt
      have hc2 := act_load (b := b) (off := off + k * 6) (a := l[k]) (fun i hi => by rw [Nat.add_assoc]; exact hc i hi)
      obtain ⟨c0, c1, c2, c3, c4, c5⟩ := hc2
      have Hsu := Lib.hid (playsA_succ (Dk.new m) l k hlt)
      obtain ⟨a, ha⟩ : ∃ a, a = l[k] := ⟨_, rfl⟩
      have hkl : a.keep.length ≤ 100 := by rw [ha]; exact (Hs.out.2 k hlt).2.2.2
      rw [← ha] at c0 c1 c2 c3 c4 c5 ho
      have hbb : ActOk wr w.heap.size a := ⟨ho.kind, ho.name, ho.other, ho.data, ho.n, ho.kv.mono fun k hk => Nat.le_trans hB hk, ho.keep⟩
      have HD := Lib.hid (HL2.out.done a hbb (by omega))
      unfold actV at HD
      have HA := Lib.hid ha
      clear ha ho hel hc hkl hbb
      go_wp2_with fail
      refine HD.out.mono ?_
      rintro e w2 ⟨rfl, hl, _⟩
      have HL3 := Lib.hid hl
      clear hl c0 c1 c2 c3 c4 c5
      go_wp2_with fail
      go_roundw
      case rel => exact ⟨k + 1, by go_num, by omega, by rw [Hsu.out, ← HA.out]; exact HL3.out⟩
      case measure => simp [intOf]; omega
    · obtain rfl : k = l.length := by omega
      rw [List.take_length] at HL2
      go_wp2_with fail
      go_ret
      exact ⟨_, rfl, HL2.out⟩
end Go.Proofs.Ytnngdflamkdgaaa
