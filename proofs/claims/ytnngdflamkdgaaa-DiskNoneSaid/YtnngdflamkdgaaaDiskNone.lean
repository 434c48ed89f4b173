/- 'DiskNone', walked. -/
import Derived.Test.YtnngdflamkdgaaaDiskNil
import Derived.Test.YtnngdflamkdgaaaLiveP
import Derived.Test.YtnngdflamkdgaaaGreat
namespace Go.Proofs.Ytnngdflamkdgaaa
open Go.RowKit Go.Maps
open Dsk

theorem Live.write {w0 w : World} {X : Nat → Prop} {v : Value} {d : Dk} (h : Live w0 X w v d) {p : Addr} (hx : X p.block) (hp : w0.heap.size ≤ p.block) (u : Value) : Live w0 X (w.setCell p u) v d := by
  obtain ⟨F, h1, h2, h3, h4⟩ := h
  have hc : Chg (· = p.block) w (w.setCell p u) := (Chg.refl (· = p.block) w).setCell (fun _ => rfl) u
  exact ⟨F, h1.chg hc (fun k hk e => (h2 k hk).2 (e ▸ hx)), h2, fun k hk => Nat.lt_of_lt_of_le (h3 k hk) hc.size, h4.setCell hp u⟩
set_option maxHeartbeats 4000000 in
theorem done_nil {w : World} {v : Value} (h : NilD w v) (k : Int) (hk0 : 0 ≤ k ∧ k < 256) (s1 s2 s3 : ByteArray) (n : Int) (kv : Value) :
    Calls Try.prog 21 #[v, .agg #[.int .u8 k, .string s1, .string s2, .string s3, .int .i64 n, kv]] w fun e w' => e = .returned (.int .i64 1) ∧ Below w.heap.size w w' := by
  obtain ⟨w1, hw1⟩ : ∃ w1, w1 = w.alloc (.cells #[.int .u8 k, .string s1, .string s2, .string s3, .int .i64 n, kv] 44 (0, 0)) := ⟨_, rfl⟩
  have hb1 : Below w.heap.size w w1 := by rw [hw1]; exact (Below.refl _ _).alloc (Nat.le_refl _) _
  have hblk : Blk w1 w.heap.size 44 #[.int .u8 k, .string s1, .string s2, .string s3, .int .i64 n, kv] := by rw [hw1]; exact Blk.alloc_new w _ _
  have h1 := h.below hb1
  have Hcr := Lib.hid (crash_nil h1 kv)
  have Hfa := Lib.hid (fail_nil h1 n kv)
  have Hsy := Lib.hid (sync_nil h1 s1)
  have Hrn := Lib.hid (rename_nil h1 s1 s2)
  have Hrm := Lib.hid (remove_nil h1 s1)
  have Hst := Lib.hid (start_nil h1)
  have Hap := Lib.hid (append_nil h1 s1 s3)
  have d0 := hblk.cell 0
  have d1 := hblk.cell 1
  have d2 := hblk.cell 2
  have d3 := hblk.cell 3
  have d4 := hblk.cell 4
  have d5 := hblk.cell 5
  simp at d0 d1 d2 d3 d4 d5
  have Hb1 := Lib.hid hb1
  have HW := Lib.hid hw1
  have hv : v = .pointer none ∨ ∃ b, v = .pointer (some ⟨b, 0, none⟩) := by rcases h with h | ⟨b, h, _⟩ <;> simp [h]
  obtain ⟨m, hm⟩ : ∃ m : Nat, k % 12 = (m : Int) := ⟨(k % 12).toNat, by omega⟩
  have hm12 : m < 12 := by omega
  have hcs : m = 0 ∨ m = 1 ∨ m = 2 ∨ m = 3 ∨ m = 4 ∨ m = 5 ∨ m = 6 ∨ m = 7 ∨ m = 8 ∨ m = 9 ∨ m = 10 ∨ m = 11 := by omega
  obtain ⟨hk1, hk2⟩ := hk0
  clear hw1 hb1 hblk h1 h hm12
  rcases hv with rfl | ⟨b, rfl⟩
  all_goals
    rcases hcs with rfl | rfl | rfl | rfl | rfl | rfl | rfl | rfl | rfl | rfl | rfl | rfl
    all_goals
      go_enter Try.func21, Try.ntmps21
      go_wp2_with fail
      rw [← HW.out]
      first
        | (go_at_call 11; refine Hap.out.mono ?_; rintro e w' ⟨rfl, rfl⟩; have Hd := Lib.hid Hb1.out)
        | (go_at_call 12; refine Hsy.out.mono ?_; rintro e w' ⟨rfl, hd0⟩; have Hd := Lib.hid (Hb1.out.trans (hd0.mono Hb1.out.size)); clear hd0)
        | (go_at_call 14; refine Hrn.out.mono ?_; rintro e w' ⟨rfl, hd0⟩; have Hd := Lib.hid (Hb1.out.trans (hd0.mono Hb1.out.size)); clear hd0)
        | (go_at_call 23; refine Hrm.out.mono ?_; rintro e w' ⟨rfl, hd0⟩; have Hd := Lib.hid (Hb1.out.trans (hd0.mono Hb1.out.size)); clear hd0)
        | (go_at_call 35; refine Hcr.out.mono ?_; rintro e w' ⟨rfl, rfl⟩; have Hd := Lib.hid Hb1.out)
        | (go_at_call 15; refine Hst.out.mono ?_; rintro e w' ⟨rfl, rfl⟩; have Hd := Lib.hid Hb1.out)
        | (go_at_call 13; refine Hfa.out.mono ?_; rintro e w' ⟨rfl, hd0⟩; have Hd := Lib.hid (Hb1.out.trans (hd0.mono Hb1.out.size)); clear hd0)
      go_wp2_with fail
      go_ret
      exact ⟨rfl, Hd.out⟩
theorem NilD.chg {w w' : World} {v : Value} {bx : Nat} (h : NilD w v) (x : Chg (· = bx) w w') (hne : ∀ b, v = .pointer (some ⟨b, 0, none⟩) → b ≠ bx) : NilD w' v := by
  rcases h with h | ⟨b, e, hb, hc⟩
  · exact .inl h
  · exact .inr ⟨b, e, Nat.lt_of_lt_of_le hb x.size, (x.cell (p := ⟨b, 3, none⟩) hb (hne b e)).trans hc⟩
theorem ownI_each {w : World} {B : Nat} {v : Value} {l : List Int} (h : OwnI w B v l) : ∃ x c, v = .slice x l.length c ∧ ∀ (j : Nat) (hj : j < l.length), ∃ b, x = some ⟨b, 0, none⟩ ∧ B ≤ b ∧ b < w.heap.size ∧ w.cell? ⟨b, j, none⟩ = some (.int .i64 l[j]) := by
  have hlt := World.ownsRow.lt h
  have hcs := fun g (hg : v.ownBlock = some g) => World.ownsRow.cells h hg
  obtain ⟨h1, h2⟩ := h
  rcases h2 with ⟨rfl, h2⟩ | ⟨g, cap, cur, hv, hg, hh, r⟩
  · exact ⟨none, 0, by rw [h2], fun j hj => absurd hj (by omega)⟩
  · refine ⟨some ⟨g, 0, none⟩, cap, hv, fun j hj => ⟨g, rfl, hg, (hlt g (by rw [hv]; rfl)).2, ?_⟩⟩
    have := hcs g (by rw [hv]; rfl) j (.int .i64 l[j]) (by rw [List.getElem?_map, List.getElem?_eq_getElem hj]; rfl)
    have e : (⟨g, 0, none⟩ : Addr).add j = ⟨g, j, none⟩ := by unfold Addr.add; split <;> simp_all
    rw [← e]; exact this
theorem ownI_free {w : World} {B : Nat} {v : Value} {l : List Int} {b c n : Nat} (h : OwnI w B v l) (hv : v = .slice (some ⟨b, 0, none⟩) n c) (j : Nat) : w.frozen? ⟨b, j, none⟩ = false := by
  obtain ⟨h1, ⟨rfl, h2⟩ | ⟨g, cap, cur, hw, hg, hh, r⟩⟩ := h
  · cases hv
  · rw [hv] at hw
    injection hw with hw
    injection hw with hw
    injection hw with hw
    subst hw
    simp [World.frozen?, hh]
theorem ownS_free {w : World} {B : Nat} {v : Value} {l : List ByteArray} {b c n : Nat} (h : OwnS w B v l) (hv : v = .slice (some ⟨b, 0, none⟩) n c) (j : Nat) : w.frozen? ⟨b, j, none⟩ = false := by
  obtain ⟨h1, ⟨rfl, h2⟩ | ⟨g, cap, cur, hw, hg, hh, r⟩⟩ := h
  · cases hv
  · rw [hv] at hw
    injection hw with hw
    injection hw with hw
    injection hw with hw
    subst hw
    simp [World.frozen?, hh]
def z0 : Dk := Dk.new 100
def z1 : Dk := (z0.append [97] [120]).2
theorem zz : z0.append [97] [120] = (0, z1) := Prod.ext (by decide +kernel) rfl
theorem zn : Dsk.names z1.files = [[97]] := by decide +kernel
theorem zu : z1.unsynced = [1] := by decide +kernel
theorem hlen' : (strs [[97]]).length = 1 := rfl
set_option maxRecDepth 100000 in
set_option maxHeartbeats 4000000 in
theorem walkDiskNone (a : ActS) (w : World) (h : ActOk w w.heap.size a) :
    Calls Try.prog 7 #[actV a] w fun e w' => e = .returned (.bool true) ∧ Below w.heap.size w w' := by
  obtain ⟨kd, s1, s2, s3, n, kv, keep⟩ := a
  obtain ⟨kx, kc, hkv, _, _⟩ := h.kv
  simp only at hkv
  subst hkv
  unfold actV
  simp only
  have hkd : kd < 256 := h.kind
  obtain ⟨w1, hw1⟩ : ∃ w1, w1 = w.alloc (.cells #[.int .u8 kd, .string s1, .string s2, .string s3, .int .i64 n, .slice kx keep.length kc] 44 (0, 0)) := ⟨_, rfl⟩
  obtain ⟨w2, hw2⟩ : ∃ w2, w2 = w1.alloc (.cells #[.int .u8 kd, .string s1, .string s2, .string s3, .int .i64 n, .slice kx keep.length kc] 44 (0, 0)) := ⟨_, rfl⟩
  have hb1 : Below w.heap.size w w1 := by rw [hw1]; exact (Below.refl _ _).alloc (Nat.le_refl _) _
  have hz1 : w1.heap.size = w.heap.size + 1 := by rw [hw1]; simp
  have hb2 : Below w.heap.size w w2 := by rw [hw2]; exact hb1.alloc (by omega) _
  have hz2 : w2.heap.size = w1.heap.size + 1 := by rw [hw2]; simp
  have hblk2 : Blk w2 w1.heap.size 44 #[.int .u8 kd, .string s1, .string s2, .string s3, .int .i64 n, .slice kx keep.length kc] := by rw [hw2]; exact Blk.alloc_new w1 _ _
  have hblk1 : Blk w2 w.heap.size 44 #[.int .u8 kd, .string s1, .string s2, .string s3, .int .i64 n, .slice kx keep.length kc] := by
    have : Blk w1 w.heap.size 44 #[.int .u8 kd, .string s1, .string s2, .string s3, .int .i64 n, .slice kx keep.length kc] := by rw [hw1]; exact Blk.alloc_new w _ _
    refine this.below ?_
    rw [hw2]; exact (Below.refl _ _).alloc (Nat.le_refl _) _
  have ho2 := h.chg (Chg.of_below hb2) (T := fun _ => False) (fun _ e => e.elim)
  have hrd : RdA w2 w2.heap.size (.slice (some ⟨w1.heap.size, 0, none⟩) 1 1) [⟨kd, s1, s2, s3, n, .slice kx keep.length kc, keep⟩] := by
    refine ⟨some ⟨w1.heap.size, 0, none⟩, 1, rfl, fun j hj => ?_⟩
    obtain rfl : j = 0 := by simpa using hj
    refine ⟨⟨ho2.kind, ho2.name, ho2.other, ho2.data, ho2.n, ho2.kv.mono fun k hk => by have := hb2.size; omega, ho2.keep⟩, w1.heap.size, 0, rfl, by omega, by omega, fun i hi => ?_⟩
    rw [show 0 + (0 * 6 + i) = i by omega, hblk2.cell i]
    match i, hi with
    | 0, _ => rfl
    | 1, _ => rfl
    | 2, _ => rfl
    | 3, _ => rfl
    | 4, _ => rfl
    | 5, _ => rfl
  have Hg := Lib.hid (great_any _ _ w2.heap.size w2 hrd (by simp))
  have HW1 := Lib.hid hw1
  have HW2 := Lib.hid hw2
  have Hb2 := Lib.hid hb2
  have Hblk := Lib.hid hblk1
  clear hw1 hw2 hb1 hb2 hblk1 hblk2 ho2 hrd h
  go_enter Try.func7, Try.ntmps7
  go_wp2_with fail
  rw [← HW1.out, ← HW2.out, ← hz1]
  refine Hg.out.mono ?_
  rintro e w3 ⟨b, rfl, _, rfl⟩
  cases b with
  | true =>
    go_wp2_with fail
    go_ret
    exact ⟨rfl, Hb2.out⟩
  | false =>
    have hw2z : w.heap.size < w2.heap.size := by omega
    clear Hg
    go_wp2_with fail
    go_loopw [3, 4, 5, 6, 7] (fun v3 _ _ _ _ wr => ∃ (i : Nat) (kk : Int), v3 = .int .i64 i ∧ i ≤ 2 ∧ Blk wr w.heap.size 44 #[.int .u8 kk, .string s1, .string s2, .string s3, .int .i64 n, .slice kx keep.length kc] ∧ (0 ≤ kk ∧ kk < 256) ∧ Below w.heap.size w wr) (fun v3 _ _ _ _ _ => 2 - (intOf v3).toNat)
    case atStart => exact ⟨0, kd, rfl, by omega, Hblk.out, by omega, Hb2.out⟩
    case round =>
      obtain ⟨i, kk, rfl, hi, hbk, hkk, hbe⟩ := hrel
      have hwl := hbk.lt
      have Hbk := Lib.hid hbk
      have Hbe := Lib.hid hbe
      have Hkk := Lib.hid hkk
      clear hbk hbe hkk
      by_cases hlt : i < 2
      · have hii : (i : Int) < 2 := by omega
        obtain ⟨bN, hbN⟩ : ∃ bN, bN = wr.heap.size := ⟨_, rfl⟩
        have hcs : i = 0 ∨ i = 1 := by omega
        have HI := Lib.hid (show ((i + 1 : Nat) : Int) = (i : Int) + 1 by omega)
        by_cases hi0 : i = 0
        case' pos =>
          have t1 : ((i : Int) == 1) = false := by rw [beq_eq_false_iff_ne]; omega
          have t1' : (i == 1) = false := by rw [beq_eq_false_iff_ne]; omega
          have Hi0 := Lib.hid hi0
          clear hi0 hcs
          go_wp2_with fail
          obtain ⟨wI, hwI⟩ : ∃ wI, wI = wr := ⟨_, rfl⟩
          obtain ⟨u, hu⟩ : ∃ u : Value, u = .pointer none := ⟨_, rfl⟩
          have hU : NilD wI u ∧ (∀ b, u = .pointer (some ⟨b, 0, none⟩) → b ≠ w.heap.size) := by rw [hu]; exact ⟨.inl rfl, fun b e => by cases e⟩
          have hBk : Blk wI w.heap.size 44 #[.int .u8 kk, .string s1, .string s2, .string s3, .int .i64 n, .slice kx keep.length kc] := by rw [hwI]; exact Hbk.out
          have hBe : Below w.heap.size w wI := by rw [hwI]; exact Hbe.out
          rw [← hwI, ← hu]
        case' neg =>
          have t1 : ((i : Int) == 1) = true := by rw [beq_iff_eq]; omega
          have t1' : (i == 1) = true := by rw [beq_iff_eq]; omega
          have Hi0 := Lib.hid hi0
          clear hi0 hcs
          go_wp2_with fail
          obtain ⟨wI, hwI⟩ : ∃ wI, wI = wr.alloc (.cells #[.int .i64 0, .int .i64 0, .bool false, .map none, .nilFunc, .slice none 0 0] 59 (0, 0)) := ⟨_, rfl⟩
          obtain ⟨u, hu⟩ : ∃ u : Value, u = .pointer (some ⟨wr.heap.size, 0, none⟩) := ⟨_, rfl⟩
          have hbw : Below wr.heap.size wr wI := by rw [hwI]; exact (Below.refl _ _).alloc (Nat.le_refl _) _
          have hU : NilD wI u ∧ (∀ b, u = .pointer (some ⟨b, 0, none⟩) → b ≠ w.heap.size) := by
            rw [hu, hwI]
            refine ⟨.inr ⟨_, rfl, by simp, ?_⟩, fun b e => ?_⟩
            · rw [(Blk.alloc_new wr _ _).cell 3]; rfl
            · injection e with e; injection e with e; injection e with e; omega
          have hBk : Blk wI w.heap.size 44 #[.int .u8 kk, .string s1, .string s2, .string s3, .int .i64 n, .slice kx keep.length kc] := Hbk.out.below hbw
          have hBe : Below w.heap.size w wI := Hbe.out.trans (hbw.mono (by omega))
          rw [← hwI, ← hu]
          clear hbw
        all_goals
          clear hwI hu
          have HBk := Lib.hid hBk
          have HBe := Lib.hid hBe
          have HU := Lib.hid hU
          clear hBk hBe hU Hbk Hbe
          go_loopw [5] (fun v5 wq => ∃ (k : Nat) (kk : Int), v5 = .int .i64 k ∧ k ≤ 12 ∧ Blk wq w.heap.size 44 #[.int .u8 kk, .string s1, .string s2, .string s3, .int .i64 n, .slice kx keep.length kc] ∧ (0 ≤ kk ∧ kk < 256) ∧ Below w.heap.size w wq ∧ NilD wq u) (fun v5 _ => 12 - (intOf v5).toNat)
          case atStart => exact ⟨0, kk, rfl, by omega, HBk.out, Hkk.out, HBe.out, HU.out.1⟩
          case round =>
            obtain ⟨k, kq, rfl, hk, hbk, hkq, hbe, hnil⟩ := hrel
            have hwl2 := hbk.lt
            by_cases hlk : k < 12
            · have e1 : IntKind.u8.wrap (k : Int) = (k : Int) := by rw [IntKind.wrap_u8]; omega
              have c0 := hbk.cell 0
              have f0 := hbk.free 0
              have c1 := hbk.cell 1
              have c2 := hbk.cell 2
              have c3 := hbk.cell 3
              have c4 := hbk.cell 4
              have c5 := hbk.cell 5
              simp at c0 c1 c2 c3 c4 c5
              have hch : Chg (· = w.heap.size) wr (wr.setCell ⟨w.heap.size, 0, none⟩ (.int .u8 k)) := put_wr _ _ _ _
              have Hnil := Lib.hid (hnil.chg hch HU.out.2)
              have Hd := Lib.hid (done_nil Hnil.out (k : Int) ⟨by omega, by omega⟩ s1 s2 s3 n (.slice kx keep.length kc))
              have Hbk := Lib.hid (show Blk (wr.setCell ⟨w.heap.size, 0, none⟩ (.int .u8 k)) w.heap.size 44 #[.int .u8 k, .string s1, .string s2, .string s3, .int .i64 n, .slice kx keep.length kc] from hbk.set 0 (.int .u8 k))
              have Hbe := Lib.hid (hbe.setCell (p := ⟨w.heap.size, 0, none⟩) (Nat.le_refl _) (.int .u8 k))
              clear hbk hbe hnil hch
              go_wp2_with fail
              refine Hd.out.mono ?_
              rintro e w5 ⟨rfl, hb5⟩
              have Hbk5 := Lib.hid (Hbk.out.below hb5)
              have Hbe5 := Lib.hid (Hbe.out.trans (hb5.mono Hbe.out.size))
              have Hnil5 := Lib.hid (Hnil.out.below hb5)
              clear hb5 c0 f0 c1 c2 c3 c4 c5
              go_wp2_with fail
              go_roundw
              case rel => exact ⟨k + 1, k, by go_num, by omega, Hbk5.out, by omega, Hbe5.out, Hnil5.out⟩
              case measure => simp [intOf]; omega
            · have c1 := hbk.cell 1
              simp at c1
              have Hbk := Lib.hid hbk
              have Hbe := Lib.hid hbe
              have Hkq := Lib.hid hkq
              have Hnil := Lib.hid hnil
              clear hbk hbe hkq hnil
              go_wp2_with fail
              refine (read_nil Hnil.out s1).mono ?_
              rintro e w5 ⟨rfl, hb5⟩
              have Hbk5 := Lib.hid (Hbk.out.below hb5)
              have Hbe5 := Lib.hid (Hbe.out.trans (hb5.mono Hbe.out.size))
              have Hnil5 := Lib.hid (Hnil.out.below hb5)
              have g1 := Hbk5.out.cell 1
              simp at g1
              clear hb5 c1
              go_wp2_with fail
              refine (synced_nil Hnil5.out s1).mono ?_
              rintro e w6 ⟨rfl, rfl⟩
              clear g1
              go_wp2_with fail
              refine (names_nil Hnil5.out).mono ?_
              rintro e w6 ⟨rfl, rfl⟩
              go_wp2_with fail
              refine (unsynced_nil Hnil5.out).mono ?_
              rintro e w6 ⟨rfl, rfl⟩
              go_wp2_with fail
              refine (size_nil Hnil5.out).mono ?_
              rintro e w6 ⟨rfl, rfl⟩
              go_wp2_with fail
              refine (up_nil Hnil5.out).mono ?_
              rintro e w6 ⟨rfl, rfl⟩
              go_wp2_with fail
              refine (starts_nil Hnil5.out).mono ?_
              rintro e w6 ⟨rfl, rfl⟩
              go_wp2_with fail
              go_roundw
              case rel => exact ⟨i + 1, kq, by go_num, by omega, Hbk5.out, Hkq.out, Hbe5.out⟩
              case measure => simp [intOf]; omega
      · clear Hbk Hkk
        go_wp2_with fail
        refine (live_new 100 wr (by decide) (by decide)).mono ?_
        rintro e w4 ⟨u, rfl, hl⟩
        obtain ⟨bd, rfl⟩ := hl.ptr
        have HL4 := Lib.hid (show Live _ _ _ _ z0 from hl)
        clear hl
        go_wp2_with fail
        refine (HL4.out.appendP ⟨#[97]⟩ ⟨#[120]⟩ rfl zz (by decide) (by decide)).mono ?_
        rintro e w5 ⟨rfl, hl⟩
        have HL5 := Lib.hid hl
        have HL5z := Lib.hid hl.size
        clear hl HL4
        go_wp2_with fail
        refine HL5.out.names.mono ?_
        rintro e w6 ⟨un, rfl, hun, hb6⟩
        have HL6 := Lib.hid (HL5.out.add hb6)
        rw [zn] at hun
        obtain ⟨nx, nc, hnx, hne⟩ := hun.each
        subst hnx
        have hlen : (strs [[97]]).length = 1 := rfl
        obtain ⟨bn, rfl, hn1, hn2, hn3⟩ := hne 0 (by decide)
        rw [hlen] at hun ⊢
        have Hun := Lib.hid hun
        have Hn := Lib.hid (show (w5.heap.size ≤ bn ∧ bn < w6.heap.size) from ⟨hn1, hn2⟩)
        clear hun hne hn1 hn2 hn3 hlen hb6 HL5
        go_wp2_with fail
        refine HL6.out.unsynced.mono ?_
        rintro e w7 ⟨un2, rfl, hun2, hb7⟩
        have HL7 := Lib.hid (HL6.out.add hb7)
        rw [zu] at hun2
        obtain ⟨nx2, nc2, hnx2, hne2⟩ := ownI_each hun2
        subst hnx2
        have hlen : ([1] : List Int).length = 1 := rfl
        obtain ⟨bm, rfl, hm1, hm2, hm3⟩ := hne2 0 (by decide)
        rw [hlen] at hun2 ⊢
        have Hm := Lib.hid (show (w6.heap.size ≤ bm ∧ bm < w7.heap.size) from ⟨hm1, hm2⟩)
        have hun7 := Hun.out.kept hb7
        obtain ⟨nx3, nc3, hnx3, hne3⟩ := hun7.each
        injection hnx3 with e1 e2 e3
        subst e1 e3
        clear e2
        obtain ⟨bn3, hbn3, hx1, hx2, hn3⟩ := hne3 0 (by decide)
        have hbe : bn = bn3 := by injection hbn3 with q; injection q
        clear hbn3 hx1 hx2
        subst hbe
        have g1 : w7.cell? ⟨bn, 0, none⟩ = some (.string ⟨#[97]⟩) := hn3
        have g2 : w7.cell? ⟨bm, 0, none⟩ = some (.int .i64 1) := hm3
        clear hn3 hm3
        have f1 := ownS_free hun7 rfl 0
        have f2 := ownI_free hun2 rfl 0
        have hneb : bn ≠ bm := by have := Hn.out; have := Hm.out; omega
        clear hun2 hne2 hm1 hm2 hlen hb7 hun7 hne3 HL6 Hun
        go_wp2_with fail
        obtain ⟨w8, hw8⟩ : ∃ w8, w8 = (w7.setCell ⟨bn, 0, none⟩ (.string ⟨#[63]⟩)).setCell ⟨bm, 0, none⟩ (.int .i64 (-9)) := ⟨_, rfl⟩
        have hp1 : wr.heap.size ≤ (Addr.mk bn 0 none).block := by show wr.heap.size ≤ bn; have := HL5z.out; have := Hn.out; omega
        have hp2 : wr.heap.size ≤ (Addr.mk bm 0 none).block := by show wr.heap.size ≤ bm; have := HL5z.out; have := Hn.out; have := Hm.out; omega
        have hl9 := (HL7.out.write (p := ⟨bn, 0, none⟩) (.inl (.inr Hn.out)) hp1 (.string ⟨#[63]⟩)).write (p := ⟨bm, 0, none⟩) (.inr Hm.out) hp2 (.int .i64 (-9))
        rw [← hw8] at hl9
        clear hp1 hp2
        have HL8 := Lib.hid hl9
        rw [← hw8]
        clear hl9 hw8 g1 g2 f1 f2 HL7 Hm Hn hneb
        refine HL8.out.names.mono ?_
        rintro e w9 ⟨un, rfl, hun, hb9⟩
        have HL9 := Lib.hid (HL8.out.keep hb9)
        rw [zn] at hun
        obtain ⟨nx4, nc4, hnx, hne⟩ := hun.each
        subst hnx
        have Hun := Lib.hid (show RdS w9 (.slice nx4 1 nc4) [⟨#[97]⟩] from hun.rd)
        have hlen : (strs [[97]]).length = 1 := rfl
        rw [hlen]
        clear hun hne hlen hb9 HL8
        go_wp2_with fail
        refine (sameTexts_lit [⟨#[97]⟩] rfl (by decide) Hun.out).mono ?_
        rintro e w10 ⟨rfl, hb10⟩
        have HL10 := Lib.hid (HL9.out.keep hb10)
        clear hb10 HL9 Hun
        go_wp2_with fail
        refine HL10.out.unsynced.mono ?_
        rintro e w11 ⟨un2, rfl, hun2, hb11⟩
        have HL11 := Lib.hid (HL10.out.keep hb11)
        rw [zu] at hun2
        obtain ⟨nx5, nc5, rfl⟩ := hun2.shape
        have Hun := Lib.hid hun2
        clear hun2 hb11 HL10
        go_wp2_with fail
        refine (sameInts_lit [1] rfl (by decide) Hun.out.rd).mono ?_
        rintro e w12 ⟨rfl, hb12⟩
        have HL12 := Lib.hid (HL11.out.keep hb12)
        clear hb12 HL11 Hun
        go_wp2_with fail
        refine (does_any _).mono ?_
        rintro e w13 ⟨rfl, hb13⟩
        have HB := Lib.hid ((Hbe.out.trans (HL12.out.below.mono Hbe.out.size)).trans (hb13.mono (Nat.le_trans Hbe.out.size HL12.out.size)))
        clear hb13
        go_wp2_with fail
        go_ret
        exact ⟨rfl, HB.out⟩
end Go.Proofs.Ytnngdflamkdgaaa
