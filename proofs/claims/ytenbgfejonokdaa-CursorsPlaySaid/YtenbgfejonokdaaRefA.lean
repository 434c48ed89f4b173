/- The reference's disk: its struct, its row of files; what it answers without a change. The reference's disk: what it tells. The reference's disk: Size, Names, Unsynced. -/
import Derived.Test.YtenbgfejonokdaaLiveM
import Derived.Deep.RegionHeld3
namespace Go.Proofs.Ytenbgfejonokdaa
open Go.RowKit Go.Maps
open Dsk

/-- Files as cells, three each. -/
def cellsF (m : Files) : List Value := m.flatMap fun p => [.string ⟨p.1.toArray⟩, .string ⟨p.2.data.toArray⟩, .int .i64 p.2.safe]
theorem cellsF_length (m : Files) : (cellsF m).length = m.length * 3 := by
  induction m with
  | nil => rfl
  | cons p r ih => simp only [cellsF, List.flatMap_cons, List.length_append] at ih ⊢; rw [ih]; simp; omega
theorem cellsF_append (a b : Files) : cellsF (a ++ b) = cellsF a ++ cellsF b := by simp [cellsF]
theorem cellsF_get : ∀ (m : Files) (i : Nat) (hi : i < m.length), (cellsF m)[i * 3]? = some (.string ⟨m[i].1.toArray⟩) ∧ (cellsF m)[i * 3 + 1]? = some (.string ⟨m[i].2.data.toArray⟩) ∧ (cellsF m)[i * 3 + 2]? = some (.int .i64 m[i].2.safe)
  | p :: r, 0, _ => ⟨rfl, rfl, rfl⟩
  | p :: r, i + 1, hi => by
    have h := cellsF_get r i (by simpa using hi)
    have e : ∀ k, (cellsF (p :: r))[(i + 1) * 3 + k]? = (cellsF r)[i * 3 + k]? := fun k => by
      rw [show (i + 1) * 3 + k = i * 3 + k + 3 by omega]; rfl
    exact ⟨(e 0).trans h.1, (e 1).trans h.2.1, (e 2).trans h.2.2⟩
/-- A row of files of the disk's own, from block B on. -/
def OwnF (w : World) (B : Nat) (v : Value) (m : Files) : Prop := w.ownsRow B 117 3 v m.length (cellsF m)
theorem OwnF.nil (w : World) (B : Nat) : OwnF w B (.slice none 0 0) [] := World.ownsRow_nil w B _ 3
theorem OwnF.base {w : World} {B B' : Nat} {v : Value} {m : Files} (h : OwnF w B v m) (hB : B' ≤ B) : OwnF w B' v m := by
  obtain ⟨h1, h2⟩ := h
  refine ⟨h1, ?_⟩
  rcases h2 with h2 | ⟨g, cap, cur, hv, hg, r⟩
  · exact .inl h2
  · exact .inr ⟨g, cap, cur, hv, Nat.le_trans hB hg, r⟩
theorem OwnF.chg {S : Nat → Prop} {w w' : World} {B : Nat} {v : Value} {m : Files} (h : OwnF w B v m) (x : Chg S w w') (hS : ∀ k, v.ownBlock = some k → ¬ S k) : OwnF w' B v m := by
  have hlt := World.ownsRow.lt h
  obtain ⟨h1, h2⟩ := h
  refine ⟨h1, ?_⟩
  rcases h2 with h2 | ⟨g, cap, cur, hv, hg, hh, r⟩
  · exact .inl h2
  · refine .inr ⟨g, cap, cur, hv, hg, ?_, r⟩
    have hb : v.ownBlock = some g := by rw [hv]; rfl
    rw [x.block g (hlt g hb).2 (hS g hb), hh]
theorem OwnF.below {w w' : World} {B : Nat} {v : Value} {m : Files} (h : OwnF w B v m) (x : Below w.heap.size w w') : OwnF w' B v m := h.chg (Chg.of_below x) (S := fun _ => False) (fun _ _ e => e)
theorem OwnF.shape {w : World} {B : Nat} {v : Value} {m : Files} (h : OwnF w B v m) : ∃ x c, v = .slice x m.length c ∧ m.length ≤ c := by
  obtain ⟨_, ⟨e, hl⟩ | ⟨g, cap, cur, hv, _, _, hc, _⟩⟩ := h
  · exact ⟨none, 0, by rw [e, hl], by omega⟩
  · exact ⟨_, _, hv, hc⟩
/-- The row's cells, where there is a file. -/
theorem OwnF.at_ {w : World} {B : Nat} {v : Value} {m : Files} (h : OwnF w B v m) (hm : 0 < m.length) : ∃ b c, v = .slice (some ⟨b, 0, none⟩) m.length c ∧ B ≤ b ∧ b < w.heap.size ∧ (∀ j, w.frozen? ⟨b, j, none⟩ = false) ∧
    ∀ i (hi : i < m.length), w.cell? ⟨b, i * 3, none⟩ = some (.string ⟨m[i].1.toArray⟩) ∧ w.cell? ⟨b, i * 3 + 1, none⟩ = some (.string ⟨m[i].2.data.toArray⟩) ∧ w.cell? ⟨b, i * 3 + 2, none⟩ = some (.int .i64 m[i].2.safe) := by
  have hlt := World.ownsRow.lt h
  have hcs := fun g (hg : v.ownBlock = some g) => World.ownsRow.cells h hg
  obtain ⟨h1, h2⟩ := h
  rcases h2 with ⟨rfl, h2⟩ | ⟨g, cap, cur, hv, hg, hh, r⟩
  · omega
  · have hgl := (hlt g (by rw [hv]; rfl)).2
    refine ⟨g, cap, hv, hg, hgl, fun j => by simp [World.frozen?, hh], fun i hi => ?_⟩
    obtain ⟨c0, c1, c2⟩ := cellsF_get m i hi
    have hk := fun j u hj => hcs g (by rw [hv]; rfl) j u hj
    have e : ∀ j, (⟨g, 0, none⟩ : Addr).add j = ⟨g, j, none⟩ := fun j => by unfold Addr.add; split <;> simp_all
    simp only [e] at hk
    exact ⟨hk _ _ c0, hk _ _ c1, hk _ _ c2⟩
/-- The reference's disk in memory: the struct in block br, its row vl, what is kept at a Fail vk, is one set, its counter nf. -/
structure RefIn (w : World) (F : Nat → Prop) (br : Nat) (vl vk : Value) (st : Bool) (nf : Int) (d : Dk) : Prop where
  blk : Blk w br 115 #[.int .i64 d.room, .int .i64 d.starts, .bool d.off, .bool st, vl, .int .i64 nf, vk]
  row : OwnF w 0 vl d.files
  kept : OwnI w 0 vk d.keep
  fr : F br
  fl : ∀ k, vl.ownBlock = some k → F k
  fk : ∀ k, vk.ownBlock = some k → F k
  ok : Ok d
  lt : ∀ k, F k → k < w.heap.size
def RefAt (w : World) (F : Nat → Prop) (v : Value) (d : Dk) : Prop := ∃ br vl vk st nf, v = .pointer (some ⟨br, 0, none⟩) ∧ RefIn w F br vl vk st nf d ∧ st = d.fail.isSome ∧ (∀ n, d.fail = some n → nf = n) ∧ FOk d
/-- Is it the name's place? -/
def Place (m : Files) (name : Str) (r : Int) : Prop := (r = -1 ∧ get m name = none) ∨ ∃ (i : Nat) (hi : i < m.length), r = i ∧ m[i].1 = name
section
variable {w : World} {F : Nat → Prop} {br : Nat} {vl vk : Value} {st : Bool} {nf : Int} {d : Dk}
theorem RefIn.chg (h : RefIn w F br vl vk st nf d) {w' : World} {S : Nat → Prop} (x : Chg S w w') (hS : ∀ k, F k → ¬ S k) : RefIn w' F br vl vk st nf d :=
  ⟨h.blk.chg x (hS _ h.fr), h.row.chg x (fun k e => hS _ (h.fl k e)), h.kept.chg x (fun k e => hS _ (h.fk k e)), h.fr, h.fl, h.fk, h.ok, fun k e => Nat.lt_of_lt_of_le (h.lt k e) x.size⟩
theorem RefIn.below (h : RefIn w F br vl vk st nf d) {w' : World} (x : Below w.heap.size w w') : RefIn w' F br vl vk st nf d := h.chg (Chg.of_below x) (S := fun _ => False) (fun _ _ e => e)
theorem RefAt.below {v : Value} (h : RefAt w F v d) {w' : World} (x : Below w.heap.size w w') : RefAt w' F v d := by
  obtain ⟨br, vl, vk, st, nf, e, h, hf⟩ := h
  exact ⟨br, vl, vk, st, nf, e, h.below x, hf⟩

theorem refBad_any (name : ByteArray) (hn : name.size ≤ maxLen) (w : World) : Calls Try.prog 82 #[.string name] w fun e w' => e = .returned (.bool (!decide (Named name.data.toList))) ∧ w = w' := by
  have hz : name.data.toList.length = name.size := by simp
  have hm : name.size ≤ 9223372036854775807 := by unfold maxLen at hn; omega
  by_cases h1 : name.size < 1
  · have e : decide (Named name.data.toList) = false := decide_eq_false (by unfold Named; omega)
    rw [e]
    have q : decide ((name.size : Int) < 1) = true := decide_eq_true (by omega)
    have q' : decide (name.size < 1) = true := decide_eq_true (by omega)
    clear e hz hn
    go_enter Try.func82, Try.ntmps82
    go_wp2_with fail
    go_ret
    exact ⟨rfl, rfl⟩
  · by_cases h2 : 16 < name.size
    · have e : decide (Named name.data.toList) = false := decide_eq_false (by unfold Named; omega)
      rw [e]
      have q : decide ((name.size : Int) < 1) = false := decide_eq_false (by omega)
      have q' : decide (name.size < 1) = false := decide_eq_false (by omega)
      have q2 : decide ((16 : Int) < (name.size : Int)) = true := decide_eq_true (by omega)
      have q2' : decide (16 < name.size) = true := decide_eq_true (by omega)
      clear e hz hn
      go_enter Try.func82, Try.ntmps82
      go_wp2_with fail
      go_ret
      exact ⟨rfl, rfl⟩
    · have e : decide (Named name.data.toList) = true := decide_eq_true (by unfold Named; omega)
      rw [e]
      have q : decide ((name.size : Int) < 1) = false := decide_eq_false (by omega)
      have q' : decide (name.size < 1) = false := decide_eq_false (by omega)
      have q2 : decide ((16 : Int) < (name.size : Int)) = false := decide_eq_false (by omega)
      have q2' : decide (16 < name.size) = false := decide_eq_false (by omega)
      clear e hz hn
      go_enter Try.func82, Try.ntmps82
      go_wp2_with fail
      go_ret
      exact ⟨rfl, rfl⟩
set_option maxHeartbeats 1000000 in
theorem refPlace_in (h : RefIn w F br vl vk st nf d) (name : ByteArray) :
    Calls Try.prog 83 #[.pointer (some ⟨br, 0, none⟩), .string name] w fun e w' => ∃ r, e = .returned (.int .i64 r) ∧ Place d.files name.data.toList r ∧ w = w' := by
  obtain ⟨x, c, rfl, _⟩ := h.row.shape
  have c4 := h.blk.cell 4
  simp at c4
  have H := Lib.hid h
  have hcnt := h.ok.count
  obtain ⟨m, hm⟩ : ∃ m, m = d.files := ⟨_, rfl⟩
  rw [← hm] at c4 hcnt
  have HM := Lib.hid hm
  rw [← hm]
  clear h hm
  go_enter Try.func83, Try.ntmps83
  go_wp2_with fail
  go_loopw [5] (fun v5 wr => ∃ i : Nat, v5 = .int .i64 i ∧ i ≤ m.length ∧ wr = w ∧ ∀ j (hj : j < m.length), j < i → m[j].1 ≠ name.data.toList) (fun v5 _ => m.length - (intOf v5).toNat)
  case atStart => exact ⟨0, rfl, Nat.zero_le _, rfl, fun _ _ e => absurd e (Nat.not_lt_zero _)⟩
  case round =>
    obtain ⟨i, rfl, hi, rfl, hno⟩ := hrel
    have Hno := Lib.hid hno
    clear hno
    by_cases hlt : i < m.length
    · obtain ⟨b, c', hv, _, hb, _, hcell⟩ := H.out.row.at_ (by rw [← HM.out]; omega)
      injection hv with e1 e2 e3
      subst e1 e3
      have hc0 := (hcell i (by rw [← HM.out]; exact hlt)).1
      obtain ⟨nm, hnm⟩ : ∃ nm : ByteArray, nm = ⟨m[i].1.toArray⟩ := ⟨_, rfl⟩
      have hc : wr.cell? ⟨b, i * 3, none⟩ = some (.string nm) := by rw [hnm]; subst m; exact hc0
      have hi2 : (i : Int) < m.length := by omega
      by_cases he : nm = name
      · have q : (nm.toList == name.toList) = true := by rw [text_beq]; exact decide_eq_true he
        have Hne := Lib.hid (show m[i].1 = name.data.toList by rw [← he, hnm])
        clear hcell hc0 e2 hnm he
        go_wp2_with fail
        go_ret
        exact ⟨i, rfl, .inr ⟨i, hlt, rfl, Hne.out⟩, rfl⟩
      · have q : (nm.toList == name.toList) = false := by rw [text_beq]; exact decide_eq_false he
        have Hne := Lib.hid (show m[i].1 ≠ name.data.toList from fun e => he (by rw [hnm, e]))
        clear hcell hc0 e2 hnm he
        go_wp2_with fail
        go_roundw
        case rel =>
          refine ⟨i + 1, by go_num, by omega, by trivial, fun j hj hji => ?_⟩
          by_cases e : j = i
          · subst e; exact Hne.out
          · exact Hno.out j hj (by omega)
        case measure => simp [intOf]; omega
    · go_wp2_with fail
      go_ret
      refine ⟨-1, rfl, .inl ⟨rfl, ?_⟩, rfl⟩
      cases hg : get m name.data.toList with
      | none => rfl
      | some f =>
        obtain ⟨j, hj, e⟩ := List.getElem_of_mem (get_mem hg)
        exact absurd (by rw [e]) (Hno.out j hj (by omega))
end
end Go.Proofs.Ytenbgfejonokdaa
namespace Go.Proofs.Ytenbgfejonokdaa
open Go.RowKit Go.Maps
open Dsk

theorem place_get {m : Files} (hr : Rising m) {name : Str} {i : Nat} (hi : i < m.length) (e : m[i].1 = name) : get m name = some m[i].2 := by
  refine get_of_mem (rising_apart hr) ?_
  rw [← e]
  exact List.getElem_mem hi
section
variable {w : World} {F : Nat → Prop} {br : Nat} {vl vk : Value} {st : Bool} {nf : Int} {d : Dk}
/-- The cells of the file at place i. -/
theorem RefIn.at_ (h : RefIn w F br vl vk st nf d) {i : Nat} (hi : i < d.files.length) : ∃ b c, vl = .slice (some ⟨b, 0, none⟩) d.files.length c ∧ b < w.heap.size ∧ F b ∧ b ≠ br ∧ (∀ j, w.frozen? ⟨b, j, none⟩ = false) ∧
    w.cell? ⟨b, i * 3, none⟩ = some (.string ⟨d.files[i].1.toArray⟩) ∧ w.cell? ⟨b, i * 3 + 1, none⟩ = some (.string ⟨d.files[i].2.data.toArray⟩) ∧ w.cell? ⟨b, i * 3 + 2, none⟩ = some (.int .i64 d.files[i].2.safe) := by
  obtain ⟨b, c, hv, _, hb, hf, hc⟩ := h.row.at_ (Nat.lt_of_le_of_lt (Nat.zero_le _) hi)
  refine ⟨b, c, hv, hb, h.fl b (by rw [hv]; rfl), fun e => ?_, hf, hc i hi⟩
  subst e
  have h1 := h.row
  have h2 := h.blk
  rw [hv] at h1
  obtain ⟨_, ⟨e, _⟩ | ⟨g, cap, cur, hv', _, hh, _⟩⟩ := h1
  · cases e
  · injection hv' with hv'
    injection hv' with hv'
    injection hv' with hv'
    subst hv'
    unfold Blk at h2
    rw [h2] at hh
    injection hh with hh
    injection hh with _ hh _
    exact absurd hh (by decide)
set_option maxHeartbeats 1000000 in
theorem refAsks_in (h : RefIn w F br vl vk st nf d) (name : ByteArray) :
    Calls Try.prog 119 #[.pointer (some ⟨br, 0, none⟩), .string name] w fun e w' => ∃ r c, e = .returned (.tuple #[.int .i64 r, .int .i64 c]) ∧ w = w' ∧
      ((d.off = true ∧ c = 51) ∨ (d.off = false ∧ c = 4 ∧ get d.files name.data.toList = none) ∨ (d.off = false ∧ c = 0 ∧ ∃ (i : Nat) (hi : i < d.files.length), r = i ∧ d.files[i].1 = name.data.toList)) := by
  have c2 := h.blk.cell 2
  simp at c2
  have Hp := Lib.hid (refPlace_in h name)
  clear h
  by_cases ho : d.off = true
  · have Ho := Lib.hid ho
    rw [ho] at c2
    clear ho
    go_enter Try.func119, Try.ntmps119
    go_wp2_with fail
    go_ret2
    exact ⟨0, 51, rfl, rfl, .inl ⟨Ho.out, rfl⟩⟩
  · rw [Bool.not_eq_true] at ho
    have Ho := Lib.hid ho
    rw [ho] at c2
    clear ho
    go_enter Try.func119, Try.ntmps119
    go_wp2_with fail
    refine Hp.out.mono ?_
    rintro e w1 ⟨r, rfl, hp, rfl⟩
    rcases hp with ⟨rfl, hg⟩ | ⟨i, hi, rfl, he⟩
    · have Hg := Lib.hid hg
      clear hg
      go_wp2_with fail
      go_ret2
      exact ⟨0, 4, rfl, rfl, .inr (.inl ⟨Ho.out, rfl, Hg.out⟩)⟩
    · have Hi := Lib.hid hi
      have He := Lib.hid he
      have q : decide ((i : Int) < 0) = false := decide_eq_false (by omega)
      clear he
      go_wp2_with fail
      go_ret2
      exact ⟨i, 0, rfl, rfl, .inr (.inr ⟨Ho.out, rfl, i, hi, rfl, He.out⟩)⟩
set_option maxHeartbeats 1000000 in
theorem refSynced_in (h : RefIn w F br vl vk st nf d) (name : ByteArray) :
    Calls Try.prog 95 #[.pointer (some ⟨br, 0, none⟩), .string name] w fun e w' => e = .returned (.int .i64 (d.synced name.data.toList)) ∧ w = w' := by
  have c4 := h.blk.cell 4
  simp at c4
  have Hp := Lib.hid (refPlace_in h name)
  have H := Lib.hid h
  clear h
  go_enter Try.func95, Try.ntmps95
  go_wp2_with fail
  refine Hp.out.mono ?_
  rintro e w1 ⟨r, rfl, hp, rfl⟩
  rcases hp with ⟨rfl, hg⟩ | ⟨i, hi, rfl, he⟩
  · have hs : d.synced name.data.toList = 0 := by unfold Dk.synced; rw [hg]
    have Hs := Lib.hid hs
    clear hg hs
    go_wp2_with fail
    go_ret
    exact ⟨by rw [Hs.out]; rfl, rfl⟩
  · have hs : d.synced name.data.toList = d.files[i].2.safe := by unfold Dk.synced; rw [place_get H.out.ok.rising hi he]
    have q : decide ((i : Int) < 0) = false := decide_eq_false (by omega)
    obtain ⟨b, c, rfl, hb, _, _, _, _, _, hc⟩ := H.out.at_ hi
    have hi2 : (i : Int) < d.files.length := by omega
    obtain ⟨s, hss⟩ : ∃ s : Nat, s = d.files[i].2.safe := ⟨_, rfl⟩
    have Hs := Lib.hid (hs.trans hss.symm)
    rw [← hss] at hc
    clear hs hss he
    go_wp2_with fail
    go_ret
    exact ⟨by rw [Hs.out]; rfl, rfl⟩
set_option maxHeartbeats 1000000 in
theorem refRead_in (h : RefIn w F br vl vk st nf d) (name : ByteArray) :
    Calls Try.prog 81 #[.pointer (some ⟨br, 0, none⟩), .string name] w fun e w' => e = .returned (.tuple #[.string ⟨(d.read name.data.toList).1.toArray⟩, .int .i64 (d.read name.data.toList).2]) ∧ w = w' := by
  have c4 := h.blk.cell 4
  simp at c4
  have Hp := Lib.hid (refAsks_in h name)
  have H := Lib.hid h
  clear h
  go_enter Try.func81, Try.ntmps81
  go_wp2_with fail
  refine Hp.out.mono ?_
  rintro e w1 ⟨r, c, rfl, rfl, hp⟩
  rcases hp with ⟨ho, rfl⟩ | ⟨ho, rfl, hg⟩ | ⟨ho, rfl, i, hi, rfl, he⟩
  · have hs : d.read name.data.toList = ([], 51) := by unfold Dk.read; rw [ho]; rfl
    have Hs := Lib.hid hs
    clear hs ho
    go_wp2_with fail
    go_ret2
    exact ⟨by rw [Hs.out]; rfl, rfl⟩
  · have hs : d.read name.data.toList = ([], 4) := by unfold Dk.read; rw [ho, hg]; rfl
    have Hs := Lib.hid hs
    clear hs ho hg
    go_wp2_with fail
    go_ret2
    exact ⟨by rw [Hs.out]; rfl, rfl⟩
  · have hs : d.read name.data.toList = (d.files[i].2.data, 0) := by unfold Dk.read; rw [ho, place_get H.out.ok.rising hi he]; rfl
    obtain ⟨b, c, rfl, hb, _, _, _, _, hc, _⟩ := H.out.at_ hi
    have hi2 : (i : Int) < d.files.length := by omega
    have hi0 : (0 : Int) ≤ (i : Int) := by omega
    obtain ⟨s, hss⟩ : ∃ s : ByteArray, s = ⟨d.files[i].2.data.toArray⟩ := ⟨_, rfl⟩
    have Hs := Lib.hid hs
    have Hss := Lib.hid hss
    rw [← hss] at hc
    clear hs hss he ho
    go_wp2_with fail
    go_ret2
    exact ⟨by rw [Hs.out, Hss.out]; rfl, rfl⟩
end
end Go.Proofs.Ytenbgfejonokdaa
namespace Go.Proofs.Ytenbgfejonokdaa
open Go.RowKit Go.Maps
open Dsk

theorem strs_take_succ (m : Files) (k : Nat) (hk : k < m.length) : (strs (names m)).take (k + 1) = (strs (names m)).take k ++ [⟨m[k].1.toArray⟩] := by
  have h : k < (strs (names m)).length := by simpa [strs, names] using hk
  rw [List.take_succ_eq_append_getElem h, strs_get m k hk h]
/-- 'append(xs, k)' at a step of a region that draws its order. -/
theorem step_append_int {ops : Array Oper} {o : Oper} {a : Act} {K : Act → World → Prop} {Q : Exit → Act → World → Prop} {E : Prop} {w : World} (hgd : o.guard = none) (s x : Operand)
    (ho : o.op = .call { callee := .builtin .append, args := #[s, x], argTypes := #[33, 33] })
    (B : Nat) (v : Value) (l : List Int) (hs : a.eval s = v) (hown : OwnI w B v l) (g : Nat) (hx : a.eval x = .slice (some ⟨g, 0, none⟩) 1 1) (c : Int) (hc : w.cell? ⟨g, 0, none⟩ = some (.int .i64 c))
    (hl : l.length + 1 ≤ 8796093022208) (hB : B ≤ w.heap.size)
    (h : ∀ v' w', OwnI w' B v' (l ++ [c]) → Below B w w' → K (a.put o.dst v') w') : if Region.wanted o (yielded ops a.tmps) = true then Oper.wp Try.prog o a w K Q else E := by
  obtain ⟨i0, hi, hz0, hz1, hz2⟩ := info_parts Try.info_int
  have hw : Region.wanted o (yielded ops a.tmps) = true := by simp [Region.wanted, hgd]
  rw [if_pos hw]
  refine wp_append_own _ s x 33 ho B 3 i0 (.int .i64 0) 1 8 under_ints hi hz0 hz1 hz2 rfl (by decide) v l.length (l.map (Value.int .i64)) hs hown ⟨g, 0, none⟩ 1 1 [.int .i64 c] hx rfl ?_ ?_ ?_ ?_ hB ?_
  · intro j u hj
    match j, hj with
    | 0, hj => simp at hj; subst hj; simpa [Addr.add] using hc
    | (n + 1), hj => simp at hj
  · intro u hu; simp at hu; subst hu; rfl
  · unfold maxLen; omega
  · omega
  · intro v' w' h1 h2 _
    refine h v' w' ?_ (hown.below h2 hB)
    unfold OwnI
    rw [List.length_append, List.map_append]
    exact h1
section
variable {w : World} {F : Nat → Prop} {br : Nat} {vl vk : Value} {st : Bool} {nf : Int} {d : Dk}
set_option maxHeartbeats 1000000 in
theorem refSize_in (h : RefIn w F br vl vk st nf d) : Calls Try.prog 84 #[.pointer (some ⟨br, 0, none⟩)] w fun e w' => e = .returned (.int .i64 (total d.files)) ∧ w = w' := by
  obtain ⟨x, c, rfl, _⟩ := h.row.shape
  have c4 := h.blk.cell 4
  simp at c4
  have hcnt := h.ok.count
  have htot : total d.files ≤ 1048576 := Nat.le_trans h.ok.fits h.ok.room2
  have H := Lib.hid h
  clear h
  go_enter Try.func84, Try.ntmps84
  go_wp2_with fail
  go_loop [3, 4] (fun v3 v4 => ∃ k : Nat, v4 = .int .i64 k ∧ k ≤ d.files.length ∧ v3 = .int .i64 (total (d.files.take k))) (fun _ v4 => d.files.length - (intOf v4).toNat)
  case atStart => exact ⟨0, rfl, Nat.zero_le _, rfl⟩
  case round =>
    obtain ⟨k, rfl, hk, rfl⟩ := hrel
    by_cases hlt : k < d.files.length
    · have ht1 := total_take_succ d.files k hlt
      have ht2 := total_take_le d.files (k + 1)
      obtain ⟨b, c', hv, hb, _, _, _, _, hc, _⟩ := H.out.at_ hlt
      injection hv with e1 e2 e3
      subst e1 e3
      have Ht1 := Lib.hid ht1
      obtain ⟨s, hs⟩ : ∃ s : ByteArray, s = ⟨d.files[k].2.data.toArray⟩ := ⟨_, rfl⟩
      have hsz : d.files[k].2.data.length = s.size := by rw [hs]; rfl
      rw [← hs] at hc
      rw [hsz] at ht1
      have Hsz := Lib.hid hsz
      obtain ⟨T, hT⟩ : ∃ T, total (d.files.take k) = T := ⟨_, rfl⟩
      rw [hT] at ht1 ⊢
      have HT := Lib.hid hT
      have hb2 : T + s.size ≤ 1048576 := by omega
      have hi2 : (k : Int) < d.files.length := by omega
      clear ht1 ht2 hs hsz hT e2
      go_wp2_with fail
      go_round
      case rel => exact ⟨k + 1, by go_num, by omega, by rw [Ht1.out, HT.out, Hsz.out]; go_num⟩
      case measure => simp [intOf]; omega
    · obtain rfl : k = d.files.length := by omega
      rw [List.take_length]
      go_wp2_with fail
      go_ret
      exact ⟨rfl, rfl⟩
set_option maxHeartbeats 1000000 in
theorem refNames_in (h : RefIn w F br vl vk st nf d) : Calls Try.prog 90 #[.pointer (some ⟨br, 0, none⟩)] w fun e w' => ∃ v, e = .returned v ∧ OwnS w' w.heap.size v (strs (names d.files)) ∧ Below w.heap.size w w' := by
  obtain ⟨x, c, rfl, _⟩ := h.row.shape
  have hcnt := h.ok.count
  have H := Lib.hid h
  have hbr := h.blk.lt
  have c4 := h.blk.cell 4
  simp at c4
  clear h
  go_enter Try.func90, Try.ntmps90
  go_wp2_with fail
  go_loopw [3, 4] (fun v3 v4 wr => ∃ k : Nat, v4 = .int .i64 k ∧ k ≤ d.files.length ∧ OwnS wr w.heap.size v3 ((strs (names d.files)).take k) ∧ Below w.heap.size w wr) (fun _ v4 _ => d.files.length - (intOf v4).toNat)
  case atStart => exact ⟨0, rfl, Nat.zero_le _, OwnS.nil _ _, Below.refl _ _⟩
  case round =>
    obtain ⟨k, rfl, hk, hown, hbe⟩ := hrel
    have hr := H.out.below hbe
    have hz := hbe.size
    have c4 := hr.blk.cell 4
    simp at c4
    have Hown := Lib.hid hown
    have Hbe := Lib.hid hbe
    have Hr := Lib.hid hr
    clear hown hbe hr
    by_cases hlt : k < d.files.length
    · obtain ⟨b, c', hv, hb, _, _, _, hc, _, _⟩ := Hr.out.at_ hlt
      injection hv with e1 e2 e3
      subst e1 e3
      obtain ⟨s, hs⟩ : ∃ s : ByteArray, s = ⟨d.files[k].1.toArray⟩ := ⟨_, rfl⟩
      rw [← hs] at hc
      have hi2 : (k : Int) < d.files.length := by omega
      have Hs := Lib.hid (strs_take_succ d.files k hlt)
      rw [← hs] at Hs
      have HL := Lib.hid (show ((strs (names d.files)).take k).length + 1 ≤ 8796093022208 by rw [List.length_take]; omega)
      clear hs e2
      go_wp2_with (at_builtin; refine wpList_append_str rfl (.tmp 14) (.tmp 23) rfl w.heap.size _ _ rfl (Hown.out.alloc _) wr.heap.size rfl s ((Blk.alloc_new wr _ _).cell 0) HL.out (by simp; omega) ?_; intro v2 w2 hown hbel; have Hown2 := Lib.hid hown; have Hbel2 := Lib.hid ((Hbe.out.alloc hz _).trans hbel); clear hown hbel)
      go_roundw
      case rel => exact ⟨k + 1, by go_num, by omega, by rw [Hs.out]; exact Hown2.out, Hbel2.out⟩
      case measure => simp [intOf]; omega
    · obtain rfl : k = d.files.length := by omega
      go_wp2_with fail
      go_ret
      have ho := Hown.out
      rw [List.take_of_length_le (by simp [strs, names])] at ho
      exact ⟨_, rfl, ho, Hbe.out⟩
set_option maxHeartbeats 1000000 in
theorem refUnsynced_in (h : RefIn w F br vl vk st nf d) : Calls Try.prog 93 #[.pointer (some ⟨br, 0, none⟩)] w fun e w' => ∃ v, e = .returned v ∧ OwnI w' w.heap.size v d.unsynced ∧ Below w.heap.size w w' := by
  obtain ⟨x, c, rfl, _⟩ := h.row.shape
  have hcnt := h.ok.count
  have H := Lib.hid h
  have hbr := h.blk.lt
  have c4 := h.blk.cell 4
  simp at c4
  clear h
  go_enter Try.func93, Try.ntmps93
  go_wp2_with fail
  go_loopw [3, 4] (fun v3 v4 wr => ∃ k : Nat, v4 = .int .i64 k ∧ k ≤ d.files.length ∧ OwnI wr w.heap.size v3 (d.unsynced.take k) ∧ Below w.heap.size w wr) (fun _ v4 _ => d.files.length - (intOf v4).toNat)
  case atStart => exact ⟨0, rfl, Nat.zero_le _, OwnI.nil _ _, Below.refl _ _⟩
  case round =>
    obtain ⟨k, rfl, hk, hown, hbe⟩ := hrel
    have hr := H.out.below hbe
    have hz := hbe.size
    have c4 := hr.blk.cell 4
    simp at c4
    have Hown := Lib.hid hown
    have Hbe := Lib.hid hbe
    have Hr := Lib.hid hr
    clear hown hbe hr
    by_cases hlt : k < d.files.length
    · obtain ⟨b, c', hv, hb, _, _, _, _, hc1, hc2⟩ := H.out.at_ hlt
      replace hc1 := (Hbe.out.cell (p := ⟨b, k * 3 + 1, none⟩) hb).trans hc1
      replace hc2 := (Hbe.out.cell (p := ⟨b, k * 3 + 2, none⟩) hb).trans hc2
      injection hv with e1 e2 e3
      subst e1 e3
      have hsf := Hr.out.ok.safe _ (List.getElem_mem hlt)
      have hdl := data_le (List.getElem_mem hlt)
      have hft := Hr.out.ok.fits
      have hr2 := Hr.out.ok.room2
      obtain ⟨s, hs⟩ : ∃ s : ByteArray, s = ⟨d.files[k].2.data.toArray⟩ := ⟨_, rfl⟩
      obtain ⟨n, hn⟩ : ∃ n : Nat, n = d.files[k].2.safe := ⟨_, rfl⟩
      have hsz : d.files[k].2.data.length = s.size := by rw [hs]; rfl
      rw [← hs] at hc1
      rw [← hn] at hc2 hsf
      rw [hsz] at hsf hdl
      have hi2 : (k : Int) < d.files.length := by omega
      have hsb : s.size ≤ 1048576 := by omega
      have hq : IntKind.i64.wrap ((s.size : Int) - n) = (s.size : Int) - n := IntWalk.i64_in _ ⟨by omega, by omega⟩
      have Hs := Lib.hid (unsynced_succ d k hlt)
      rw [hsz, ← hn] at Hs
      have HL := Lib.hid (show (d.unsynced.take k).length + 1 ≤ 8796093022208 by rw [List.length_take]; omega)
      have HC := Lib.hid (show ((wr.alloc (.cells #[.int .i64 ((s.size : Int) - n)] 3 (0, 0))).drew).cell? ⟨wr.heap.size, 0, none⟩ = some (.int .i64 ((s.size : Int) - n)) from (Blk.alloc_new wr 3 #[.int .i64 ((s.size : Int) - n)]).cell 0)
      have HZ := Lib.hid (show w.heap.size ≤ ((wr.alloc (.cells #[.int .i64 ((s.size : Int) - n)] 3 (0, 0))).drew).heap.size by simp; omega)
      clear hs e2 hn hsz hdl hft hr2
      go_wp2_with fail
      go_region_held3 (fun w' => w'.cell? ⟨br, 4, none⟩ = some (.slice (some ⟨b, 0, none⟩) d.files.length c) ∧ w'.cell? ⟨b, k * 3 + 1, none⟩ = some (.string s) ∧ w'.cell? ⟨b, k * 3 + 2, none⟩ = some (.int .i64 n))
        (first | go_keep | ((refine ⟨(hbel.cell (p := ⟨br, 4, none⟩) hbr).trans ?_, (hbel.cell (p := ⟨b, k * 3 + 1, none⟩) hb).trans ?_, (hbel.cell (p := ⟨b, k * 3 + 2, none⟩) hb).trans ?_⟩ <;> go_keep)))
        ((refine step_append_int rfl (.tmp 14) (.tmp 33) rfl w.heap.size _ _ rfl (World.ownsRow.drew (Hown.out.alloc _)) wr.heap.size rfl ((s.size : Int) - n) HC.out HL.out HZ.out ?_; intro v2 w2 hown hbel))
      have Hown2 := Lib.hid hown
      have Hbel2 := Lib.hid (((Hbe.out.alloc hz _).drew).trans hbel)
      clear hown hbel
      go_wp2_with fail
      go_roundw
      case rel => exact ⟨k + 1, by go_num, by omega, by rw [Hs.out]; exact Hown2.out, Hbel2.out⟩
      case measure => simp [intOf]; omega
    · obtain rfl : k = d.files.length := by omega
      go_wp2_with fail
      go_ret
      have ho := Hown.out
      rw [List.take_of_length_le (by simp [Dk.unsynced])] at ho
      exact ⟨_, rfl, ho, Hbe.out⟩
end
end Go.Proofs.Ytenbgfejonokdaa
