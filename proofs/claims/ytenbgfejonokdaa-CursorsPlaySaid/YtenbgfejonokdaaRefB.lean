/- The reference's disk: is a change the one with which it crashes. The reference's disk: Sync, Remove, Start, New. The reference's disk: Sync, Remove, Start, New, Fail. The reference's disk: Fail, Rename. The reference's disk: Append. The reference's disk, made since a world; the program's disk and it beside each other. -/
import Derived.Test.YtenbgfejonokdaaRefDisk6
import Derived.Test.YtenbgfejonokdaaDiskA
import Derived.BigQuiet
import Derived.Test.YtenbgfejonokdaaLiveM
namespace Go.Proofs.Ytenbgfejonokdaa
set_option maxRecDepth 100000
open Go.RowKit Go.Maps
open Dsk

section
variable {w : World} {F : Nat → Prop} {br : Nat} {vl vk : Value} {st : Bool} {nf : Int} {d : Dk}
theorem RefIn.keepR (h : RefIn w F br vl vk st nf d) : KeepR w (fun k => k = br ∨ vl.ownBlock = some k) vk d.keep := by
  have hrd := h.kept.rd
  have hown : ∀ b, vk.ownBlock = some b → b ≠ br ∧ vl.ownBlock ≠ some b := fun b hb => ⟨fun e => (h.kept.ne_blk h.blk) (e ▸ hb), fun e => h.kept.ne_row h.row hb e⟩
  have hnil : ∀ n c, vk = .slice none n c → c = 0 := fun n c e => by
    obtain ⟨_, h2 | ⟨g, cap, cur, hv, _⟩⟩ := h.kept
    · rw [h2.1] at e; cases e; rfl
    · rw [hv] at e; cases e
  rcases hrd with ⟨c, e, hl⟩ | ⟨b, off, c, e, hb, hc⟩
  · exact ⟨none, c, by rw [e, hl]; rfl, fun _ => hnil _ _ e, fun j hj => absurd hj (by rw [hl]; simp)⟩
  · refine ⟨some ⟨b, off, none⟩, c, e, fun e => (by cases e), fun j hj => ⟨b, off, rfl, hb, ?_, hc j hj⟩⟩
    have := hown b (by rw [e]; rfl)
    exact fun x => x.elim this.1 this.2
theorem refLast_in (h : RefIn w F br vl vk st nf d) (hn : st = true → 0 ≤ nf ∧ nf ≤ 9223372036854775807) :
    Calls Try.prog 86 #[.pointer (some ⟨br, 0, none⟩)] w fun e w' => e = .returned (.bool (st && decide (nf ≤ 0))) ∧ RefIn w' F br vl vk st (if st then nf - 1 else nf) d ∧ Chg (· = br) w w' := by
  have c3 := h.blk.cell 3
  have c5 := h.blk.cell 5
  have f5 := h.blk.free 5
  simp at c3 c5
  have H := Lib.hid h
  cases st with
  | false =>
    clear h hn
    go_enter Try.func86, Try.ntmps86
    go_wp2_with fail
    go_ret
    exact ⟨rfl, H.out, Chg.refl _ _⟩
  | true =>
    obtain ⟨hn1, hn2⟩ := hn rfl
    have hx : Chg (· = br) w (w.setCell ⟨br, 5, none⟩ (.int .i64 (nf - 1))) := put_wr w br 5 _
    have Hx := Lib.hid hx
    have Hb := Lib.hid (show Blk (w.setCell ⟨br, 5, none⟩ (.int .i64 (nf - 1))) br 115 #[.int .i64 d.room, .int .i64 d.starts, .bool d.off, .bool true, vl, .int .i64 (nf - 1), vk] from h.blk.set 5 _)
    have Hr := Lib.hid (h.row.chg hx (fun k e x => h.row.ne_blk h.blk (x ▸ e)))
    have Hk := Lib.hid (h.kept.chg hx (fun k e x => h.kept.ne_blk h.blk (x ▸ e)))
    have hq : IntKind.i64.wrap (nf - 1) = nf - 1 := IntWalk.i64_in _ ⟨by omega, by omega⟩
    have hd : decide (nf - 1 < 0) = decide (nf ≤ 0) := decide_eq_decide.2 (by omega)
    have Hd := Lib.hid hd
    clear h hn hx hd
    go_enter Try.func86, Try.ntmps86
    go_wp2_with fail
    go_ret
    refine ⟨?_, ⟨Hb.out, Hr.out, Hk.out, H.out.fr, H.out.fl, H.out.fk, H.out.ok, fun k e => Nat.lt_of_lt_of_le (H.out.lt k e) Hx.out.size⟩, Hx.out⟩
    rw [← Hd.out]; rfl
set_option maxHeartbeats 1000000 in
theorem refChanges_at {v : Value} (h : RefAt w F v d) (hoff : d.off = false) :
    Calls Try.prog 120 #[v] w fun e w' => Chg F w w' ∧ ((∃ n, d.fail = some n ∧ n ≤ 0 ∧ e = .returned (.int .i64 51) ∧ RefAt w' F v (d.crashed d.keep)) ∨ ((∀ n, d.fail = some n → 0 < n) ∧ e = .returned (.int .i64 0) ∧ RefAt w' F v (Dk.ticked d))) := by
  obtain ⟨br, vl, vk, st, nf, rfl, hi, hst, hnf, hf⟩ := h
  have hrange : st = true → 0 ≤ nf ∧ nf ≤ 9223372036854775807 := fun e => by
    rw [hst] at e
    obtain ⟨n, hn⟩ := Option.isSome_iff_exists.1 e
    rw [hnf n hn]
    exact hf n hn
  have hl := refLast_in hi hrange
  have Hl := Lib.hid hl
  have HI := Lib.hid hi
  have Hst := Lib.hid hst
  have Hnf := Lib.hid hnf
  have Hf := Lib.hid hf
  have Hr := Lib.hid hrange
  clear hi hst hnf hf hl hrange
  cases hb : (st && decide (nf ≤ 0)) with
  | true =>
    rw [hb] at Hl
    obtain ⟨h1, h2⟩ := Bool.and_eq_true_iff.1 hb
    subst h1
    have h2 := of_decide_eq_true h2
    obtain ⟨n, hn⟩ := Option.isSome_iff_exists.1 Hst.out.symm
    have hnn := Hnf.out n hn
    have Hn := Lib.hid hn
    have H2 := Lib.hid h2
    have Hnn := Lib.hid hnn
    clear hb h2 hn hnn
    go_enter Try.func120, Try.ntmps120
    go_wp2_with fail
    refine Hl.out.mono ?_
    rintro e w1 ⟨rfl, hi1, hc1⟩
    have c6 := hi1.blk.cell 6
    simp at c6
    have Hcr := Lib.hid (refCrash_on hi1 hoff vk d.keep hi1.keepR (by have := hi1.ok.keep; omega))
    have HI1 := Lib.hid hi1
    have HC1 := Lib.hid hc1
    clear hi1 hc1
    go_wp2_with fail
    refine Hcr.out.mono ?_
    rintro e w2 ⟨rfl, hi2, hc2⟩
    have HI2 := Lib.hid hi2
    have HC2 := Lib.hid (show Chg F w w2 from (HC1.out.mono fun k _ e => by rw [e]; exact HI.out.fr).trans (hc2.mono fun k _ e => e.elim (fun e => by rw [e]; exact HI.out.fr) (fun e => HI.out.fl k e)))
    clear hi2 hc2 c6
    go_wp2_with fail
    go_ret
    exact ⟨HC2.out, .inl ⟨n, Hn.out, by rw [← Hnn.out]; exact H2.out, rfl, br, vl, vk, false, _, rfl, HI2.out, rfl, fun _ e => (by cases e), fun _ e => (by cases e)⟩⟩
  | false =>
    rw [hb] at Hl
    have Hb := Lib.hid hb
    clear hb
    go_enter Try.func120, Try.ntmps120
    go_wp2_with fail
    refine Hl.out.mono ?_
    rintro e w1 ⟨rfl, hi1, hc1⟩
    have HI1 := Lib.hid hi1
    have HC1 := Lib.hid (show Chg F w w1 from hc1.mono fun k _ e => by rw [e]; exact HI.out.fr)
    clear hi1 hc1
    go_wp2_with fail
    go_ret
    refine ⟨HC1.out, .inr ⟨fun n hn => ?_, rfl, ?_⟩⟩
    · have hst := Hst.out
      rw [hn] at hst
      have hb := Hb.out
      rw [hst] at hb
      have := Hnf.out n hn
      simp at hb
      omega
    · cases hfl : d.fail with
      | none =>
        have hst := Hst.out
        rw [hfl] at hst
        have hst2 : st = false := by simpa using hst
        have hi := HI1.out
        rw [hst2] at hi
        refine ⟨br, vl, vk, false, nf, rfl, ?_, ?_, fun n hn => ?_, ?_⟩
        · unfold Dk.ticked; rw [hfl]; exact hi
        · unfold Dk.ticked; rw [hfl, hfl]; rfl
        · unfold Dk.ticked at hn; rw [hfl] at hn; simp only at hn; rw [hfl] at hn; cases hn
        · unfold Dk.ticked; rw [hfl]; exact Hf.out
      | some n =>
        have hst := Hst.out
        rw [hfl] at hst
        have hst2 : st = true := by simpa using hst
        have hnn := Hnf.out n hfl
        have hpos : 0 < n := by
          have hb := Hb.out
          rw [hst2, hnn] at hb
          simp at hb
          omega
        have hi := HI1.out
        rw [hst2, hnn] at hi
        have hfo := Hf.out n hfl
        refine ⟨br, vl, vk, true, n - 1, rfl, ?_, ?_, fun m hm => ?_, fun m hm => ?_⟩
        · unfold Dk.ticked; rw [hfl]
          exact ⟨hi.blk, hi.row, hi.kept, hi.fr, hi.fl, hi.fk, ⟨hi.ok.room1, hi.ok.room2, hi.ok.rising, hi.ok.named, hi.ok.safe, hi.ok.count, hi.ok.fits, hi.ok.starts, hi.ok.keep⟩, hi.lt⟩
        · unfold Dk.ticked; rw [hfl]; rfl
        · unfold Dk.ticked at hm; rw [hfl] at hm; simp only [Option.some.injEq] at hm; exact hm
        · unfold Dk.ticked at hm; rw [hfl] at hm; simp only [Option.some.injEq] at hm; omega
end
end Go.Proofs.Ytenbgfejonokdaa
namespace Go.Proofs.Ytenbgfejonokdaa
set_option maxRecDepth 100000
open Go.RowKit Go.Maps
open Dsk

theorem parts {m : Files} {i : Nat} (hi : i < m.length) : m = m.take i ++ (m[i].1, m[i].2) :: m.drop (i + 1) := by
  have h := List.take_append_drop i m
  rw [List.drop_eq_getElem_cons hi] at h
  exact h.symm
theorem set_put {m : Files} (hr : Rising m) {i : Nat} (hi : i < m.length) {name : Str} (e : m[i].1 = name) (g : Fl) : m.set i (m[i].1, g) = put m name g := by
  have h := parts hi
  have hl : (m.take i).length = i := by rw [List.length_take]; omega
  have h2 : put (m.take i ++ (m[i].1, m[i].2) :: m.drop (i + 1)) m[i].1 g = m.take i ++ (m[i].1, g) :: m.drop (i + 1) := put_mid (by rw [← h]; exact hr)
  rw [← h] at h2
  rw [← e, h2, List.set_eq_take_append_cons_drop, if_pos hi]
theorem cut_del {m : Files} (hr : Rising m) {i : Nat} (hi : i < m.length) {name : Str} (e : m[i].1 = name) : m.take i ++ m.drop (i + 1) = del m name := by
  have h := parts hi
  have hp : Rising (m.take i ++ (m[i].1, m[i].2) :: m.drop (i + 1)) := by rw [← h]; exact hr
  have h2 := List.pairwise_append.1 hp
  have h3 := List.pairwise_cons.1 h2.2.1
  have e1 : del (m.take i) name = m.take i := List.filter_eq_self.2 fun p hq => by
    have := before_ne (h2.2.2 p hq _ (List.mem_cons_self ..))
    rw [e] at this
    simpa using this
  have e2 : del (m.drop (i + 1)) name = m.drop (i + 1) := List.filter_eq_self.2 fun p hq => by
    have := before_ne (h3.1 p hq)
    rw [e] at this
    simpa using Ne.symm this
  have e3 : del m name = del (m.take i ++ (m[i].1, m[i].2) :: m.drop (i + 1)) name := by rw [← h]
  have e4 : del (m.take i ++ (m[i].1, m[i].2) :: m.drop (i + 1)) name = del (m.take i) name ++ del (m.drop (i + 1)) name := by
    unfold del
    rw [List.filter_append, List.filter_cons_of_neg (by simp [e])]
  rw [e3, e4, e1, e2]
theorem del_ins_same (k : Str) (f : Fl) : ∀ m : Files, del (ins (k, f) m) k = del m k
  | [] => by simp [ins, del]
  | y :: r => by
    unfold ins
    split
    · simp [del]
    · have ih := del_ins_same k f r
      unfold del at ih ⊢
      rw [List.filter_cons, List.filter_cons, ih]
theorem put_put (m : Files) (k : Str) (f g : Fl) : put (put m k f) k g = put m k g := by
  have h : del (del m k) k = del m k := by unfold del; rw [List.filter_filter]; simp
  unfold put
  rw [del_ins_same, h]

theorem set_there {α : Type} {l : List α} {i : Nat} {x : α} (h : l[i]? = some x) : l.set i x = l := by
  obtain ⟨hi, rfl⟩ := List.getElem?_eq_some_iff.1 h
  exact List.set_getElem_self hi

/-- What an act of the reference's disk leaves. -/
def DidR (w : World) (F : Nat → Prop) (v : Value) (x : Int × Dk) (r : Int) (w' : World) : Prop := r = x.1 ∧ ∃ F', RefAt w' F' v x.2 ∧ Grow F F' w w'
section
variable {w : World} {F : Nat → Prop} {br : Nat} {vl vk : Value} {st : Bool} {nf : Int} {d : Dk}
theorem RefAt.ok {v : Value} (h : RefAt w F v d) : Ok d := by obtain ⟨_, _, _, _, _, _, h, _⟩ := h; exact h.ok
theorem RefAt.lt {v : Value} (h : RefAt w F v d) : ∀ k, F k → k < w.heap.size := by obtain ⟨_, _, _, _, _, _, h, _⟩ := h; exact h.lt
theorem DidR.same {v : Value} (h : RefAt w F v d) {w' : World} (hb : Below w.heap.size w w') (r : Int) : DidR w F v (r, d) r w' := ⟨rfl, F, h.below hb, Grow.same hb⟩
/-- Another row in the disk's struct. -/
theorem RefIn.newRow (h : RefIn w F br vl vk st nf d) {w' : World} {vl' : Value} {m : Files} (ho : OwnF w' w.heap.size vl' m)
    (hb : Blk w' br 115 #[.int .i64 d.room, .int .i64 d.starts, .bool d.off, .bool st, vl', .int .i64 nf, vk]) (hc : Chg (· = br) w w') (hok : Ok { d with files := m }) :
    RefIn w' (fun k => F k ∨ vl'.ownBlock = some k) br vl' vk st nf { d with files := m } ∧ Grow F (fun k => F k ∨ vl'.ownBlock = some k) w w' := by
  have hlt := World.ownsRow.lt ho
  refine ⟨⟨hb, ho.base (Nat.zero_le _), h.kept.chg hc (fun k e x => h.kept.ne_blk h.blk (x ▸ e)), .inl h.fr, fun k e => .inr e, fun k e => .inl (h.fk k e), hok, fun k e => ?_⟩, hc.mono fun k _ e => e ▸ h.fr, fun k e => ?_⟩
  · rcases e with e | e
    · exact Nat.lt_of_lt_of_le (h.lt k e) hc.size
    · exact (hlt k e).2
  · rcases e with e | e
    · exact .inl e
    · exact .inr (hlt k e).1
/-- The same row with another file's datum. -/
theorem RefIn.oneRow (h : RefIn w F br vl vk st nf d) {w' : World} {m : Files} (ho : OwnF w' 0 vl m) (hc : Chg (fun k => vl.ownBlock = some k) w w') (hok : Ok { d with files := m }) :
    RefIn w' F br vl vk st nf { d with files := m } :=
  ⟨h.blk.chg hc (h.row.ne_blk h.blk), ho, h.kept.chg hc (fun _ e x => h.kept.ne_row h.row e x), h.fr, h.fl, h.fk, hok, fun k e => Nat.lt_of_lt_of_le (h.lt k e) hc.size⟩
theorem OwnF.one2 {b n c : Nat} {B : Nat} {m : Files} (h : OwnF w B (.slice (some ⟨b, 0, none⟩) n c) m) {w1 : World} (hw : Below w.heap.size w w1) {i : Nat} (hi : i < m.length) (t : Nat) :
    OwnF (w1.setCell ⟨b, i * 3 + 2, none⟩ (.int .i64 t)) B (.slice (some ⟨b, 0, none⟩) n c) (m.set i (m[i].1, ⟨m[i].2.data, t⟩)) ∧ Chg (fun k => (Value.slice (some ⟨b, 0, none⟩) n c).ownBlock = some k) w (w1.setCell ⟨b, i * 3 + 2, none⟩ (.int .i64 t)) := by
  obtain ⟨_, _, hv, _⟩ := h.shape
  injection hv with _ hn _
  subst hn
  have h1 := h.below hw
  have h3 := World.ownsRow.stored h1 (i * 3 + 2) (.int .i64 t)
  have e : (cellsF m).set (i * 3 + 2) (.int .i64 t) = cellsF (m.set i (m[i].1, ⟨m[i].2.data, t⟩)) := by
    have := cellsF_set m i hi ⟨m[i].2.data.toArray⟩ t
    rwa [set_there (cellsF_get m i hi).2.1] at this
  rw [e] at h3
  refine ⟨?_, (Chg.of_below hw).trans ((Chg.grown h3.2).mono fun k _ e => by rw [e]; rfl)⟩
  unfold OwnF
  rw [List.length_set]
  exact h3.1
end
end Go.Proofs.Ytenbgfejonokdaa
namespace Go.Proofs.Ytenbgfejonokdaa
set_option maxRecDepth 100000
open Go.RowKit Go.Maps
open Dsk

theorem ticked_ok {d : Dk} (h : Ok d) : Ok (Dk.ticked d) := by
  unfold Dk.ticked
  split
  · exact h
  · exact ⟨h.room1, h.room2, h.rising, h.named, h.safe, h.count, h.fits, h.starts, h.keep⟩
section
variable {w : World} {F : Nat → Prop} {br : Nat} {vl vk : Value} {st : Bool} {nf : Int} {d : Dk}
theorem RefAt.open_ {b : Nat} (h : RefAt w F (.pointer (some ⟨b, 0, none⟩)) d) : ∃ vl vk st nf, RefIn w F b vl vk st nf d ∧ st = d.fail.isSome ∧ (∀ n, d.fail = some n → nf = n) ∧ FOk d := by
  obtain ⟨br, vl, vk, st, nf, e, h⟩ := h
  injection e with e
  injection e with e
  injection e with e
  subst e
  exact ⟨vl, vk, st, nf, h⟩
theorem RefAt.ptr {v : Value} (h : RefAt w F v d) : ∃ br, v = .pointer (some ⟨br, 0, none⟩) := by obtain ⟨br, _, _, _, _, e, _⟩ := h; exact ⟨br, e⟩
theorem RefIn.atm (h : RefIn w F br vl vk st nf d) {m : Files} (e : d.files = m) {i : Nat} (hi : i < m.length) : ∃ b c, vl = .slice (some ⟨b, 0, none⟩) m.length c ∧ b < w.heap.size ∧ F b ∧ b ≠ br ∧ (∀ j, w.frozen? ⟨b, j, none⟩ = false) ∧
    w.cell? ⟨b, i * 3, none⟩ = some (.string ⟨m[i].1.toArray⟩) ∧ w.cell? ⟨b, i * 3 + 1, none⟩ = some (.string ⟨m[i].2.data.toArray⟩) ∧ w.cell? ⟨b, i * 3 + 2, none⟩ = some (.int .i64 m[i].2.safe) ∧ OwnF w 0 vl m := by
  subst e
  obtain ⟨b, c, h1, h2, h3, h4, h5, h6, h7, h8⟩ := h.at_ hi
  exact ⟨b, c, h1, h2, h3, h4, h5, h6, h7, h8, h.row⟩
theorem RefIn.cutm (h : RefIn w F br vl vk st nf d) {m : Files} (e : d.files = m) {i : Nat} (hi : i < m.length) {name : Str} (he : m[i].1 = name) : Calls Try.prog 121 #[.pointer (some ⟨br, 0, none⟩), .int .i64 i] w fun e w' => e = .returned (.tuple #[]) ∧ ∃ vl', OwnF w' w.heap.size vl' (del m name) ∧
      Blk w' br 115 #[.int .i64 d.room, .int .i64 d.starts, .bool d.off, .bool st, vl', .int .i64 nf, vk] ∧ Chg (· = br) w w' := by
  subst e
  rw [← cut_del h.ok.rising hi he]
  exact refCut_in h i hi
theorem get_at {m : Files} {name : Str} {i : Nat} (hr : Rising m) (hi : i < m.length) (e : m[i].1 = name) : get m name = some m[i].2 := place_get hr hi e
set_option maxHeartbeats 2000000 in
theorem refSync_at {v : Value} (h : RefAt w F v d) (name : ByteArray) :
    Calls Try.prog 88 #[v, .string name] w fun e w' => ∃ r, e = .returned (.int .i64 r) ∧ DidR w F v (d.sync name.data.toList) r w' := by
  have Hat := Lib.hid h
  obtain ⟨br, rfl⟩ := h.ptr
  obtain ⟨vl, vk, st, nf, hi, hrest⟩ := h.open_
  have Ha := Lib.hid (refAsks_in hi name)
  clear hi hrest h
  go_enter Try.func88, Try.ntmps88
  go_wp2_with fail
  refine Ha.out.mono ?_
  rintro e w1 ⟨r, c, rfl, rfl, hh⟩
  clear Ha
  rcases hh with ⟨ho, rfl⟩ | ⟨ho, rfl, hg⟩ | ⟨ho, rfl, i, hi, rfl, he⟩
  · have Ho := Lib.hid ho
    clear ho
    go_wp2_with fail
    go_ret
    refine ⟨51, rfl, ?_⟩
    unfold Dk.sync
    rw [if_pos Ho.out]
    exact DidR.same Hat.out (Below.refl _ _) _
  · have Ho := Lib.hid ho
    have Hg := Lib.hid hg
    clear ho hg
    go_wp2_with fail
    go_ret
    refine ⟨4, rfl, ?_⟩
    unfold Dk.sync
    rw [if_neg (by rw [Ho.out]; decide), Hg.out]
    exact DidR.same Hat.out (Below.refl _ _) _
  · have Hch := Lib.hid (refChanges_at Hat.out ho)
    have Heq := Lib.hid (show d.sync name.data.toList = d.change (put d.files name.data.toList ⟨d.files[i].2.data, d.files[i].2.data.length⟩) by
      unfold Dk.sync; rw [if_neg (by rw [ho]; decide), get_at Hat.out.ok.rising hi he])
    have Hok := Lib.hid (show Ok (d.sync name.data.toList).2 from Hat.out.ok.sync _)
    have He := Lib.hid he
    have Hi := Lib.hid hi
    clear ho he
    go_wp2_with fail
    refine Hch.out.mono ?_
    rintro e w2 ⟨hc2, ⟨n, hn, hn0, rfl, hat2⟩ | ⟨hpos, rfl, hat2⟩⟩
    · have H2 := Lib.hid (show DidR w F (.pointer (some ⟨br, 0, none⟩)) (d.sync name.data.toList) 51 w2 from by
        rw [Heq.out, change_crash hn hn0]; exact ⟨rfl, F, hat2, hc2, fun _ e => .inl e⟩)
      clear hc2 hn hn0 hat2
      go_wp2_with fail
      go_ret
      exact ⟨51, rfl, H2.out⟩
    · obtain ⟨vl2, vk2, st2, nf2, hi2, hf2⟩ := hat2.open_
      obtain ⟨b, c, rfl, hb, hFb, hne, hfr, _, hc, _, hrow⟩ := hi2.atm (ticked_files d) hi
      have hds : d.files[i].2.data.length ≤ 1048576 := Nat.le_trans (data_le (List.getElem_mem hi)) (Nat.le_trans Hat.out.ok.fits Hat.out.ok.room2)
      obtain ⟨s, hs⟩ : ∃ s : ByteArray, s = ⟨d.files[i].2.data.toArray⟩ := ⟨_, rfl⟩
      have hsz : d.files[i].2.data.length = s.size := by rw [hs]; rfl
      replace hc : w2.cell? ⟨b, i * 3 + 1, none⟩ = some (.string s) := by rw [hs]; exact hc
      have c4 := hi2.blk.cell 4
      simp at c4
      have f2 := hfr (i * 3 + 2)
      have hbr := hi2.blk.lt
      have hsb : s.size ≤ 1048576 := by omega
      have hi4 : (i : Int) < d.files.length := by omega
      have HI2 := Lib.hid hi2
      have Hrow := Lib.hid hrow
      have HF2 := Lib.hid hf2
      have HC2 := Lib.hid hc2
      have Hpos := Lib.hid hpos
      have Hsz := Lib.hid hsz
      clear hrow hi2 hf2 hc2 hat2 hpos hfr hs hsz hds
      go_wp2_with fail
      refine wp_region_ext_tail 16 (by kernel_rfl) (by kernel_rfl) fun K hK => ?_
      simp only [List.take_succ_cons, List.take_zero]
      repeat (go_big_quiet_step (fail))
      refine wpQuiet_nil (hK _ fun x => ?_)
      clear hK K
      simp only [List.drop_succ_cons, List.drop_zero]
      have fx := (x.le.frozen (p := ⟨b, i * 3 + 2, none⟩) hb).trans f2
      have Hx := Lib.hid x.le
      go_wp2_with fail
      go_ret
      have ho := OwnF.one2 Hrow.out Hx.out Hi.out s.size
      rw [← Hsz.out, set_put Hat.out.ok.rising Hi.out He.out] at ho
      have hok := Hok.out
      rw [Heq.out, change_made Hpos.out] at hok
      have hfin := HI2.out.oneRow ho.1 ho.2 hok
      refine ⟨0, rfl, ?_⟩
      rw [Heq.out, change_made Hpos.out]
      rw [← Hsz.out]
      refine ⟨rfl, F, ⟨br, _, vk2, st2, nf2, rfl, hfin, HF2.out⟩, HC2.out.trans (ho.2.mono fun k _ e => HI2.out.fl k e), fun _ e => .inl e⟩
set_option maxHeartbeats 2000000 in
theorem refRemove_at {v : Value} (h : RefAt w F v d) (name : ByteArray) :
    Calls Try.prog 87 #[v, .string name] w fun e w' => ∃ r, e = .returned (.int .i64 r) ∧ DidR w F v (d.remove name.data.toList) r w' := by
  have Hat := Lib.hid h
  obtain ⟨br, rfl⟩ := h.ptr
  obtain ⟨vl, vk, st, nf, hi, hrest⟩ := h.open_
  have Ha := Lib.hid (refAsks_in hi name)
  clear hi hrest h
  go_enter Try.func87, Try.ntmps87
  go_wp2_with fail
  refine Ha.out.mono ?_
  rintro e w1 ⟨r, c, rfl, rfl, hh⟩
  clear Ha
  rcases hh with ⟨ho, rfl⟩ | ⟨ho, rfl, hg⟩ | ⟨ho, rfl, i, hi, rfl, he⟩
  · have Ho := Lib.hid ho
    clear ho
    go_wp2_with fail
    go_ret
    refine ⟨51, rfl, ?_⟩
    unfold Dk.remove
    rw [if_pos Ho.out]
    exact DidR.same Hat.out (Below.refl _ _) _
  · have Ho := Lib.hid ho
    have Hg := Lib.hid hg
    clear ho hg
    go_wp2_with fail
    go_ret
    refine ⟨4, rfl, ?_⟩
    unfold Dk.remove
    rw [if_neg (by rw [Ho.out]; decide), Hg.out]
    exact DidR.same Hat.out (Below.refl _ _) _
  · have Hch := Lib.hid (refChanges_at Hat.out ho)
    have Heq := Lib.hid (show d.remove name.data.toList = d.change (del d.files name.data.toList) by
      unfold Dk.remove; rw [if_neg (by rw [ho]; decide), get_at Hat.out.ok.rising hi he])
    have Hok := Lib.hid (show Ok (d.remove name.data.toList).2 from Hat.out.ok.remove _)
    have He := Lib.hid he
    have Hi := Lib.hid hi
    clear ho he
    go_wp2_with fail
    refine Hch.out.mono ?_
    rintro e w2 ⟨hc2, ⟨n, hn, hn0, rfl, hat2⟩ | ⟨hpos, rfl, hat2⟩⟩
    · have H2 := Lib.hid (show DidR w F (.pointer (some ⟨br, 0, none⟩)) (d.remove name.data.toList) 51 w2 from by
        rw [Heq.out, change_crash hn hn0]; exact ⟨rfl, F, hat2, hc2, fun _ e => .inl e⟩)
      clear hc2 hn hn0 hat2
      go_wp2_with fail
      go_ret
      exact ⟨51, rfl, H2.out⟩
    · obtain ⟨vl2, vk2, st2, nf2, hi2, hf2⟩ := hat2.open_
      have Hcut := Lib.hid (hi2.cutm (ticked_files d) hi (by exact He.out))
      have HI2 := Lib.hid hi2
      have HF2 := Lib.hid hf2
      have HC2 := Lib.hid hc2
      have Hpos := Lib.hid hpos
      clear hi2 hf2 hc2 hat2 hpos
      go_wp2_with fail
      refine Hcut.out.mono ?_
      rintro e w3 ⟨rfl, vl3, ho3, hb3, hc3⟩
      have hok := Hok.out
      rw [Heq.out, change_made Hpos.out] at hok
      have H3 := Lib.hid (HI2.out.newRow ho3 hb3 hc3 hok)
      clear ho3 hb3 hc3 hok Hcut
      go_wp2_with fail
      go_ret
      refine ⟨0, rfl, ?_⟩
      rw [Heq.out, change_made Hpos.out]
      refine ⟨rfl, _, ⟨br, _, vk2, st2, nf2, rfl, H3.out.1, HF2.out⟩, Grow.trans ⟨HC2.out, fun _ e => .inl e⟩ H3.out.2⟩
theorem refStart_at {v : Value} (h : RefAt w F v d) :
    Calls Try.prog 35 #[v] w fun e w' => ∃ r, e = .returned (.int .i64 r) ∧ DidR w F v d.start r w' := by
  have Hat := Lib.hid h
  obtain ⟨br, rfl⟩ := h.ptr
  obtain ⟨vl, vk, st, nf, hi, hrest⟩ := h.open_
  have c1 := hi.blk.cell 1
  have c2 := hi.blk.cell 2
  have f1 := hi.blk.free 1
  have f2 := hi.blk.free 2
  simp at c1 c2
  have HI := Lib.hid hi
  have HR := Lib.hid hrest
  clear hi hrest h
  cases ho : d.off with
  | false =>
    rw [ho] at c2
    have Ho := Lib.hid ho
    clear ho
    go_enter Try.func35, Try.ntmps35
    go_wp2_with fail
    go_ret
    refine ⟨2, rfl, ?_⟩
    unfold Dk.start
    rw [if_neg (by rw [Ho.out]; decide)]
    exact DidR.same Hat.out (Below.refl _ _) _
  | true =>
    rw [ho] at c2
    have Ho := Lib.hid ho
    clear ho
    go_enter Try.func35, Try.ntmps35
    go_wp2_with fail
    go_ret
    refine ⟨0, rfl, ?_⟩
    have hok := HI.out.ok.start
    unfold Dk.start at hok ⊢
    rw [if_pos Ho.out] at hok ⊢
    have ew : wrap64 (d.starts + 1) = IntKind.i64.wrap (d.starts + 1) := by unfold wrap64; rw [IntKind.wrap_i64]
    rw [ew]
    have hch : Chg (· = br) w _ := (put_wr w br 2 (.bool false)).trans (put_wr _ br 1 (.int .i64 (IntKind.i64.wrap (d.starts + 1))))
    have hb := (HI.out.blk.set 2 (.bool false)).set 1 (.int .i64 (IntKind.i64.wrap (d.starts + 1)))
    refine ⟨rfl, F, ⟨br, vl, vk, st, nf, rfl, ⟨hb, HI.out.row.chg hch (fun k e x => HI.out.row.ne_blk HI.out.blk (show _ = some br from by rw [e]; exact congrArg some x)), HI.out.kept.chg hch (fun k e x => HI.out.kept.ne_blk HI.out.blk (show _ = some br from by rw [e]; exact congrArg some x)), HI.out.fr, HI.out.fl, HI.out.fk, hok, fun k e => Nat.lt_of_lt_of_le (HI.out.lt k e) hch.size⟩, HR.out⟩, hch.mono fun k _ e => e ▸ HI.out.fr, fun _ e => .inl e⟩
theorem refNew_yes (c : Nat) (w : World) (h1 : 1 ≤ c) (h2 : c ≤ 1048576) : Calls Try.prog 31 #[.int .i64 c] w fun e w' => ∃ v, e = .returned (.tuple #[v, .int .i64 0]) ∧ RefAt w' (· = w.heap.size) v (Dk.new c) ∧ Below w.heap.size w w' := by
  have g1 : ¬ (c : Int) < 1 := by omega
  have g2 : ¬ (1048576 : Int) < c := by omega
  go_enter Try.func31, Try.ntmps31
  go_wp2
  go_ret2
  have hb := Blk.alloc_new w 115 #[.int .i64 c, .int .i64 0, .bool false, .bool false, .slice none 0 0, .int .i64 0, .slice none 0 0]
  refine ⟨.pointer (some ⟨w.heap.size, 0, none⟩), rfl, ⟨w.heap.size, .slice none 0 0, .slice none 0 0, false, 0, rfl, ⟨hb, OwnF.nil _ _, OwnI.nil _ _, rfl, fun k e => (by cases e), fun k e => (by cases e), Ok.new h1 h2, fun k e => (by rw [e]; exact hb.lt)⟩, rfl, fun n e => (by cases e), fun n e => (by cases e)⟩, (Below.refl _ _).alloc (Nat.le_refl _) _⟩
theorem refNew_no (c : Int) (w : World) (hc : c < 1 ∨ 1048576 < c) (hr : -9223372036854775808 ≤ c ∧ c ≤ 9223372036854775807) : Calls Try.prog 31 #[.int .i64 c] w fun e w' => e = .returned (.tuple #[.pointer none, .int .i64 2]) ∧ w = w' := by
  obtain ⟨hr1, hr2⟩ := hr
  by_cases h1 : c < 1
  · clear hc
    go_enter Try.func31, Try.ntmps31
    go_wp2
    go_ret2
    exact ⟨rfl, rfl⟩
  · have h2 : 1048576 < c := by omega
    clear hc
    go_enter Try.func31, Try.ntmps31
    go_wp2
    go_ret2
    exact ⟨rfl, rfl⟩
end
end Go.Proofs.Ytenbgfejonokdaa
namespace Go.Proofs.Ytenbgfejonokdaa
set_option maxRecDepth 100000
open Go.RowKit Go.Maps
open Dsk

/-- 'append(s, l...)', numbers. -/
theorem wpList_append_ints {w : World} {ops : Array Oper} {rest : List Oper} {o : Oper} {a : Act} {Q : Exit → Act → World → Prop} (hgd : o.guard = none) (s x : Operand)
    (ho : o.op = .call { callee := .builtin .append, args := #[s, x], argTypes := #[33, 33] })
    (B : Nat) (v0 : Value) (l0 : List Int) (hs : a.eval s = v0) (hown : OwnI w B v0 l0) (v : Value) (hx : a.eval x = v) {S : Nat → Prop} (l : List Int) (hk : KeepR w S v l) (hl : l0.length + l.length ≤ 8796093022208) (hB : B ≤ w.heap.size)
    (h : ∀ v' w', OwnI w' B v' (l0 ++ l) → Below B w w' → wpList Try.prog ops Q rest (a.put o.dst v') w') : wpList Try.prog ops Q (o :: rest) a w := by
  obtain ⟨i0, hi, hz0, hz1, hz2⟩ := info_parts Try.info_int
  obtain ⟨y, c, rfl, hy, hc⟩ := hk
  cases y with
  | none =>
    obtain rfl := hy rfl
    have hl0 : l = [] := by
      cases l with
      | nil => rfl
      | cons z l => obtain ⟨b, off, e, _⟩ := hc 0 (by simp); cases e
    subst hl0
    exact wpList_append_own_none hgd s x 33 ho B 3 i0 1 under_ints hi v0 l0.length (l0.map (Value.int .i64)) hs hown hx (h _ _ (by rw [List.append_nil]; exact hown) (Below.refl _ _))
  | some ad =>
    refine wpList_append_own _ hgd s x 33 ho B 3 i0 (.int .i64 0) 1 8 under_ints hi hz0 hz1 hz2 rfl (by decide) v0 l0.length (l0.map (Value.int .i64)) hs hown ad l.length c (l.map (Value.int .i64)) hx (by simp) ?_ ?_ ?_ ?_ hB ?_
    · intro j u hj
      have hj' : j < l.length := by
        have := (List.getElem?_eq_some_iff.1 hj).1
        simpa using this
      obtain ⟨b, off, e, _, _, hcell⟩ := hc j hj'
      obtain rfl := Option.some.inj e
      have e2 : (⟨b, off, none⟩ : Addr).add j = ⟨b, off + j, none⟩ := by unfold Addr.add; split <;> simp_all
      rw [e2, hcell]
      simp [hj'] at hj
      rw [← hj]
    · intro u hu
      obtain ⟨x, _, rfl⟩ := List.mem_map.1 hu
      rfl
    · unfold maxLen; omega
    · omega
    · intro v' w' h1 h2 _
      refine h v' w' ?_ ((Below.refl _ _).grown h2 hB fun k hk => ((World.ownsRow.lt hown) k hk).1)
      unfold OwnI
      rw [List.length_append, List.map_append]
      exact h1
theorem ownI_new (w : World) : OwnI (w.alloc (.cells #[] 3 (0, 0))) w.heap.size (.slice (some ⟨w.heap.size, 0, none⟩) 0 0) [] :=
  ⟨rfl, .inr ⟨w.heap.size, 0, #[], rfl, Nat.le_refl _, heap_alloc_new w _, Nat.le_refl _, by unfold maxLen; omega, rfl, rfl⟩⟩
section
variable {w : World} {F : Nat → Prop} {br : Nat} {vl vk : Value} {st : Bool} {nf : Int} {d : Dk}
set_option maxHeartbeats 1000000 in
theorem refFail_at {v : Value} (h : RefAt w F v d) (n : Int) (hn : n ≤ 9223372036854775807) (kv0 : Value) (keep : List Int) (hk : KeepR w F kv0 keep) (hkl : keep.length ≤ 1099511627776) :
    Calls Try.prog 33 #[v, .int .i64 n, kv0] w fun e w' => ∃ r, e = .returned (.int .i64 r) ∧ DidR w F v (d.failAt n keep) r w' := by
  have Hat := Lib.hid h
  obtain ⟨br, rfl⟩ := h.ptr
  obtain ⟨vl, vk, st, nf, hi, hrest⟩ := h.open_
  have c2 := hi.blk.cell 2
  simp at c2
  unfold Dk.failAt
  have HI := Lib.hid hi
  have Hk := Lib.hid hk
  clear hi hrest h hk
  cases ho : d.off with
  | true =>
    rw [ho] at c2
    rw [if_pos rfl]
    clear ho
    go_enter Try.func33, Try.ntmps33
    go_wp2_with fail
    go_ret
    exact ⟨51, rfl, DidR.same Hat.out (Below.refl _ _) _⟩
  | false =>
    rw [ho] at c2
    rw [if_neg (by simp)]
    by_cases hn0 : n < 0
    · rw [if_pos hn0]
      clear ho
      go_enter Try.func33, Try.ntmps33
      go_wp2_with fail
      go_ret
      exact ⟨2, rfl, DidR.same Hat.out (Below.refl _ _) _⟩
    · rw [if_neg hn0]
      have Ho := Lib.hid ho
      have f3 := HI.out.blk.free 3
      have f5 := HI.out.blk.free 5
      have c3 := HI.out.blk.cell 3
      have c5 := HI.out.blk.cell 5
      simp at c3 c5
      obtain ⟨w1, hw1⟩ : ∃ w1, w1 = (w.setCell ⟨br, 3, none⟩ (.bool true)).setCell ⟨br, 5, none⟩ (.int .i64 n) := ⟨_, rfl⟩
      have hc1 : Chg (· = br) w w1 := by rw [hw1]; exact (put_wr w br 3 _).trans (put_wr _ br 5 _)
      have hb1 : Blk w1 br 115 #[.int .i64 d.room, .int .i64 d.starts, .bool d.off, .bool true, vl, .int .i64 n, vk] := by rw [hw1]; exact (HI.out.blk.set 3 _).set 5 _
      obtain ⟨w2, hw2⟩ : ∃ w2, w2 = w1.alloc (.cells #[] 3 (0, 0)) := ⟨_, rfl⟩
      have hb12 : Below w1.heap.size w1 w2 := by rw [hw2]; exact (Below.refl _ _).alloc (Nat.le_refl _) _
      have HN := Lib.hid (show OwnI w2 w1.heap.size (.slice (some ⟨w1.heap.size, 0, none⟩) 0 0) [] by rw [hw2]; exact ownI_new w1)
      have hb2 := hb1.below hb12
      have f6 := hb2.free 6
      have c6 := hb2.cell 6
      simp at c6
      have hbr := hb2.lt
      have hbr1 := hb1.lt
      have Hc1 := Lib.hid hc1
      have Hb12 := Lib.hid hb12
      have Hb1 := Lib.hid hb1
      have HW1 := Lib.hid hw1
      have HW2 := Lib.hid hw2
      clear ho hc1 hb1 hb12 hb2 hw1 hw2
      have Hk2 := Lib.hid ((Hk.out.chg Hc1.out (fun k e => e ▸ HI.out.fr)).chg (T := fun _ => False) (Chg.of_below Hb12.out) (fun _ e => e.elim))
      have Hzz := Lib.hid (show w1.heap.size = w.heap.size by rw [HW1.out]; simp)
      rw [Hzz.out] at HN Hb12 hbr1
      go_enter Try.func33, Try.ntmps33
      go_wp2_with (at_builtin; rw [← HW1.out, ← HW2.out]; refine wpList_append_ints rfl (.tmp 21) (.tmp 22) rfl w.heap.size _ [] rfl HN.out kv0 rfl keep Hk2.out (by simp; omega) (by have := Hb12.out.size; have := Hzz.out; omega) ?_; intro v3 w3 hown hb3; rw [List.nil_append] at hown; obtain ⟨x3, cap3, hv3⟩ := hown.shape; subst hv3; have Hown := Lib.hid hown; have Hb3 := Lib.hid hb3; have hz3 := hb3.size; have g6 := (hb3.frozen (p := ⟨br, 6, none⟩) hbr1).trans f6; have d6 := (hb3.cell (p := ⟨br, 6, none⟩) hbr1).trans c6; clear hown hb3 f6 c6)
      go_ret
      have hb13 := Hb12.out.trans Hb3.out
      rw [← Hzz.out] at hb13
      have hb := (Hb1.out.below hb13).set 6 (.slice x3 keep.length cap3)
      rw [Ho.out] at hb
      have hch3 : Chg (· = br) w3 (w3.setCell ⟨br, 6, none⟩ (.slice x3 keep.length cap3)) := put_wr w3 br 6 _
      have hch : Chg (· = br) w (w3.setCell ⟨br, 6, none⟩ (.slice x3 keep.length cap3)) := (Hc1.out.trans (Chg.of_below hb13)).trans hch3
      have hlt := World.ownsRow.lt Hown.out
      have hok : Ok { d with fail := some n, keep := keep } := by
        have := Hat.out.ok.failAt n keep hkl
        unfold Dk.failAt at this
        rw [if_neg (by rw [Ho.out]; decide), if_neg (by omega)] at this
        exact this
      have hz1 := Hc1.out.size
      rw [Ho.out] at hok
      refine ⟨0, rfl, rfl, fun k => F k ∨ (Value.slice x3 keep.length cap3).ownBlock = some k, ⟨br, vl, _, true, n, rfl, ⟨hb, HI.out.row.chg hch (fun k e x => HI.out.row.ne_blk HI.out.blk (show _ = some br from by rw [e]; exact congrArg some x)), (Hown.out.base (Nat.zero_le _)).chg hch3 (fun k e x => ?_), .inl HI.out.fr, fun k e => .inl (HI.out.fl k e), fun k e => .inr e, hok, fun k e => ?_⟩, rfl, fun m hm => ?_, fun m hm => ?_⟩, hch.mono fun k _ e => e ▸ HI.out.fr, fun k e => ?_⟩
      · have := (hlt k e).1
        have x : k = br := x
        omega
      · rcases e with e | e
        · exact Nat.lt_of_lt_of_le (HI.out.lt k e) hch.size
        · exact Nat.lt_of_lt_of_le (hlt k e).2 hch3.size
      · injection hm
      · have : n = m := by injection hm
        omega
      · rcases e with e | e
        · exact .inl e
        · exact .inr (hlt k e).1
theorem ok_del (h : Ok d) (k : Str) {m : Files} (e : d.files = m) : Ok { d with files := del m k } := by
  subst e
  exact h.files (rising_del h.rising _) (fun p hp => ⟨h.named p (mem_del.1 hp).1, h.safe p (mem_del.1 hp).1⟩) (Nat.le_trans (del_le _ _) h.count) (Nat.le_trans (total_sub (del_sub _ _)) h.fits)
set_option maxHeartbeats 4000000 in
theorem refRename_at {v : Value} (h : RefAt w F v d) (name to : ByteArray) (hto : to.size ≤ maxLen) :
    Calls Try.prog 89 #[v, .string name, .string to] w fun e w' => ∃ r, e = .returned (.int .i64 r) ∧ DidR w F v (d.rename name.data.toList to.data.toList) r w' := by
  have Hat := Lib.hid h
  obtain ⟨br, rfl⟩ := h.ptr
  obtain ⟨vl, vk, st, nf, hi, hrest⟩ := h.open_
  have Ha := Lib.hid (refAsks_in hi name)
  clear hi hrest h
  go_enter Try.func89, Try.ntmps89
  go_wp2_with fail
  refine Ha.out.mono ?_
  rintro e w1 ⟨r, c, rfl, rfl, hh⟩
  clear Ha
  rcases hh with ⟨ho, rfl⟩ | ⟨ho, rfl, hg⟩ | ⟨ho, rfl, i, hi, rfl, he⟩
  · have Ho := Lib.hid ho
    clear ho
    go_wp2_with fail
    go_ret
    refine ⟨51, rfl, ?_⟩
    unfold Dk.rename
    rw [if_pos Ho.out]
    exact DidR.same Hat.out (Below.refl _ _) _
  · have Ho := Lib.hid ho
    have Hg := Lib.hid hg
    clear ho hg
    go_wp2_with fail
    go_ret
    refine ⟨4, rfl, ?_⟩
    unfold Dk.rename
    rw [if_neg (by rw [Ho.out]; decide), Hg.out]
    exact DidR.same Hat.out (Below.refl _ _) _
  · have Ho := Lib.hid ho
    have He := Lib.hid he
    have Hi := Lib.hid hi
    have Hbad := Lib.hid (refBad_any to hto w)
    have Hgf := Lib.hid (get_at Hat.out.ok.rising hi he)
    clear ho he
    by_cases hnm : Named to.data.toList
    case neg =>
      rw [show (!decide (Named to.data.toList)) = true by simp [hnm]] at Hbad
      have Hnm := Lib.hid hnm
      clear hnm
      go_wp2_with fail
      refine Hbad.out.mono ?_
      rintro e w2 ⟨rfl, rfl⟩
      go_wp2_with fail
      go_ret
      refine ⟨2, rfl, ?_⟩
      unfold Dk.rename
      rw [if_neg (by rw [Ho.out]; decide), Hgf.out]
      simp only
      rw [if_pos Hnm.out]
      exact DidR.same Hat.out (Below.refl _ _) _
    rw [show (!decide (Named to.data.toList)) = false by simp [hnm]] at Hbad
    have Heq := Lib.hid (show d.rename name.data.toList to.data.toList = d.change (put (del d.files name.data.toList) to.data.toList d.files[i].2) by
      unfold Dk.rename
      rw [if_neg (by rw [Ho.out]; decide), Hgf.out]
      simp only
      rw [if_neg (by simp [hnm])]
      rfl)
    have Hok := Lib.hid (show Ok (d.rename name.data.toList to.data.toList).2 from Hat.out.ok.rename _ _)
    have Hch := Lib.hid (refChanges_at Hat.out Ho.out)
    clear hnm
    go_wp2_with fail
    refine Hbad.out.mono ?_
    rintro e w2 ⟨rfl, rfl⟩
    go_wp2_with fail
    refine Hch.out.mono ?_
    rintro e w2 ⟨hc2, ⟨n, hn, hn0, rfl, hat2⟩ | ⟨hpos, rfl, hat2⟩⟩
    · have H2 := Lib.hid (show DidR w F (.pointer (some ⟨br, 0, none⟩)) (d.rename name.data.toList to.data.toList) 51 w2 from by
        rw [Heq.out, change_crash hn hn0]; exact ⟨rfl, F, hat2, hc2, fun _ e => .inl e⟩)
      clear hc2 hn hn0 hat2
      go_wp2_with fail
      go_ret
      exact ⟨51, rfl, H2.out⟩
    · obtain ⟨vl2, vk2, st2, nf2, hi2, hf2⟩ := hat2.open_
      obtain ⟨b, c, rfl, hb, hFb, hne, hfr, hc0, hc1, hcc2, hrow⟩ := hi2.atm (ticked_files d) hi
      obtain ⟨s0, hs0⟩ : ∃ s : ByteArray, s = ⟨d.files[i].1.toArray⟩ := ⟨_, rfl⟩
      obtain ⟨s, hs⟩ : ∃ s : ByteArray, s = ⟨d.files[i].2.data.toArray⟩ := ⟨_, rfl⟩
      obtain ⟨t, ht⟩ : ∃ t : Nat, t = d.files[i].2.safe := ⟨_, rfl⟩
      replace hc0 : w2.cell? ⟨b, i * 3, none⟩ = some (.string s0) := by rw [hs0]; exact hc0
      replace hc1 : w2.cell? ⟨b, i * 3 + 1, none⟩ = some (.string s) := by rw [hs]; exact hc1
      replace hcc2 : w2.cell? ⟨b, i * 3 + 2, none⟩ = some (.int .i64 t) := by rw [ht]; exact hcc2
      have Hf := Lib.hid (show d.files[i].2 = ⟨s.data.toList, t⟩ by rw [hs, ht])
      have c4 := hi2.blk.cell 4
      simp at c4
      have hi4 : (i : Int) < d.files.length := by omega
      obtain ⟨w3, hw3⟩ : ∃ w3, w3 = w2.alloc (.cells #[.string to, .string s, .int .i64 t] 117 (0, 0)) := ⟨_, rfl⟩
      have hb3 : Below w2.heap.size w2 w3 := by rw [hw3]; exact (Below.refl _ _).alloc (Nat.le_refl _) _
      have hi3 := hi2.below hb3
      have HB3 := Lib.hid (show Blk w3 w2.heap.size 117 #[.string to, .string s, .int .i64 t] by rw [hw3]; exact Blk.alloc_new _ _ _)
      have Hcut := Lib.hid (hi3.cutm (ticked_files d) hi (by exact He.out))
      have HI3 := Lib.hid hi3
      have Hb3 := Lib.hid hb3
      have HI2 := Lib.hid hi2
      have HF2 := Lib.hid hf2
      have HC2 := Lib.hid hc2
      have Hpos := Lib.hid hpos
      have HW3 := Lib.hid hw3
      clear hi2 hi3 hf2 hc2 hat2 hpos hfr hb3 hw3 hrow hs0 hs ht
      go_wp2_with fail
      rw [← HW3.out]
      refine Hcut.out.mono ?_
      rintro e w4 ⟨rfl, vl4, ho4, hb4, hc4⟩
      have hbl4 := HB3.out.chg hc4 (fun e => by have := HI2.out.blk.lt; omega)
      have HI4 := Lib.hid (HI3.out.newRow ho4 hb4 hc4 (ok_del (ticked_ok Hat.out.ok) _ (ticked_files d)))
      have Hpl := Lib.hid (refPlace_in HI4.out.1 to)
      have HBL4 := Lib.hid hbl4
      have hbr4 := HI4.out.1.blk.lt
      clear ho4 hb4 hc4 Hcut hbl4
      go_wp2_with fail
      refine Hpl.out.mono ?_
      rintro e w5 ⟨r, rfl, hp, rfl⟩
      rcases hp with ⟨rfl, hg⟩ | ⟨j, hj, rfl, hje⟩
      · have HI5 := Lib.hid (show RefIn w4 (fun k => F k ∨ vl4.ownBlock = some k) br vl4 vk2 st2 nf2 { Dk.ticked d with files := del (del d.files name.data.toList) to.data.toList } from by
          rw [del_none hg]; exact HI4.out.1)
        have HG5 := Lib.hid (show Grow F (fun k => F k ∨ vl4.ownBlock = some k) w2 w4 from Grow.trans (Grow.same Hb3.out) HI4.out.2)
        have hbl5 := HBL4.out
        clear hg
        have Hlay := Lib.hid (refLay_in HI5.out to s t (get_del_same _ _))
        have HB5 := Lib.hid hbl5
        have x0 := hbl5.cell 0
        have x1 := hbl5.cell 1
        have x2 := hbl5.cell 2
        simp at x0 x1 x2
        clear hbl5
        go_wp2_with fail
        refine Hlay.out.mono ?_
        rintro e w6 ⟨rfl, vl6, ho6, hb6, hc6⟩
        have hok := Hok.out
        rw [Heq.out, change_made Hpos.out] at hok
        have H6 := Lib.hid (HI5.out.newRow (m := put (del d.files name.data.toList) to.data.toList d.files[i].2) (by rw [Hf.out]; exact ho6) hb6 hc6 hok)
        clear ho6 hb6 hc6 hok Hlay x0 x1 x2
        go_wp2_with fail
        go_ret
        refine ⟨0, rfl, ?_⟩
        rw [Heq.out, change_made Hpos.out]
        exact ⟨rfl, _, ⟨br, _, vk2, st2, nf2, rfl, H6.out.1, HF2.out⟩, (Grow.trans ⟨HC2.out, fun _ e => .inl e⟩ HG5.out).trans H6.out.2⟩
      · have q : decide ((0 : Int) ≤ (j : Int)) = true := decide_eq_true (by omega)
        have Hpl2 := Lib.hid (refPlace_in HI4.out.1 to)
        have Hje := Lib.hid hje
        have Hj := Lib.hid hj
        clear hje
        go_wp2_with fail
        refine Hpl2.out.mono ?_
        rintro e w5 ⟨r, rfl, hp, rfl⟩
        rcases hp with ⟨rfl, hg⟩ | ⟨j2, hj2, rfl, hje2⟩
        · have := place_get HI4.out.1.ok.rising Hj.out Hje.out
          rw [hg] at this
          cases this
        · have Hcut2 := Lib.hid (HI4.out.1.cutm rfl hj2 hje2)
          have Hj2 := Lib.hid hj2
          clear hje2
          go_wp2_with fail
          refine Hcut2.out.mono ?_
          rintro e w5 ⟨rfl, vl5, ho5, hb5, hc5⟩
          have HIG5 := HI4.out.1.newRow ho5 hb5 hc5 (ok_del HI4.out.1.ok _ rfl)
          have HI5 := Lib.hid HIG5.1
          have HG5 := Lib.hid ((Grow.trans (Grow.same Hb3.out) HI4.out.2).trans HIG5.2)
          have hbl5 := HBL4.out.chg hc5 (fun e => by have := HI2.out.blk.lt; omega)
          clear HIG5 ho5 hb5 hc5 Hcut2
          have Hlay := Lib.hid (refLay_in HI5.out to s t (get_del_same _ _))
          have HB5 := Lib.hid hbl5
          have x0 := hbl5.cell 0
          have x1 := hbl5.cell 1
          have x2 := hbl5.cell 2
          simp at x0 x1 x2
          clear hbl5
          go_wp2_with fail
          refine Hlay.out.mono ?_
          rintro e w6 ⟨rfl, vl6, ho6, hb6, hc6⟩
          have hok := Hok.out
          rw [Heq.out, change_made Hpos.out] at hok
          have H6 := Lib.hid (HI5.out.newRow (m := put (del d.files name.data.toList) to.data.toList d.files[i].2) (by rw [Hf.out]; exact ho6) hb6 hc6 hok)
          clear ho6 hb6 hc6 hok Hlay x0 x1 x2
          go_wp2_with fail
          go_ret
          refine ⟨0, rfl, ?_⟩
          rw [Heq.out, change_made Hpos.out]
          exact ⟨rfl, _, ⟨br, _, vk2, st2, nf2, rfl, H6.out.1, HF2.out⟩, (Grow.trans ⟨HC2.out, fun _ e => .inl e⟩ HG5.out).trans H6.out.2⟩
end
end Go.Proofs.Ytenbgfejonokdaa
namespace Go.Proofs.Ytenbgfejonokdaa
set_option maxRecDepth 100000
open Go.RowKit Go.Maps
open Dsk

theorem OwnF.one1 {w : World} {b n c : Nat} {B : Nat} {m : Files} (h : OwnF w B (.slice (some ⟨b, 0, none⟩) n c) m) {w1 : World} (hw : Below w.heap.size w w1) {i : Nat} (hi : i < m.length) (s : ByteArray) {M : Files} (eM : m.set i (m[i].1, ⟨s.data.toList, m[i].2.safe⟩) = M) :
    OwnF (w1.setCell ⟨b, i * 3 + 1, none⟩ (.string s)) B (.slice (some ⟨b, 0, none⟩) n c) M ∧ Chg (fun k => (Value.slice (some ⟨b, 0, none⟩) n c).ownBlock = some k) w (w1.setCell ⟨b, i * 3 + 1, none⟩ (.string s)) := by
  subst eM
  obtain ⟨_, _, hv, _⟩ := h.shape
  injection hv with _ hn _
  subst hn
  have h1 := h.below hw
  have h3 := World.ownsRow.stored h1 (i * 3 + 1) (.string s)
  have e : (cellsF m).set (i * 3 + 1) (.string s) = cellsF (m.set i (m[i].1, ⟨s.data.toList, m[i].2.safe⟩)) := by
    have := cellsF_set m i hi s m[i].2.safe
    rw [set_there (show ((cellsF m).set (i * 3 + 1) (.string s))[i * 3 + 2]? = some (.int .i64 m[i].2.safe) from by rw [List.getElem?_set_ne (by omega)]; exact (cellsF_get m i hi).2.2)] at this
    exact this
  rw [e] at h3
  refine ⟨?_, (Chg.of_below hw).trans ((Chg.grown h3.2).mono fun k _ e => by rw [e]; rfl)⟩
  unfold OwnF
  rw [List.length_set]
  exact h3.1
section
variable {w : World} {F : Nat → Prop} {br : Nat} {vl vk : Value} {st : Bool} {nf : Int} {d : Dk}
theorem last_yes (hb : (st && decide (nf ≤ 0)) = true) (hst : st = d.fail.isSome) (hnf : ∀ n, d.fail = some n → nf = n) : st = true ∧ ∃ n, d.fail = some n ∧ n ≤ 0 := by
  obtain ⟨h1, h2⟩ := Bool.and_eq_true_iff.1 hb
  subst h1
  obtain ⟨n, hn⟩ := Option.isSome_iff_exists.1 hst.symm
  exact ⟨rfl, n, hn, by rw [← hnf n hn]; exact of_decide_eq_true h2⟩
theorem last_no (hi : RefIn w F br vl vk st (if st then nf - 1 else nf) d) (hb : (st && decide (nf ≤ 0)) = false) (hst : st = d.fail.isSome) (hnf : ∀ n, d.fail = some n → nf = n) (hf : FOk d) :
    (∀ n, d.fail = some n → 0 < n) ∧ RefAt w F (.pointer (some ⟨br, 0, none⟩)) (Dk.ticked d) := by
  have hpos : ∀ n, d.fail = some n → 0 < n := fun n hn => by
    rw [hn] at hst
    rw [hst] at hb
    have := hnf n hn
    simp at hb
    omega
  refine ⟨hpos, ?_⟩
  cases hfl : d.fail with
  | none =>
    rw [hfl] at hst
    have hst2 : st = false := by simpa using hst
    rw [hst2] at hi
    refine ⟨br, vl, vk, false, nf, rfl, ?_, ?_, fun n hn => ?_, ?_⟩
    · unfold Dk.ticked; rw [hfl]; exact hi
    · unfold Dk.ticked; rw [hfl, hfl]; rfl
    · unfold Dk.ticked at hn; rw [hfl] at hn; simp only at hn; rw [hfl] at hn; cases hn
    · unfold Dk.ticked; rw [hfl]; exact hf
  | some n =>
    rw [hfl] at hst
    have hst2 : st = true := by simpa using hst
    have hnn := hnf n hfl
    have hp := hpos n hfl
    rw [hst2, hnn] at hi
    have hfo := hf n hfl
    refine ⟨br, vl, vk, true, n - 1, rfl, ?_, ?_, fun m hm => ?_, fun m hm => ?_⟩
    · unfold Dk.ticked; rw [hfl]
      exact ⟨hi.blk, hi.row, hi.kept, hi.fr, hi.fl, hi.fk, ⟨hi.ok.room1, hi.ok.room2, hi.ok.rising, hi.ok.named, hi.ok.safe, hi.ok.count, hi.ok.fits, hi.ok.starts, hi.ok.keep⟩, hi.lt⟩
    · unfold Dk.ticked; rw [hfl]; rfl
    · unfold Dk.ticked at hm; rw [hfl] at hm; simp only [Option.some.injEq] at hm; exact hm
    · unfold Dk.ticked at hm; rw [hfl] at hm; simp only [Option.some.injEq] at hm; omega
theorem range_of (hst : st = d.fail.isSome) (hnf : ∀ n, d.fail = some n → nf = n) (hf : FOk d) : st = true → 0 ≤ nf ∧ nf ≤ 9223372036854775807 := fun e => by
  rw [hst] at e
  obtain ⟨n, hn⟩ := Option.isSome_iff_exists.1 e
  rw [hnf n hn]
  exact hf n hn
set_option maxHeartbeats 4000000 in
theorem refAppend_at {v : Value} (h : RefAt w F v d) (name s : ByteArray) (hn : name.size ≤ maxLen) (hsz : s.size ≤ 4611686018427387904) :
    Calls Try.prog 36 #[v, .string name, .string s] w fun e w' => ∃ r, e = .returned (.int .i64 r) ∧ DidR w F v (d.append name.data.toList s.data.toList) r w' := by
  have Hat := Lib.hid h
  obtain ⟨br, rfl⟩ := h.ptr
  obtain ⟨vl, vk, st, nf, hi, hrest⟩ := h.open_
  have Hbad := Lib.hid (refBad_any name hn w)
  have Hpl := Lib.hid (refPlace_in hi name)
  have HI := Lib.hid hi
  have HR := Lib.hid hrest
  have c0 := hi.blk.cell 0
  have c2 := hi.blk.cell 2
  have c4 := hi.blk.cell 4
  simp at c0 c2 c4
  clear hi hrest h hn
  cases ho : d.off with
  | true =>
    rw [ho] at c2
    have Ho := Lib.hid ho
    clear ho
    go_enter Try.func36, Try.ntmps36
    go_wp2_with fail
    go_ret
    refine ⟨51, rfl, ?_⟩
    unfold Dk.append
    rw [if_pos Ho.out]
    exact DidR.same Hat.out (Below.refl _ _) _
  | false =>
    rw [ho] at c2
    have Ho := Lib.hid ho
    clear ho
    by_cases hnm : Named name.data.toList
    case neg =>
      rw [show (!decide (Named name.data.toList)) = true by simp [hnm]] at Hbad
      have Hnm := Lib.hid hnm
      clear hnm
      go_enter Try.func36, Try.ntmps36
      go_wp2_with fail
      refine Hbad.out.mono ?_
      rintro e w2 ⟨rfl, rfl⟩
      go_wp2_with fail
      go_ret
      refine ⟨2, rfl, ?_⟩
      unfold Dk.append
      rw [if_neg (by rw [Ho.out]; decide), if_pos Hnm.out]
      exact DidR.same Hat.out (Below.refl _ _) _
    rw [show (!decide (Named name.data.toList)) = false by simp [hnm]] at Hbad
    have Hnm := Lib.hid hnm
    clear hnm
    have htot : total d.files ≤ d.room := Hat.out.ok.fits
    have hroom : d.room ≤ 1048576 := Hat.out.ok.room2
    have hcnt := Hat.out.ok.count
    obtain ⟨YY, c, hvl, _⟩ := HI.out.row.shape
    subst hvl
    have Hsize := Lib.hid (fun (X : Ext w) => Calls.ext_same (x := X) (refSize_in (HI.out.below X.le)))
    obtain ⟨T, hT⟩ : ∃ T, T = total d.files := ⟨_, rfl⟩
    obtain ⟨R, hR⟩ : ∃ R, R = d.room := ⟨_, rfl⟩
    rw [← hT] at Hsize htot
    rw [← hR] at htot hroom c0
    have HTe := Lib.hid hT
    have HRe := Lib.hid hR
    clear hT hR
    have hw0 : IntKind.i64.wrap ((T : Int) + (s.size : Int)) = (T : Int) + (s.size : Int) := IntWalk.i64_in _ ⟨by omega, by omega⟩
    have hfull : (get d.files name.data.toList = none ∧ 1024 ≤ d.files.length) ∨ d.room < total d.files + s.data.toList.length ↔ ((get d.files name.data.toList = none ∧ d.files.length = 1024) ∨ R < T + s.size) := by
      rw [HTe.out, HRe.out, show s.data.toList.length = s.size by simp]
      constructor
      · rintro (⟨a, b⟩ | a)
        · exact .inl ⟨a, by omega⟩
        · exact .inr a
      · rintro (⟨a, b⟩ | a)
        · exact .inl ⟨a, by omega⟩
        · exact .inr a
    have Hfull := Lib.hid hfull
    clear hfull
    go_enter Try.func36, Try.ntmps36
    go_wp2_with fail
    refine Hbad.out.mono ?_
    rintro e w2 ⟨rfl, rfl⟩
    go_wp2_with fail
    refine Hpl.out.mono ?_
    rintro e w5 ⟨r, rfl, hp, rfl⟩
    rcases hp with ⟨rfl, hg⟩ | ⟨i, hi, rfl, he⟩
    · by_cases hlen : d.files.length = 1024
      · have Hfl := Lib.hid (Hfull.out.2 (.inl ⟨hg, hlen⟩))
        have q1 : ((d.files.length : Nat) : Int) = 1024 := by omega
        clear hg
        go_wp2_with fail
        refine wp_region_ext (by kernel_rfl) (by kernel_rfl) fun K hK => ?_
        repeat (go_big_quiet_step ((go_at_call 84; exact Hsize.out _)))
        refine wpQuiet_nil (hK _ fun x => ?_)
        clear hK K
        have Hx := Lib.hid x.le
        go_wp2_with fail
        go_ret
        refine ⟨50, rfl, ?_⟩
        unfold Dk.append
        rw [if_neg (by rw [Ho.out]; decide), if_neg (by simp [Hnm.out]), if_pos Hfl.out]
        exact DidR.same Hat.out Hx.out _
      · have q1 : ¬ ((d.files.length : Nat) : Int) = 1024 := by omega
        have q2 : ((((d.files.length : Nat) : Int)) == 1024) = false := by simpa using q1
        by_cases hrm : R < T + s.size
        · have Hfl := Lib.hid (Hfull.out.2 (.inr hrm))
          have q3 : decide ((R : Int) < (T : Int) + (s.size : Int)) = true := decide_eq_true (by omega)
          clear hg
          go_wp2_with fail
          refine wp_region_ext (by kernel_rfl) (by kernel_rfl) fun K hK => ?_
          repeat (go_big_quiet_step ((go_at_call 84; exact Hsize.out _)))
          refine wpQuiet_nil (hK _ fun x => ?_)
          clear hK K
          have Hx := Lib.hid x.le
          go_wp2_with fail
          go_ret
          refine ⟨50, rfl, ?_⟩
          unfold Dk.append
          rw [if_neg (by rw [Ho.out]; decide), if_neg (by simp [Hnm.out]), if_pos Hfl.out]
          exact DidR.same Hat.out Hx.out _
        · have hnf := fun e => (Hfull.out.1 e).elim (fun e => absurd e.2 hlen) hrm
          have Heq := Lib.hid (show d.append name.data.toList s.data.toList = ({ d with files := put d.files name.data.toList ⟨s.data.toList, 0⟩ } : Dk).change (put d.files name.data.toList ⟨s.data.toList, 0⟩) by
            unfold Dk.append
            rw [if_neg (by rw [Ho.out]; decide), if_neg (by simp [Hnm.out]), if_neg hnf, hg]
            rfl)
          have hfacts := append_facts Hat.out.ok Hnm.out hnf (m := put d.files name.data.toList ⟨s.data.toList, 0⟩) (by rw [hg]; rfl)
          have HokM := Lib.hid (show Ok { d with files := put d.files name.data.toList ⟨s.data.toList, 0⟩ } from Hat.out.ok.files hfacts.1 hfacts.2.1 hfacts.2.2.1 hfacts.2.2.2)
          have hfacts0 := append_facts (s := []) Hat.out.ok Hnm.out (by
            rintro (e | e)
            · exact hlen (by omega)
            · have := Hat.out.ok.fits; simp at e; omega) (m := ins (name.data.toList, ⟨[], 0⟩) d.files) (by rw [hg]; show _ = put d.files name.data.toList ⟨[], 0⟩; unfold put; rw [del_none hg])
          have Hok0 := Lib.hid (show Ok { d with files := ins (name.data.toList, ⟨[], 0⟩) d.files } from Hat.out.ok.files hfacts0.1 hfacts0.2.1 hfacts0.2.2.1 hfacts0.2.2.2)
          have Hg := Lib.hid hg
          have q3 : decide ((R : Int) < (T : Int) + (s.size : Int)) = false := decide_eq_false (by omega)
          clear hg hnf hfacts hfacts0
          go_wp2_with fail
          refine wp_region_ext (by kernel_rfl) (by kernel_rfl) fun K hK => ?_
          repeat (go_big_quiet_step ((go_at_call 84; exact Hsize.out _)))
          refine wpQuiet_nil (hK _ fun x => ?_)
          clear hK K
          have Hlay := Lib.hid (refLay_in (HI.out.below x.le) name ⟨#[]⟩ 0 Hg.out)
          have Hx := Lib.hid x.le
          clear c0 c2 c4
          go_wp2_with fail
          refine Hlay.out.mono ?_
          rintro e w5 ⟨rfl, vl5, ho5, hb5, hc5⟩
          have hIG := (HI.out.below Hx.out).newRow ho5 hb5 hc5 Hok0.out
          have Hpl5 := Lib.hid (refPlace_in hIG.1 name)
          obtain ⟨m5, hm5⟩ : ∃ m5, m5 = ins (name.data.toList, ⟨[], 0⟩) d.files := ⟨_, rfl⟩
          obtain ⟨M, hM⟩ : ∃ M, M = put d.files name.data.toList ⟨s.data.toList, 0⟩ := ⟨_, rfl⟩
          have HI5 := Lib.hid (show RefIn w5 (fun k => F k ∨ vl5.ownBlock = some k) br vl5 vk st nf { d with files := m5 } by rw [hm5]; exact hIG.1)
          have HG5 := Lib.hid ((Grow.same (F := F) Hx.out).trans hIG.2)
          obtain ⟨F5, hF5⟩ : ∃ F5, F5 = (fun k => F k ∨ vl5.ownBlock = some k) := ⟨_, rfl⟩
          rw [← hF5] at HI5 HG5
          have hgm : get m5 name.data.toList = some ⟨[], 0⟩ := by
            have := get_put_same Hat.out.ok.rising name.data.toList ⟨[], 0⟩
            unfold put at this
            rwa [del_none Hg.out, ← hm5] at this
          have hput0 : put m5 name.data.toList ⟨s.data.toList, 0⟩ = M := by
            have := put_put d.files name.data.toList ⟨[], 0⟩ ⟨s.data.toList, 0⟩
            have e : put d.files name.data.toList ⟨[], 0⟩ = m5 := by unfold put; rw [del_none Hg.out, hm5]
            rw [e] at this
            rw [hM, this]
          have hEqM := Heq.out
          rw [← hM] at hEqM
          have hOkM := HokM.out
          rw [← hM] at hOkM
          have Hgm := Lib.hid hgm
          have Hput0 := Lib.hid hput0
          have HEqM := Lib.hid hEqM
          have HOkM := Lib.hid hOkM
          have Hm5 := Lib.hid hm5
          clear Heq HokM hF5 hM hgm hput0 hEqM hOkM ho5 hb5 hc5 hIG hm5
          go_wp2_with fail
          refine Hpl5.out.mono ?_
          rintro e w6 ⟨r, rfl, hp, rfl⟩
          rcases hp with ⟨rfl, hgn⟩ | ⟨j, hj, rfl, hje⟩
          · have := Hgm.out
            rw [Hm5.out, hgn] at this
            cases this
          · have hjl : j < m5.length := by rw [Hm5.out]; exact hj
            have Hj := Lib.hid hjl
            have Hje := Lib.hid (show m5[j].1 = name.data.toList by simp only [Hm5.out]; exact hje)
            have hput : put m5 name.data.toList ⟨m5[j].2.data ++ s.data.toList, m5[j].2.safe⟩ = M := by
              have h1 := place_get HI5.out.ok.rising Hj.out Hje.out
              have h2 := Hgm.out
              have h3 : m5[j].2 = ⟨[], 0⟩ := by
                have := h1.symm.trans h2
                injection this
              rw [h3]
              exact Hput0.out
            have hEqM := HEqM.out
            have hOkM := HOkM.out
            clear hje hj
            have Hput := Lib.hid hput
            have HeqM := Lib.hid hEqM
            have HokM := Lib.hid hOkM
            obtain ⟨b5, c5, hv5, hb5, hFb5, hne5, hfr5, _, hd5, _, hrow5⟩ := HI5.out.atm (m := m5) rfl Hj.out
            subst hv5
            have hds : m5[j].2.data.length ≤ 1048576 := Nat.le_trans (data_le (List.getElem_mem Hj.out)) (Nat.le_trans HI5.out.ok.fits HI5.out.ok.room2)
            obtain ⟨sd, hsd⟩ : ∃ sd : ByteArray, sd = ⟨m5[j].2.data.toArray⟩ := ⟨_, rfl⟩
            have hsdz : sd.size ≤ 1048576 := by rw [hsd]; exact hds
            have hd : w5.cell? ⟨b5, j * 3 + 1, none⟩ = some (.string sd) := by rw [hsd]; exact hd5
            have Hsd := Lib.hid (show m5[j].2.data = sd.data.toList by rw [hsd])
            have hc54 := HI5.out.blk.cell 4
            simp at hc54
            have hf5 := hfr5 (j * 3 + 1)
            have hbr5 := HI5.out.blk.lt
            have hj4 : (j : Int) < m5.length := by have := Hj.out; omega
            have Hrow := Lib.hid hrow5
            clear hput hEqM hOkM hfr5 hsd hd5 hrow5 hds
            go_wp2_with fail
            refine wp_region_ext_tail 17 (by kernel_rfl) (by kernel_rfl) fun K hK => ?_
            simp only [List.take_succ_cons, List.take_zero]
            repeat (go_big_quiet_step (fail))
            refine wpQuiet_nil (hK _ fun x5 => ?_)
            clear hK K
            simp only [List.drop_succ_cons, List.drop_zero]
            have fx := (x5.le.frozen (p := ⟨b5, j * 3 + 1, none⟩) hb5).trans hf5
            have cx := (x5.le.cell (p := ⟨b5, j * 3 + 1, none⟩) hb5).trans hd
            have hone := Hrow.out.one1 x5.le Hj.out (sd ++ s) (M := M) (by rw [data_append, ← Hsd.out]; exact (set_put (show Rising m5 from HI5.out.ok.rising) Hj.out Hje.out _).trans Hput.out)
            have HI6 := Lib.hid (HI5.out.oneRow hone.1 hone.2 HokM.out)
            have Hc6 := Lib.hid (show Chg F5 w5 _ from hone.2.mono fun k _ e => HI5.out.fl k e)
            have Hlast := Lib.hid (refLast_in HI6.out (range_of HR.out.1 HR.out.2.1 HR.out.2.2))
            clear hone hd hf5 hc54
            go_wp2_with fail
            refine Hlast.out.mono ?_
            rintro e w7 ⟨rfl, hi7, hc7⟩
            cases hb : (st && decide (nf ≤ 0)) with
            | true =>
              obtain ⟨hst1, n, hn, hn0⟩ := last_yes hb HR.out.1 HR.out.2.1
              have e6 := hi7.blk.cell 6
              simp at e6
              have Hcr := Lib.hid (refCrash_on hi7 Ho.out vk d.keep hi7.keepR (by have := hi7.ok.keep; exact Nat.le_trans this (by decide)))
              have HI7 := Lib.hid hi7
              have HC7 := Lib.hid hc7
              have Hn := Lib.hid (And.intro hn hn0)
              clear hi7 hc7 hb hn hn0 hst1 fx cx
              go_wp2_with fail
              refine Hcr.out.mono ?_
              rintro e w8 ⟨rfl, hi8, hc8⟩
              have HI8 := Lib.hid hi8
              have HC8 := Lib.hid (show Chg F5 w5 w8 from (Hc6.out.trans (HC7.out.mono fun _ _ e => e ▸ HI5.out.fr)).trans (hc8.mono fun k _ e => e.elim (fun e => e ▸ HI5.out.fr) (fun e => HI5.out.fl k e)))
              clear hi8 hc8 e6
              go_wp2_with fail
              go_ret
              refine ⟨51, rfl, ?_⟩
              rw [HeqM.out, change_crash (d := { d with files := M }) Hn.out.1 Hn.out.2]
              exact ⟨rfl, F5, ⟨br, _, vk, false, _, rfl, HI8.out, rfl, fun _ e => (by cases e), fun _ e => (by cases e)⟩, HG5.out.trans ⟨HC8.out, fun _ e => .inl e⟩⟩
            | false =>
              have Hno := Lib.hid (last_no hi7 hb HR.out.1 HR.out.2.1 HR.out.2.2)
              have HC7 := Lib.hid (show Chg F5 w5 w7 from Hc6.out.trans (hc7.mono fun _ _ e => e ▸ HI5.out.fr))
              clear hi7 hc7 hb fx cx
              go_wp2_with fail
              go_ret
              refine ⟨0, rfl, ?_⟩
              have hat := Hno.out.2
              rw [HeqM.out, change_made (d := { d with files := M }) Hno.out.1]
              have hef : ({ Dk.ticked { d with files := M } with files := M } : Dk) = Dk.ticked { d with files := M } := by unfold Dk.ticked; split <;> rfl
              rw [hef]
              exact ⟨rfl, F5, hat, HG5.out.trans ⟨HC7.out, fun _ e => .inl e⟩⟩
    · by_cases hrm : R < T + s.size
      · have Hfl := Lib.hid (Hfull.out.2 (.inr hrm))
        have q3 : decide ((R : Int) < (T : Int) + (s.size : Int)) = true := decide_eq_true (by omega)
        have q4 : decide ((i : Int) < 0) = false := decide_eq_false (by omega)
        clear he
        go_wp2_with fail
        refine wp_region_ext (by kernel_rfl) (by kernel_rfl) fun K hK => ?_
        repeat (go_big_quiet_step ((go_at_call 84; exact Hsize.out _)))
        refine wpQuiet_nil (hK _ fun x => ?_)
        clear hK K
        have Hx := Lib.hid x.le
        go_wp2_with fail
        go_ret
        refine ⟨50, rfl, ?_⟩
        unfold Dk.append
        rw [if_neg (by rw [Ho.out]; decide), if_neg (by simp [Hnm.out]), if_pos Hfl.out]
        exact DidR.same Hat.out Hx.out _
      · have hnf := fun e => (Hfull.out.1 e).elim (fun e => by have := place_get Hat.out.ok.rising hi he; rw [e.1] at this; cases this) hrm
        have hg := place_get Hat.out.ok.rising hi he
        obtain ⟨m5, hm5⟩ : ∃ m5, m5 = d.files := ⟨_, rfl⟩
        obtain ⟨M, hM⟩ : ∃ M, M = put d.files name.data.toList ⟨d.files[i].2.data ++ s.data.toList, d.files[i].2.safe⟩ := ⟨_, rfl⟩
        have hEqM : d.append name.data.toList s.data.toList = ({ d with files := M } : Dk).change M := by
          rw [hM]
          unfold Dk.append
          rw [if_neg (by rw [Ho.out]; decide), if_neg (by simp [Hnm.out]), if_neg hnf, hg]
          rfl
        have hfacts := append_facts Hat.out.ok Hnm.out hnf (m := M) (by rw [hM, hg]; rfl)
        have hOkM : Ok { d with files := M } := Hat.out.ok.files hfacts.1 hfacts.2.1 hfacts.2.2.1 hfacts.2.2.2
        have HI5 := Lib.hid (fun (w5 : World) (hb : Below w.heap.size w w5) => HI.out.below hb)
        have Hi := Lib.hid hi
        have He := Lib.hid he
        have HEqM := Lib.hid hEqM
        have HOkM := Lib.hid hOkM
        have hput0 : put d.files name.data.toList ⟨d.files[i].2.data ++ s.data.toList, d.files[i].2.safe⟩ = M := hM.symm
        have Hput0 := Lib.hid hput0
        have q3 : decide ((R : Int) < (T : Int) + (s.size : Int)) = false := decide_eq_false (by omega)
        have q4 : decide ((i : Int) < 0) = false := decide_eq_false (by omega)
        have hi4 : (i : Int) < d.files.length := by omega
        clear hnf hg hm5 hM hEqM hfacts hOkM hput0 he HI5
        go_wp2_with fail
        refine wp_region_ext (by kernel_rfl) (by kernel_rfl) fun K hK => ?_
        repeat (go_big_quiet_step ((go_at_call 84; exact Hsize.out _)))
        refine wpQuiet_nil (hK _ fun x => ?_)
        clear hK K
        have Hx := Lib.hid x.le
        obtain ⟨F5, hF5⟩ : ∃ F5, F5 = F := ⟨_, rfl⟩
        obtain ⟨m5, hm5⟩ : ∃ m5, m5 = d.files := ⟨_, rfl⟩
        obtain ⟨vl5, hvl5⟩ : ∃ v, v = Value.slice YY d.files.length c := ⟨_, rfl⟩
        have HI5 := Lib.hid (show RefIn x.wd F5 br vl5 vk st nf { d with files := m5 } by rw [hF5, hm5, hvl5]; exact HI.out.below Hx.out)
        clear hvl5
        have HG5 := Lib.hid (show Grow F F5 w x.wd by rw [hF5]; exact Grow.same Hx.out)
        obtain ⟨w5, hw5⟩ : ∃ w5, w5 = x.wd := ⟨_, rfl⟩
        rw [← hw5] at HI5 HG5 Hx ⊢
        have hjl : i < m5.length := by rw [hm5]; exact hi
        have Hj := Lib.hid hjl
        have Hje := Lib.hid (show m5[i].1 = name.data.toList by simp only [hm5]; exact He.out)
        have hput : put m5 name.data.toList ⟨m5[i].2.data ++ s.data.toList, m5[i].2.safe⟩ = M := by simp only [hm5]; exact Hput0.out
        have hEqM := HEqM.out
        have hOkM := HOkM.out
        clear hF5 hw5 hm5 Hput0 c2 c0 c4 He
        obtain ⟨j, hjj⟩ : ∃ j, j = i := ⟨_, rfl⟩
        subst hjj
        have Hput := Lib.hid hput
        have HeqM := Lib.hid hEqM
        have HokM := Lib.hid hOkM
        obtain ⟨b5, c5, hv5, hb5, hFb5, hne5, hfr5, _, hd5, _, hrow5⟩ := HI5.out.atm (m := m5) rfl Hj.out
        subst hv5
        have hds : m5[j].2.data.length ≤ 1048576 := Nat.le_trans (data_le (List.getElem_mem Hj.out)) (Nat.le_trans HI5.out.ok.fits HI5.out.ok.room2)
        obtain ⟨sd, hsd⟩ : ∃ sd : ByteArray, sd = ⟨m5[j].2.data.toArray⟩ := ⟨_, rfl⟩
        have hsdz : sd.size ≤ 1048576 := by rw [hsd]; exact hds
        have hd : w5.cell? ⟨b5, j * 3 + 1, none⟩ = some (.string sd) := by rw [hsd]; exact hd5
        have Hsd := Lib.hid (show m5[j].2.data = sd.data.toList by rw [hsd])
        have hc54 := HI5.out.blk.cell 4
        simp at hc54
        have hf5 := hfr5 (j * 3 + 1)
        have hbr5 := HI5.out.blk.lt
        have hj4 : (j : Int) < m5.length := by have := Hj.out; omega
        have Hrow := Lib.hid hrow5
        clear hput hEqM hOkM hfr5 hsd hd5 hrow5 hds
        go_wp2_with fail
        refine wp_region_ext_tail 17 (by kernel_rfl) (by kernel_rfl) fun K hK => ?_
        simp only [List.take_succ_cons, List.take_zero]
        repeat (go_big_quiet_step (fail))
        refine wpQuiet_nil (hK _ fun x5 => ?_)
        clear hK K
        simp only [List.drop_succ_cons, List.drop_zero]
        have fx := (x5.le.frozen (p := ⟨b5, j * 3 + 1, none⟩) hb5).trans hf5
        have cx := (x5.le.cell (p := ⟨b5, j * 3 + 1, none⟩) hb5).trans hd
        have hone := Hrow.out.one1 x5.le Hj.out (sd ++ s) (M := M) (by rw [data_append, ← Hsd.out]; exact (set_put (show Rising m5 from HI5.out.ok.rising) Hj.out Hje.out _).trans Hput.out)
        have HI6 := Lib.hid (HI5.out.oneRow hone.1 hone.2 HokM.out)
        have Hc6 := Lib.hid (show Chg F5 w5 _ from hone.2.mono fun k _ e => HI5.out.fl k e)
        have Hlast := Lib.hid (refLast_in HI6.out (range_of HR.out.1 HR.out.2.1 HR.out.2.2))
        clear hone hd hf5 hc54
        go_wp2_with fail
        refine Hlast.out.mono ?_
        rintro e w7 ⟨rfl, hi7, hc7⟩
        cases hb : (st && decide (nf ≤ 0)) with
        | true =>
          obtain ⟨hst1, n, hn, hn0⟩ := last_yes hb HR.out.1 HR.out.2.1
          have e6 := hi7.blk.cell 6
          simp at e6
          have Hcr := Lib.hid (refCrash_on hi7 Ho.out vk d.keep hi7.keepR (by have := hi7.ok.keep; exact Nat.le_trans this (by decide)))
          have HI7 := Lib.hid hi7
          have HC7 := Lib.hid hc7
          have Hn := Lib.hid (And.intro hn hn0)
          clear hi7 hc7 hb hn hn0 hst1 fx cx
          go_wp2_with fail
          refine Hcr.out.mono ?_
          rintro e w8 ⟨rfl, hi8, hc8⟩
          have HI8 := Lib.hid hi8
          have HC8 := Lib.hid (show Chg F5 w5 w8 from (Hc6.out.trans (HC7.out.mono fun _ _ e => e ▸ HI5.out.fr)).trans (hc8.mono fun k _ e => e.elim (fun e => e ▸ HI5.out.fr) (fun e => HI5.out.fl k e)))
          clear hi8 hc8 e6
          go_wp2_with fail
          go_ret
          refine ⟨51, rfl, ?_⟩
          rw [HeqM.out, change_crash (d := { d with files := M }) Hn.out.1 Hn.out.2]
          exact ⟨rfl, F5, ⟨br, _, vk, false, _, rfl, HI8.out, rfl, fun _ e => (by cases e), fun _ e => (by cases e)⟩, HG5.out.trans ⟨HC8.out, fun _ e => .inl e⟩⟩
        | false =>
          have Hno := Lib.hid (last_no hi7 hb HR.out.1 HR.out.2.1 HR.out.2.2)
          have HC7 := Lib.hid (show Chg F5 w5 w7 from Hc6.out.trans (hc7.mono fun _ _ e => e ▸ HI5.out.fr))
          clear hi7 hc7 hb fx cx
          go_wp2_with fail
          go_ret
          refine ⟨0, rfl, ?_⟩
          have hat := Hno.out.2
          rw [HeqM.out, change_made (d := { d with files := M }) Hno.out.1]
          have hef : ({ Dk.ticked { d with files := M } with files := M } : Dk) = Dk.ticked { d with files := M } := by unfold Dk.ticked; split <;> rfl
          rw [hef]
          exact ⟨rfl, F5, hat, HG5.out.trans ⟨HC7.out, fun _ e => .inl e⟩⟩
end
end Go.Proofs.Ytenbgfejonokdaa
namespace Go.Proofs.Ytenbgfejonokdaa
set_option maxRecDepth 100000
open Go.RowKit Go.Maps
open Dsk

section
variable {w : World} {F : Nat → Prop} {d : Dk}
theorem refCrash_at {v : Value} (h : RefAt w F v d) (kv : Value) (keep : List Int) (hk : KeepR w F kv keep) (hkl : keep.length ≤ 9223372036854775807) :
    Calls Try.prog 34 #[v, kv] w fun e w' => ∃ r, e = .returned (.int .i64 r) ∧ DidR w F v (d.crash keep) r w' := by
  obtain ⟨br, rfl⟩ := h.ptr
  obtain ⟨vl, vk, st, nf, hi, hrest⟩ := h.open_
  unfold Dk.crash
  cases ho : d.off with
  | true =>
    rw [if_pos rfl]
    refine (refCrash_off hi ho kv).mono ?_
    rintro e w' ⟨rfl, rfl⟩
    exact ⟨51, rfl, DidR.same h (Below.refl _ _) _⟩
  | false =>
    rw [if_neg (by simp)]
    refine (refCrash_on hi ho kv keep (hk.mono fun k e => e.elim (fun e => e ▸ hi.fr) (fun e => hi.fl k e)) hkl).mono ?_
    rintro e w' ⟨rfl, hi', hc⟩
    exact ⟨0, rfl, rfl, F, ⟨br, vl, vk, false, nf, rfl, hi', rfl, fun _ e => (by cases e), fun _ e => (by cases e)⟩, hc.mono fun k _ e => e.elim (fun e => e ▸ hi.fr) (fun e => hi.fl k e), fun _ e => .inl e⟩
theorem RefAt.chg {v : Value} (h : RefAt w F v d) {w' : World} {S : Nat → Prop} (x : Chg S w w') (hS : ∀ k, F k → ¬ S k) : RefAt w' F v d := by
  obtain ⟨br, vl, vk, st, nf, e, h, hf⟩ := h
  exact ⟨br, vl, vk, st, nf, e, h.chg x hS, hf⟩
end

/-- v is the reference's disk d, made since w0, in no block of X. -/
def RLive (w0 : World) (X : Nat → Prop) (w : World) (v : Value) (d : Dk) : Prop := ∃ F, RefAt w F v d ∧ (∀ k, F k → w0.heap.size ≤ k ∧ ¬ X k) ∧ (∀ k, X k → k < w.heap.size) ∧ Below w0.heap.size w0 w
section
variable {w0 w w' : World} {X : Nat → Prop} {v : Value} {d : Dk}
theorem RLive.ptr (h : RLive w0 X w v d) : ∃ bd, v = .pointer (some ⟨bd, 0, none⟩) := by obtain ⟨_, h, _⟩ := h; exact h.ptr
theorem RLive.ok (h : RLive w0 X w v d) : Ok d := by obtain ⟨_, h, _⟩ := h; exact h.ok
theorem RLive.keep (h : RLive w0 X w v d) (hb : Below w.heap.size w w') : RLive w0 X w' v d := by
  obtain ⟨F, h1, h2, h3, h4⟩ := h
  exact ⟨F, h1.below hb, h2, fun k hk => Nat.lt_of_lt_of_le (h3 k hk) hb.size, h4.trans (hb.mono h4.size)⟩
theorem RLive.of {P : Program} {f : FuncId} {args : Array Value} {x : Int × Dk} (h : RLive w0 X w v d)
    (hc : ∀ F, RefAt w F v d → (∀ k, F k → w0.heap.size ≤ k ∧ ¬ X k) → Calls P f args w fun e w' => ∃ r, e = .returned (.int .i64 r) ∧ DidR w F v x r w') :
    Calls P f args w fun e w' => e = .returned (.int .i64 x.1) ∧ RLive w0 X w' v x.2 ∧ Keeps X w w' := by
  obtain ⟨F, h1, h2, h3, h4⟩ := h
  refine (hc F h1 h2).mono ?_
  rintro e w' ⟨r, rfl, rfl, F', hd, hg⟩
  have hb := hg.below h4.size fun k hk => (h2 k hk).1
  exact ⟨rfl, ⟨F', hd, fun k hk => ⟨hb.2 k hk, fun hx => (hg.sub k hk).elim (fun e => (h2 k e).2 hx) (fun e => absurd (h3 k hx) (by omega))⟩, fun k hk => Nat.lt_of_lt_of_le (h3 k hk) hg.chg.size, h4.trans hb.1⟩, hg.chg.mono fun k _ hk hx => (h2 k hk).2 hx⟩
theorem RLive.append (h : RLive w0 X w v d) (name s : ByteArray) (hn : name.size ≤ maxLen) (hs : s.size ≤ 4611686018427387904) :
    Calls Try.prog 36 #[v, .string name, .string s] w fun e w' => e = .returned (.int .i64 (d.append name.data.toList s.data.toList).1) ∧ RLive w0 X w' v (d.append name.data.toList s.data.toList).2 ∧ Keeps X w w' :=
  h.of fun _ hd _ => refAppend_at hd name s hn hs
theorem RLive.sync (h : RLive w0 X w v d) (name : ByteArray) :
    Calls Try.prog 88 #[v, .string name] w fun e w' => e = .returned (.int .i64 (d.sync name.data.toList).1) ∧ RLive w0 X w' v (d.sync name.data.toList).2 ∧ Keeps X w w' :=
  h.of fun _ hd _ => refSync_at hd name
theorem RLive.rename (h : RLive w0 X w v d) (name to : ByteArray) (hs : to.size ≤ maxLen) :
    Calls Try.prog 89 #[v, .string name, .string to] w fun e w' => e = .returned (.int .i64 (d.rename name.data.toList to.data.toList).1) ∧ RLive w0 X w' v (d.rename name.data.toList to.data.toList).2 ∧ Keeps X w w' :=
  h.of fun _ hd _ => refRename_at hd name to hs
theorem RLive.remove (h : RLive w0 X w v d) (name : ByteArray) :
    Calls Try.prog 87 #[v, .string name] w fun e w' => e = .returned (.int .i64 (d.remove name.data.toList).1) ∧ RLive w0 X w' v (d.remove name.data.toList).2 ∧ Keeps X w w' :=
  h.of fun _ hd _ => refRemove_at hd name
theorem RLive.start (h : RLive w0 X w v d) :
    Calls Try.prog 35 #[v] w fun e w' => e = .returned (.int .i64 d.start.1) ∧ RLive w0 X w' v d.start.2 ∧ Keeps X w w' :=
  h.of fun _ hd _ => refStart_at hd
theorem RLive.crash (h : RLive w0 X w v d) (kv0 : Value) (keep : List Int) (hk : KeepR w (fun k => ¬ X k ∧ w0.heap.size ≤ k) kv0 keep) (hkl : keep.length ≤ 9223372036854775807) :
    Calls Try.prog 34 #[v, kv0] w fun e w' => e = .returned (.int .i64 (d.crash keep).1) ∧ RLive w0 X w' v (d.crash keep).2 ∧ Keeps X w w' :=
  h.of fun _ hd hF => refCrash_at hd kv0 keep (hk.mono fun k e => ⟨(hF k e).2, (hF k e).1⟩) hkl
theorem RLive.fail (h : RLive w0 X w v d) (n : Int) (hn : n ≤ 9223372036854775807) (kv0 : Value) (keep : List Int) (hk : KeepR w (fun k => ¬ X k ∧ w0.heap.size ≤ k) kv0 keep) (hkl : keep.length ≤ 1099511627776) :
    Calls Try.prog 33 #[v, .int .i64 n, kv0] w fun e w' => e = .returned (.int .i64 (d.failAt n keep).1) ∧ RLive w0 X w' v (d.failAt n keep).2 ∧ Keeps X w w' :=
  h.of fun _ hd hF => refFail_at hd n hn kv0 keep (hk.mono fun k e => ⟨(hF k e).2, (hF k e).1⟩) hkl
theorem RLive.names (h : RLive w0 X w v d) : Calls Try.prog 90 #[v] w fun e w' => ∃ u, e = .returned u ∧ OwnS w' w.heap.size u (strs (Dsk.names d.files)) ∧ Below w.heap.size w w' := by
  obtain ⟨F, h, _⟩ := h; obtain ⟨_, rfl⟩ := h.ptr; obtain ⟨_, _, _, _, hi, _⟩ := h.open_; exact refNames_in hi
theorem RLive.sizes (h : RLive w0 X w v d) : Calls Try.prog 84 #[v] w fun e w' => e = .returned (.int .i64 (total d.files)) ∧ w = w' := by
  obtain ⟨F, h, _⟩ := h; obtain ⟨_, rfl⟩ := h.ptr; obtain ⟨_, _, _, _, hi, _⟩ := h.open_; exact refSize_in hi
theorem RLive.unsynced (h : RLive w0 X w v d) : Calls Try.prog 93 #[v] w fun e w' => ∃ u, e = .returned u ∧ OwnI w' w.heap.size u d.unsynced ∧ Below w.heap.size w w' := by
  obtain ⟨F, h, _⟩ := h; obtain ⟨_, rfl⟩ := h.ptr; obtain ⟨_, _, _, _, hi, _⟩ := h.open_; exact refUnsynced_in hi
theorem RLive.synced (h : RLive w0 X w v d) (name : ByteArray) : Calls Try.prog 95 #[v, .string name] w fun e w' => e = .returned (.int .i64 (d.synced name.data.toList)) ∧ w = w' := by
  obtain ⟨F, h, _⟩ := h; obtain ⟨_, rfl⟩ := h.ptr; obtain ⟨_, _, _, _, hi, _⟩ := h.open_; exact refSynced_in hi name
theorem RLive.read (h : RLive w0 X w v d) (name : ByteArray) : Calls Try.prog 81 #[v, .string name] w fun e w' => e = .returned (.tuple #[.string ⟨(d.read name.data.toList).1.toArray⟩, .int .i64 (d.read name.data.toList).2]) ∧ w = w' := by
  obtain ⟨F, h, _⟩ := h; obtain ⟨_, rfl⟩ := h.ptr; obtain ⟨_, _, _, _, hi, _⟩ := h.open_; exact refRead_in hi name
/-- The struct's own cells. -/
theorem RLive.blk {b : Nat} (h : RLive w0 X w (.pointer (some ⟨b, 0, none⟩)) d) : ∃ st vl nf vk, Blk w b 115 #[.int .i64 d.room, .int .i64 d.starts, .bool d.off, .bool st, vl, .int .i64 nf, vk] := by
  obtain ⟨F, h, _⟩ := h; obtain ⟨vl, vk, st, nf, hi, _⟩ := h.open_; exact ⟨_, _, _, _, hi.blk⟩
theorem rlive_new (c : Nat) (w : World) (h1 : 1 ≤ c) (h2 : c ≤ 1048576) : Calls Try.prog 31 #[.int .i64 c] w fun e w' => ∃ v, e = .returned (.tuple #[v, .int .i64 0]) ∧ RLive w (fun _ => False) w' v (Dk.new c) := by
  refine (refNew_yes c w h1 h2).mono ?_
  rintro e w' ⟨v, rfl, hd, hb⟩
  exact ⟨v, rfl, _, hd, fun k hk => ⟨Nat.le_of_eq hk.symm, id⟩, fun _ hk => hk.elim, hb⟩
end

/-- a is the program's disk da, b the reference's disk db, both made since w0, in no block of X and in none of the other's. -/
def Mate (w0 : World) (X : Nat → Prop) (w : World) (a b : Value) (da db : Dk) : Prop :=
  ∃ Fa Fb, DiskAt w Fa a da ∧ RefAt w Fb b db ∧ (∀ k, Fa k → w0.heap.size ≤ k ∧ ¬ X k ∧ ¬ Fb k) ∧ (∀ k, Fb k → w0.heap.size ≤ k ∧ ¬ X k) ∧ (∀ k, X k → k < w.heap.size) ∧ Below w0.heap.size w0 w
section
variable {w0 w w' : World} {X : Nat → Prop} {a b : Value} {da db x : Dk}
theorem Mate.below (h : Mate w0 X w a b da db) : Below w0.heap.size w0 w := by obtain ⟨_, _, _, _, _, _, _, h⟩ := h; exact h
theorem Mate.size (h : Mate w0 X w a b da db) : w0.heap.size ≤ w.heap.size := h.below.size
theorem Mate.first (h : Mate w0 X w a b da db) : Live w0 X w a da := by
  obtain ⟨Fa, Fb, h1, h2, h3, h4, h5, h6⟩ := h
  exact ⟨Fa, h1, fun k hk => ⟨(h3 k hk).1, (h3 k hk).2.1⟩, h5, h6⟩
theorem Mate.second (h : Mate w0 X w a b da db) : RLive w0 X w b db := by
  obtain ⟨Fa, Fb, h1, h2, h3, h4, h5, h6⟩ := h
  exact ⟨Fb, h2, h4, h5, h6⟩
theorem Mate.add (h : Mate w0 X w a b da db) (hb : Below w.heap.size w w') : Mate w0 (Also X w w') w' a b da db := by
  obtain ⟨Fa, Fb, h1, h2, h3, h4, h5, h6⟩ := h
  have hz := hb.size
  have lt1 := fun k hk => h1.lt k hk
  have lt2 := fun k hk => h2.lt k hk
  refine ⟨Fa, Fb, h1.below hb, h2.below hb, fun k hk => ⟨(h3 k hk).1, fun hx => ?_, (h3 k hk).2.2⟩, fun k hk => ⟨(h4 k hk).1, fun hx => ?_⟩, fun k hk => ?_, h6.trans (hb.mono h6.size)⟩
  · rcases hx with hx | hx
    · exact (h3 k hk).2.1 hx
    · have := lt1 k hk; omega
  · rcases hx with hx | hx
    · exact (h4 k hk).2 hx
    · have := lt2 k hk; omega
  · rcases hk with hk | hk
    · have := h5 k hk; omega
    · exact hk.2
theorem Mate.drop (h : Mate w0 X w a b da db) {Y : Nat → Prop} (hY : ∀ k, Y k → X k) : Mate w0 Y w a b da db := by
  obtain ⟨Fa, Fb, h1, h2, h3, h4, h5, h6⟩ := h
  exact ⟨Fa, Fb, h1, h2, fun k hk => ⟨(h3 k hk).1, fun e => (h3 k hk).2.1 (hY k e), (h3 k hk).2.2⟩, fun k hk => ⟨(h4 k hk).1, fun e => (h4 k hk).2 (hY k e)⟩, fun k hk => h5 k (hY k hk), h6⟩
theorem Mate.keep (h : Mate w0 X w a b da db) (hb : Below w.heap.size w w') : Mate w0 X w' a b da db := (h.add hb).drop fun _ hk => .inl hk
/-- What changes in blocks of X that came since. -/
theorem Mate.poke (h : Mate w0 X w a b da db) {S : Nat → Prop} (hc : Chg S w w') (hS : ∀ k, S k → X k ∧ w0.heap.size ≤ k) : Mate w0 X w' a b da db := by
  obtain ⟨Fa, Fb, h1, h2, h3, h4, h5, h6⟩ := h
  exact ⟨Fa, Fb, h1.chg hc (fun k hk e => (h3 k hk).2.1 (hS k e).1), h2.chg hc (fun k hk e => (h4 k hk).2 (hS k e).1), h3, h4, fun k hk => Nat.lt_of_lt_of_le (h5 k hk) hc.size, h6.trans (hc.below h6.size fun k hk e => by have := (hS k e).2; omega)⟩
theorem Mate.pair {w1 : World} (h1 : Live w0 (fun _ => False) w1 a da) (h2 : RLive w1 (fun _ => False) w b db) : Mate w0 (fun _ => False) w a b da db := by
  obtain ⟨Fa, a1, a2, _, a4⟩ := h1
  obtain ⟨Fb, b1, b2, _, b4⟩ := h2
  have hz := a4.size
  have lt1 := fun k hk => a1.lt k hk
  exact ⟨Fa, Fb, a1.below b4, b1, fun k hk => ⟨(a2 k hk).1, id, fun e => by have := (b2 k e).1; have := lt1 k hk; omega⟩, fun k hk => ⟨Nat.le_trans hz (b2 k hk).1, id⟩, fun _ e => e.elim, a4.trans (b4.mono hz)⟩
theorem Mate.on {P : Program} {f : FuncId} {args : Array Value} {Q : Ending → Prop} (h : Mate w0 X w a b da db)
    (hc : ∀ X', (∀ k, X k → X' k) → Live w0 X' w a da → Calls P f args w fun e w' => Q e ∧ Live w0 X' w' a x ∧ Keeps X' w w') :
    Calls P f args w fun e w' => Q e ∧ Mate w0 X w' a b x db ∧ Keeps X w w' := by
  obtain ⟨Fa, Fb, h1, h2, h3, h4, h5, h6⟩ := h
  have lt2 := fun k hk => h2.lt k hk
  refine (hc (fun k => X k ∨ Fb k) (fun _ hk => .inl hk) ⟨Fa, h1, fun k hk => ⟨(h3 k hk).1, fun e => e.elim (h3 k hk).2.1 (h3 k hk).2.2⟩, fun k hk => hk.elim (h5 k) (lt2 k), h6⟩).mono ?_
  rintro e w' ⟨hq, ⟨F', l1, l2, l3, l4⟩, hk⟩
  exact ⟨hq, ⟨F', Fb, l1, h2.chg hk (fun k hk e => e (.inr hk)), fun k hk => ⟨(l2 k hk).1, fun e => (l2 k hk).2 (.inl e), fun e => (l2 k hk).2 (.inr e)⟩, h4, fun k hk => l3 k (.inl hk), l4⟩, hk.mono fun _ e => .inl e⟩
theorem Mate.onR {P : Program} {f : FuncId} {args : Array Value} {Q : Ending → Prop} (h : Mate w0 X w a b da db)
    (hc : ∀ X', (∀ k, X k → X' k) → RLive w0 X' w b db → Calls P f args w fun e w' => Q e ∧ RLive w0 X' w' b x ∧ Keeps X' w w') :
    Calls P f args w fun e w' => Q e ∧ Mate w0 X w' a b da x ∧ Keeps X w w' := by
  obtain ⟨Fa, Fb, h1, h2, h3, h4, h5, h6⟩ := h
  have lt1 := fun k hk => h1.lt k hk
  refine (hc (fun k => X k ∨ Fa k) (fun _ hk => .inl hk) ⟨Fb, h2, fun k hk => ⟨(h4 k hk).1, fun e => e.elim (h4 k hk).2 (fun e => (h3 k e).2.2 hk)⟩, fun k hk => hk.elim (h5 k) (lt1 k), h6⟩).mono ?_
  rintro e w' ⟨hq, ⟨F', l1, l2, l3, l4⟩, hk⟩
  exact ⟨hq, ⟨Fa, F', h1.chg hk (fun k hk e => e (.inr hk)), l1, fun k hk => ⟨(h3 k hk).1, (h3 k hk).2.1, fun e => (l2 k e).2 (.inr hk)⟩, fun k hk => ⟨(l2 k hk).1, fun e => (l2 k hk).2 (.inl e)⟩, fun k hk => l3 k (.inl hk), l4⟩, hk.mono fun _ e => .inl e⟩
end
end Go.Proofs.Ytenbgfejonokdaa
