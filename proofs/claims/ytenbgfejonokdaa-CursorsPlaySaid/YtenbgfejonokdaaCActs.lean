/- Acts of the laws on cursors: what comes in; 'great', walked. -/
import Derived.Test.YtenbgfejonokdaaCurOpen
namespace Go.Proofs.Ytenbgfejonokdaa
set_option maxRecDepth 100000
open Go.RowKit Go.Maps
open Go.WideShapes Go.ChangeAt
open Dsk

structure ActC where
  kind : Nat
  c : Int × Int
  n : Int
  kv : Value
  keep : List Int
  name : ByteArray
  data : ByteArray
def actCC (a : ActC) : List Value := [.int .u8 a.kind, .int .i64 a.c.1, .int .i64 a.c.2, .int .i64 a.n, a.kv, .string a.name, .string a.data]
structure ActCOk (w : World) (B : Nat) (a : ActC) : Prop where
  kind : a.kind < 256
  c : CurOk a.c
  n : -9223372036854775808 ≤ a.n ∧ a.n ≤ 9223372036854775807
  kv : KeepR w (fun k => B ≤ k) a.kv a.keep
  keep : a.keep.length ≤ maxLen
  name : a.name.size ≤ maxLen
  data : a.data.size ≤ maxLen
theorem ActCOk.chg {w w' : World} {B : Nat} {a : ActC} {T : Nat → Prop} (h : ActCOk w B a) (x : Chg T w w') (hT : ∀ k, T k → B ≤ k) : ActCOk w' B a := ⟨h.kind, h.c, h.n, h.kv.chg x hT, h.keep, h.name, h.data⟩
def RdK (w : World) (B : Nat) (v : Value) (l : List ActC) : Prop :=
  ∃ x c, v = .slice x l.length c ∧ ∀ (j : Nat) (hj : j < l.length), ActCOk w B l[j] ∧ ∃ b off, x = some ⟨b, off, none⟩ ∧ b < B ∧ b < w.heap.size ∧ ∀ i, i < 7 → w.cell? ⟨b, off + (j * 7 + i), none⟩ = (actCC l[j])[i]?
theorem RdK.chg {w w' : World} {B : Nat} {v : Value} {l : List ActC} {T : Nat → Prop} (h : RdK w B v l) (x : Chg T w w') (hT : ∀ k, T k → B ≤ k) : RdK w' B v l := by
  obtain ⟨a, c, rfl, h⟩ := h
  refine ⟨a, c, rfl, fun j hj => ?_⟩
  obtain ⟨ho, b, off, e, hb, hs, hc⟩ := h j hj
  refine ⟨ho.chg x hT, b, off, e, hb, Nat.lt_of_lt_of_le hs x.size, fun i hi => ?_⟩
  rw [← hc i hi]
  exact x.cell (p := ⟨b, _, none⟩) hs fun ht => by have := hT _ ht; simp at this; omega
theorem actC_under : Try.prog.underlying 52 = some (.struct (Try.prog.fieldsOf 52)) := by kernel_rfl
theorem actsC_under : Try.prog.underlying 49 = some (.slice 52) := by kernel_rfl
theorem actC_cells : Try.prog.cellsOf 52 = (Try.prog.fieldsOf 115).size := by kernel_rfl
theorem actC_size : (Try.prog.fieldsOf 115).size = 7 := by kernel_rfl
theorem actC_f0 : ((Try.prog.fieldsOf 52)[0]?).map (fun f => (f.type, f.offset)) = some (5, 0) := by kernel_rfl
theorem actC_f1 : ((Try.prog.fieldsOf 52)[1]?).map (fun f => (f.type, f.offset)) = some (23, 1) := by kernel_rfl
theorem actC_f2 : ((Try.prog.fieldsOf 52)[2]?).map (fun f => (f.type, f.offset)) = some (3, 3) := by kernel_rfl
theorem actC_f3 : ((Try.prog.fieldsOf 52)[3]?).map (fun f => (f.type, f.offset)) = some (33, 4) := by kernel_rfl
theorem actC_f4 : ((Try.prog.fieldsOf 52)[4]?).map (fun f => (f.type, f.offset)) = some (9, 5) := by kernel_rfl
theorem actC_f5 : ((Try.prog.fieldsOf 52)[5]?).map (fun f => (f.type, f.offset)) = some (9, 6) := by kernel_rfl
theorem ck_byte : Try.prog.cellsOf 5 = 1 := by kernel_rfl
theorem ck_cur : Try.prog.cellsOf 23 = 2 := by kernel_rfl
theorem ck_int : Try.prog.cellsOf 3 = 1 := by kernel_rfl
theorem ck_ints : Try.prog.cellsOf 33 = 1 := by kernel_rfl
theorem ck_string : Try.prog.cellsOf 9 = 1 := by kernel_rfl
section
variable {H : Type} {enc : TypeId × Value → H} {w : World} {base : Nat} {sp : Nat → Bool} {held : Bool}
theorem actCOf {fuel : Nat} {cs : List Value} {y : DataW H × List MemPlace} (h : DataW.trod enc Try.prog w base sp held fuel 52 cs = some y) : ∃ a, cs = actCC a ∧ ActCOk w w.heap.size a := by
  obtain ⟨ys, n, _, _, hlen, hyl, hf⟩ := DataW.trod_struct actC_under h
  rw [actC_cells, actC_size] at hlen
  match cs, hlen, hf with
  | [c0, c1, c2, c3, c4, c5, c6], _, hf =>
    have fa : ∀ (j : Nat) (t o k : Nat), ((Try.prog.fieldsOf 52)[j]?).map (fun f => (f.type, f.offset)) = some (t, o) → Try.prog.cellsOf t = k → ∃ y, DataW.trod enc Try.prog w base sp held n t ((([c0, c1, c2, c3, c4, c5, c6] : List Value).drop o).take k) = some y := by
      intro j t o k hj hk
      obtain ⟨f, hfj, hto⟩ := Option.map_eq_some_iff.1 hj
      simp only [Prod.mk.injEq] at hto
      obtain ⟨rfl, rfl⟩ := hto
      have h1 := hf j f hfj
      rw [hk] at h1
      have hjl : j < (Try.prog.fieldsOf 52).size := (Array.getElem?_eq_some_iff.1 hfj).1
      rw [List.getElem?_eq_getElem (show j < ys.length by omega)] at h1
      exact ⟨_, h1⟩
    obtain ⟨y0, h0⟩ := fa 0 _ _ _ actC_f0 ck_byte
    obtain ⟨y1, h1⟩ := fa 1 _ _ _ actC_f1 ck_cur
    obtain ⟨y2, h2⟩ := fa 2 _ _ _ actC_f2 ck_int
    obtain ⟨y3, h3⟩ := fa 3 _ _ _ actC_f3 ck_ints
    obtain ⟨y4, h4⟩ := fa 4 _ _ _ actC_f4 ck_string
    obtain ⟨y5, h5⟩ := fa 5 _ _ _ actC_f5 ck_string
    simp at h0 h1 h2 h3 h4 h5
    obtain ⟨k, hk, _, w0⟩ := DataW.trod_int under_byte h0
    obtain ⟨c, hc, hco⟩ := curOf h1
    obtain ⟨z, hz, _, w2⟩ := DataW.trod_int under_int' h2
    obtain ⟨l, hkr, hll⟩ := keepOf h3
    obtain ⟨s1, hs1, _, w4⟩ := DataW.trod_string under_string h4
    obtain ⟨s2, hs2, _, w5⟩ := DataW.trod_string under_string h5
    simp at hk hc hz hs1 hs2
    obtain ⟨rfl, rfl⟩ := hc
    subst hk hz hs1 hs2
    have b0 := bounds_u8 w0
    have b2 := bounds_i64 w2
    refine ⟨⟨k.toNat, c, z, c4, l, s1, s2⟩, ?_, ⟨by show k.toNat < 256; omega, hco, b2, hkr, hll, w4, w5⟩⟩
    unfold actCC
    have ek : ((k.toNat : Nat) : Int) = k := Int.toNat_of_nonneg b0.1
    rw [ek]
theorem openCActs {r : Reach} {b0 : Nat} {v : Value} {d : DataW H} {p : List MemPlace} (hv : Value.okWide Try.prog w r b0 49 v) (h : DataW.Trod enc Try.prog w base sp held 49 v d p) :
    ∃ a : Value × List ActC, v = a.1 ∧ RdK w w.heap.size a.1 a.2 ∧ a.2.length ≤ maxLen := by
  obtain ⟨a0, len, cap, rfl⟩ := okWide_slice actsC_under hv
  obtain ⟨fuel, hf⟩ := h
  have hf2 : DataW.trod enc Try.prog w base sp held fuel 49 [.slice a0 len cap] = some (d, p) := by simpa [Value.cells] using hf
  obtain ⟨hlm, hnil, hel⟩ := rowOf actsC_under actC_cells (by rw [actC_size]; omega) hf2
  have hex : ∀ i : Fin len, ∃ a : ActC, ActCOk w w.heap.size a ∧ ∃ b off, a0 = some ⟨b, off, none⟩ ∧ b < w.heap.size ∧ ∀ j, j < 7 → w.cell? ⟨b, off + (i * 7 + j), none⟩ = (actCC a)[j]? := fun i => by
    obtain ⟨b, off, cs, n, e, hb, hcl, hc, y, hy⟩ := hel i i.2
    obtain ⟨a, rfl, ho⟩ := actCOf hy
    rw [actC_size] at hc
    exact ⟨a, ho, b, off, e, hb, hc⟩
  obtain ⟨f, hf⟩ := Classical.axiomOfChoice hex
  refine ⟨(.slice a0 len cap, List.ofFn f), rfl, ⟨a0, cap, by simp, fun j hj => ?_⟩, by simpa using hlm⟩
  have hj' : j < len := by simpa using hj
  obtain ⟨h1, b, off, h2, h3, h4⟩ := hf ⟨j, hj'⟩
  simp only [List.getElem_ofFn]
  exact ⟨h1, b, off, h2, h3, h3, h4⟩
end
/-- An act's cells, one by one. -/
theorem actC_load {w : World} {b off : Nat} {a : ActC} (hc : ∀ i, i < 7 → w.cell? ⟨b, off + i, none⟩ = (actCC a)[i]?) :
    w.cell? ⟨b, off, none⟩ = some (.int .u8 a.kind) ∧ w.cell? ⟨b, off + 1, none⟩ = some (.int .i64 a.c.1) ∧ w.cell? ⟨b, off + 2, none⟩ = some (.int .i64 a.c.2) ∧ w.cell? ⟨b, off + 3, none⟩ = some (.int .i64 a.n) ∧ w.cell? ⟨b, off + 4, none⟩ = some a.kv ∧ w.cell? ⟨b, off + 5, none⟩ = some (.string a.name) ∧ w.cell? ⟨b, off + 6, none⟩ = some (.string a.data) :=
  ⟨hc 0 (by omega), hc 1 (by omega), hc 2 (by omega), hc 3 (by omega), hc 4 (by omega), hc 5 (by omega), hc 6 (by omega)⟩
theorem KeepR.form' {w : World} {S : Nat → Prop} {v : Value} {l : List Int} (h : KeepR w S v l) : ∃ x c, v = .slice x l.length c := by obtain ⟨x, c, e, _⟩ := h; exact ⟨x, c, e⟩
def SmallC (l : List ActC) : Prop := l.length ≤ 100 ∧ ∀ (j : Nat) (hj : j < l.length), l[j].keep.length ≤ 100 ∧ l[j].name.size ≤ 100 ∧ l[j].data.size ≤ 300
def GreatC (l : List ActC) (w : World) (e : Ending) (w' : World) : Prop := ∃ b, e = .returned (.bool b) ∧ (b = false → SmallC l) ∧ w = w'
set_option maxHeartbeats 4000000 in
theorem greatC_any (v : Value) (l : List ActC) (B : Nat) (w : World) (h : RdK w B v l) (hm : l.length ≤ 9223372036854775807) :
    Calls Try.prog 28 #[v] w (GreatC l w) := by
  obtain ⟨x, c, rfl, hel⟩ := h
  have Hel := Lib.hid hel
  clear hel
  go_enter Try.func28, Try.ntmps28
  go_wp2_with fail
  go_loop [3] (fun v3 => ∃ (k : Nat), v3 = .int .i64 k ∧ k ≤ l.length ∧ ∀ (j : Nat) (hj : j < l.length), j < k → l[j].keep.length ≤ 100 ∧ l[j].name.size ≤ 100 ∧ l[j].data.size ≤ 300) (fun v3 => l.length - (intOf v3).toNat)
  case atStart => exact ⟨0, rfl, Nat.zero_le _, fun j _ hj => absurd hj (by omega)⟩
  case round =>
    obtain ⟨k, rfl, hk, hsm⟩ := hrel
    have Hsm := Lib.hid hsm
    clear hsm
    by_cases hlt : k < l.length
    · obtain ⟨ho, b, off, rfl, _, _, hc⟩ := Hel.out k hlt
      obtain ⟨j0, j1, j2, j3, c4, c5, c6⟩ := actC_load (b := b) (off := off + k * 7) (a := l[k]) (fun i hi => by rw [Nat.add_assoc]; exact hc i hi)
      have n4 := ho.keep
      have n5 := ho.name
      have n6 := ho.data
      unfold maxLen at n4 n5 n6
      obtain ⟨kx, kc, hkv⟩ := ho.kv.form'
      obtain ⟨a, ha⟩ : ∃ a, a = l[k] := ⟨_, rfl⟩
      rw [← ha] at c4 c5 c6 n4 n5 n6 hkv
      obtain ⟨ak, acc, ai, av, akl, an, ad⟩ := a
      have HA := Lib.hid ha
      clear ha
      simp only at c4 c5 c6 n4 n5 n6 hkv
      subst hkv
      clear hc ho j0 j1 j2 j3
      go_wp2_with fail
      all_goals first
        | (go_ret; exact ⟨true, rfl, fun h => (by cases h), rfl⟩)
        | (go_round
           case rel => exact ⟨k + 1, by go_num, by omega, fun j hj hjk => (by
             by_cases e : j < k
             · exact Hsm.out j hj e
             · obtain rfl : j = k := by omega
               rw [← HA.out]; exact ⟨by show akl.length ≤ 100; omega, by show an.size ≤ 100; omega, by show ad.size ≤ 300; omega⟩)⟩
           case measure => simp [intOf]; omega)
    · have hge : ¬ (k : Int) < l.length := by omega
      obtain rfl : k = l.length := by omega
      go_wp2_with fail
      go_ret
      by_cases h100 : 100 < l.length
      · exact ⟨true, by simp; omega, fun h => (by cases h), rfl⟩
      · exact ⟨false, by simp; omega, fun _ => ⟨by omega, fun j hj => Hsm.out j hj hj⟩, rfl⟩
end Go.Proofs.Ytenbgfejonokdaa
