/- Acts of the laws on journals: what comes in; 'beyond', walked. -/
import Derived.Test.YtcijhhnbhnaiaaaGreatDoorJouOpen
import Derived.Test.YtcijhhnbhnaiaaaGreatDoorLiveM
import Derived.SliceStrings
import Derived.ProofKit
import Derived.OpenShut
namespace Go.Proofs.YtcijhhnbhnaiaaaGreatDoor
set_option linter.unusedSimpArgs false
set_option linter.unusedVariables false
set_option maxRecDepth 100000
open Go.RowKit Go.Maps
open Go.WideShapes Go.ChangeAt Go.Deep
open Go.ChangeShapes (open_ints)
open Dsk

structure JAct where
  kind : Nat
  cv : Value
  cells : List Jou.Cell
  more : Nat
  kv : Value
  keep : List Int
def jactC (a : JAct) : List Value := [.int .u8 a.kind, a.cv, .int .u8 a.more, a.kv]
structure JActOk (w : World) (B : Nat) (a : JAct) : Prop where
  kind : a.kind < 256
  rd : RdC w a.cv a.cells
  len : a.cells.length ≤ maxLen
  bnd : ∀ (j : Nat) (hj : j < a.cells.length), CelBnd a.cells[j]
  more : a.more < 256
  kv : KeepR w (fun k => B ≤ k) a.kv a.keep
  keep : a.keep.length ≤ maxLen
theorem JActOk.below {w w' : World} {B : Nat} {a : JAct} (h : JActOk w B a) (x : Below w.heap.size w w') : JActOk w' B a := ⟨h.kind, h.rd.below x, h.len, h.bnd, h.more, h.kv.chg (T := fun _ => False) (Chg.of_below x) (fun _ e => e.elim), h.keep⟩
/-- A slice that reads as these acts. -/
def RdJ (w : World) (B : Nat) (v : Value) (l : List JAct) : Prop :=
  ∃ x c, v = .slice x l.length c ∧ ∀ (j : Nat) (hj : j < l.length), JActOk w B l[j] ∧ ∃ b off, x = some ⟨b, off, none⟩ ∧ b < w.heap.size ∧ ∀ i, i < 4 → w.cell? ⟨b, off + (j * 4 + i), none⟩ = (jactC l[j])[i]?
theorem RdJ.below {w w' : World} {B : Nat} {v : Value} {l : List JAct} (h : RdJ w B v l) (x : Below w.heap.size w w') : RdJ w' B v l := by
  obtain ⟨a, c, rfl, h⟩ := h
  refine ⟨a, c, rfl, fun j hj => ?_⟩
  obtain ⟨ho, b, off, e, hb, hc⟩ := h j hj
  refine ⟨ho.below x, b, off, e, Nat.lt_of_lt_of_le hb x.size, fun i hi => ?_⟩
  rw [← hc i hi]
  exact x.cell (p := ⟨b, _, none⟩) hb
theorem jact_fields : Go.Deep.oneCellFields Tryz.prog (Tryz.prog.fieldsOf 39) = true := by kernel_rfl
theorem jact_under : Tryz.prog.underlying 39 = some (.struct (Tryz.prog.fieldsOf 39)) := by kernel_rfl
theorem jacts_under : Tryz.prog.underlying 22 = some (.slice 39) := by kernel_rfl
theorem jact_cells : Tryz.prog.cellsOf 39 = (Tryz.prog.fieldsOf 39).size := by kernel_rfl
theorem jact_size : (Tryz.prog.fieldsOf 39).size = 4 := by kernel_rfl
theorem jact_t0 : ((Tryz.prog.fieldsOf 39)[0]?).map (·.type) = some 5 := by kernel_rfl
theorem jact_t1 : ((Tryz.prog.fieldsOf 39)[1]?).map (·.type) = some 30 := by kernel_rfl
theorem jact_t2 : ((Tryz.prog.fieldsOf 39)[2]?).map (·.type) = some 5 := by kernel_rfl
theorem jact_t3 : ((Tryz.prog.fieldsOf 39)[3]?).map (·.type) = some 37 := by kernel_rfl
theorem u8_under : Tryz.prog.underlying 5 = some (.int .u8) := by kernel_rfl
section
variable {H : Type} {enc : TypeId × Value → H} {w : World} {base : Nat} {sp : Nat → Bool} {held : Bool}
/-- A slice of numbers that came in. -/
theorem keepIn {fuel : Nat} {v : Value} {y : DataW H × List MemPlace} (h : DataW.trod enc Tryz.prog w base sp held fuel 37 [v] = some y) :
    ∃ l, KeepR w (fun k => w.heap.size ≤ k) v l ∧ l.length ≤ maxLen := by
  rcases open_ints under_ints (by kernel_rfl : Tryz.prog.underlying 3 = some (.int .i64)) (by kernel_rfl) h with ⟨hcs, _⟩ | ⟨a, len, cap, zs, hcs, _, hl, hm, hz, _, hcell, _⟩
  · simp at hcs
    subst hcs
    exact ⟨[], ⟨none, 0, rfl, fun _ => rfl, fun j hj => absurd hj (by simp)⟩, Nat.zero_le _⟩
  · simp at hcs
    subst hcs
    have hlen : len ≤ zs.length := by rw [hz]; split <;> omega
    have ht : (zs.take len).length = len := by rw [List.length_take]; omega
    refine ⟨zs.take len, ⟨some a, cap, by rw [ht], fun e => (by cases e), fun j hj => ?_⟩, by rw [ht]; omega⟩
    have hj' : j < len := by rw [← ht]; exact hj
    have hc := hcell j (by omega)
    have hc0 := hcell 0 (by omega)
    obtain ⟨b, off, spot⟩ := a
    have hspot : spot = none := by simpa [Addr.add] using World.cell?_spot hc0
    subst hspot
    have e : (⟨b, off, none⟩ : Addr).add j = ⟨b, off + j, none⟩ := by unfold Addr.add; split <;> simp_all
    rw [e] at hc
    have hb : b < w.heap.size := by
      rcases Nat.lt_or_ge b w.heap.size with hlt | hge
      · exact hlt
      · simp [World.cell?, Array.getElem?_eq_none hge] at hc
    refine ⟨b, off, rfl, hb, by omega, ?_⟩
    rw [hc]
    simp [List.getElem_take, List.getD_eq_getElem?_getD, List.getElem?_eq_getElem (show j < zs.length by omega)]
/-- A slice of bytes that reads so. -/
def RdU (w : World) (v : Value) (l : List Int) : Prop :=
  ∃ x c, v = .slice x l.length c ∧ ∀ (j : Nat) (hj : j < l.length), 0 ≤ l[j] ∧ l[j] ≤ 255 ∧ ∃ b off, x = some ⟨b, off, none⟩ ∧ b < w.heap.size ∧ w.cell? ⟨b, off + j, none⟩ = some (.int .u8 l[j])
theorem RdU.below {w' : World} {v : Value} {l : List Int} (h : RdU w v l) (x : Below w.heap.size w w') : RdU w' v l := by
  obtain ⟨a, c, rfl, h⟩ := h
  refine ⟨a, c, rfl, fun j hj => ?_⟩
  obtain ⟨h1, h2, b, off, e, hb, hc⟩ := h j hj
  exact ⟨h1, h2, b, off, e, Nat.lt_of_lt_of_le hb x.size, (x.cell (p := ⟨b, _, none⟩) hb).trans hc⟩
theorem u8s_under : Tryz.prog.underlying 64 = some (.slice 5) := by kernel_rfl
theorem u8sIn {fuel : Nat} {v : Value} {y : DataW H × List MemPlace} (h : DataW.trod enc Tryz.prog w base sp held fuel 64 [v] = some y) :
    ∃ l, RdU w v l ∧ l.length ≤ maxLen := by
  rcases open_ints u8s_under u8_under (by kernel_rfl) h with ⟨hcs, _⟩ | ⟨a, len, cap, zs, hcs, _, hl, hm, hz, _, hcell, hwf⟩
  · simp at hcs
    subst hcs
    exact ⟨[], ⟨none, 0, rfl, fun j hj => absurd hj (by simp)⟩, Nat.zero_le _⟩
  · simp at hcs
    subst hcs
    have hlen : len ≤ zs.length := by rw [hz]; split <;> omega
    have ht : (zs.take len).length = len := by rw [List.length_take]; omega
    refine ⟨zs.take len, ⟨some a, cap, by rw [ht], fun j hj => ?_⟩, by rw [ht]; omega⟩
    have hj' : j < len := by rw [← ht]; exact hj
    have hc := hcell j (by omega)
    have hc0 := hcell 0 (by omega)
    obtain ⟨b, off, spot⟩ := a
    have hspot : spot = none := by simpa [Addr.add] using World.cell?_spot hc0
    subst hspot
    have e : (⟨b, off, none⟩ : Addr).add j = ⟨b, off + j, none⟩ := by unfold Addr.add; split <;> simp_all
    rw [e] at hc
    have hb : b < w.heap.size := by
      rcases Nat.lt_or_ge b w.heap.size with hlt | hge
      · exact hlt
      · simp [World.cell?, Array.getElem?_eq_none hge] at hc
    have hbd := bounds_u8 (hwf (zs.take len)[j] (List.mem_of_mem_take (List.getElem_mem hj)))
    refine ⟨hbd.1, hbd.2, b, off, rfl, hb, ?_⟩
    rw [hc]
    simp [List.getElem_take, List.getD_eq_getElem?_getD, List.getElem?_eq_getElem (show j < zs.length by omega)]
theorem openU8s {r : Reach} {b0 : Nat} {v : Value} {d : DataW H} {p : List MemPlace} (hv : Value.okWide Tryz.prog w r b0 64 v) (h : DataW.Trod enc Tryz.prog w base sp held 64 v d p) :
    ∃ a : Value × List Int, v = a.1 ∧ RdU w a.1 a.2 ∧ a.2.length ≤ maxLen := by
  obtain ⟨a0, len, cap, rfl⟩ := okWide_slice u8s_under hv
  obtain ⟨fuel, hf⟩ := h
  obtain ⟨l, hk, hl⟩ := u8sIn (by simpa [Value.cells] using hf)
  exact ⟨(_, l), rfl, hk, hl⟩
theorem jactOf {fuel : Nat} {cs : List Value} {y : DataW H × List MemPlace} (h : DataW.trod enc Tryz.prog w base sp held fuel 39 cs = some y) : ∃ a, cs = jactC a ∧ JActOk w w.heap.size a := by
  obtain ⟨hl, n, hf⟩ := fieldsOf jact_under jact_fields jact_cells h
  rw [jact_size] at hl
  obtain ⟨v0, y0, e0, h0⟩ := fieldVal hf 0 _ jact_t0
  obtain ⟨v1, y1, e1, h1⟩ := fieldVal hf 1 _ jact_t1
  obtain ⟨v2, y2, e2, h2⟩ := fieldVal hf 2 _ jact_t2
  obtain ⟨v3, y3, e3, h3⟩ := fieldVal hf 3 _ jact_t3
  obtain ⟨k, hk, _, w0⟩ := DataW.trod_int u8_under h0
  obtain ⟨m, hm, _, w2⟩ := DataW.trod_int u8_under h2
  obtain ⟨l, hkr, hll⟩ := keepIn h3
  obtain ⟨a1, len, cap, hv1⟩ : ∃ a1 len cap, v1 = .slice a1 len cap := by
    rcases Go.Deep.open_slice under_cells h1 with ⟨h0, _⟩ | ⟨a', len', cap', _, _, _, _, hcs, _⟩
    · simp at h0; exact ⟨_, _, _, h0⟩
    · simp at hcs; exact ⟨_, _, _, hcs⟩
  subst hv1
  obtain ⟨cl, c1, c2, c3, c4⟩ := rdC_in h1
  simp at hk hm
  subst hk hm
  have b0 := bounds_u8 w0
  have b2 := bounds_u8 w2
  refine ⟨⟨k.toNat, .slice a1 len cap, cl, m.toNat, v3, l⟩, ?_, ⟨by show k.toNat < 256; omega, c1, by show cl.length ≤ maxLen; rw [c2]; exact c3, c4, by show m.toNat < 256; omega, hkr, hll⟩⟩
  unfold jactC
  have ek : ((k.toNat : Nat) : Int) = k := Int.toNat_of_nonneg b0.1
  have em : ((m.toNat : Nat) : Int) = m := Int.toNat_of_nonneg b2.1
  rw [ek, em]
  match cs, hl with
  | [x0, x1, x2, x3], _ => simp at e0 e1 e2 e3; rw [e0, e1, e2, e3]
theorem openJActs {r : Reach} {b0 : Nat} {v : Value} {d : DataW H} {p : List MemPlace} (hv : Value.okWide Tryz.prog w r b0 22 v) (h : DataW.Trod enc Tryz.prog w base sp held 22 v d p) :
    ∃ a : Value × List JAct, v = a.1 ∧ RdJ w w.heap.size a.1 a.2 ∧ a.2.length ≤ maxLen := by
  obtain ⟨a0, len, cap, rfl⟩ := okWide_slice jacts_under hv
  obtain ⟨fuel, hf⟩ := h
  have hf2 : DataW.trod enc Tryz.prog w base sp held fuel 22 [.slice a0 len cap] = some (d, p) := by simpa [Value.cells] using hf
  obtain ⟨hlm, hnil, hel⟩ := rowOf jacts_under jact_cells (by rw [jact_size]; omega) hf2
  have hex : ∀ i : Fin len, ∃ a : JAct, JActOk w w.heap.size a ∧ ∃ b off, a0 = some ⟨b, off, none⟩ ∧ b < w.heap.size ∧ ∀ j, j < 4 → w.cell? ⟨b, off + (i * 4 + j), none⟩ = (jactC a)[j]? := fun i => by
    obtain ⟨b, off, cs, n, e, hb, hcl, hc, y, hy⟩ := hel i i.2
    obtain ⟨a, rfl, ho⟩ := jactOf hy
    rw [jact_size] at hc
    exact ⟨a, ho, b, off, e, hb, hc⟩
  obtain ⟨f, hf⟩ := Classical.axiomOfChoice hex
  refine ⟨(.slice a0 len cap, List.ofFn f), rfl, ⟨a0, cap, by simp, fun j hj => ?_⟩, by simpa using hlm⟩
  have hj' : j < len := by simpa using hj
  obtain ⟨h1, b, off, h2, h3, h4⟩ := hf ⟨j, hj'⟩
  simp only [List.getElem_ofFn]
  exact ⟨h1, b, off, h2, h3, h4⟩
end
theorem jact_load {w : World} {b off : Nat} {a : JAct} (hc : ∀ i, i < 4 → w.cell? ⟨b, off + i, none⟩ = (jactC a)[i]?) :
    w.cell? ⟨b, off, none⟩ = some (.int .u8 a.kind) ∧ w.cell? ⟨b, off + 1, none⟩ = some a.cv ∧ w.cell? ⟨b, off + 2, none⟩ = some (.int .u8 a.more) ∧ w.cell? ⟨b, off + 3, none⟩ = some a.kv := ⟨hc 0 (by omega), hc 1 (by omega), hc 2 (by omega), hc 3 (by omega)⟩
theorem KeepR.formJ {w : World} {S : Nat → Prop} {v : Value} {l : List Int} (h : KeepR w S v l) : ∃ x c, v = .slice x l.length c := by obtain ⟨x, c, e, _⟩ := h; exact ⟨x, c, e⟩
theorem RdC.form {w : World} {v : Value} {l : List Jou.Cell} (h : RdC w v l) : ∃ x c, v = .slice x l.length c := by obtain ⟨x, c, e, _⟩ := h; exact ⟨x, c, e⟩
def SmallJ (l : List JAct) (many : Int) : Prop := (l.length : Int) ≤ many ∧ ∀ (j : Nat) (hj : j < l.length), SmallC l[j].cells 20 ∧ l[j].keep.length ≤ 20
set_option maxHeartbeats 4000000 in
theorem beyondJ_any (v : Value) (l : List JAct) (B : Nat) (many : Int) (w : World) (h : RdJ w B v l) (hl : l.length ≤ maxLen) :
    Calls Tryz.prog 9 #[v, .int .i64 many] w fun e w' => (∃ b : Nat, e = .returned (.bool (b == 1)) ∧ (b ≠ 1 → SmallJ l many)) ∧ w = w' := by
  obtain ⟨x, c, rfl, hel⟩ := h
  have Hel := Lib.hid hel
  unfold maxLen at hl
  obtain ⟨n, hn⟩ : ∃ n, n = l.length := ⟨_, rfl⟩
  rw [← hn] at hl ⊢
  have Hn := Lib.hid hn
  clear hel hn
  by_cases hmany : many < n
  case pos =>
    go_enter Tryz.func9, Tryz.ntmps9
    go_wp2_with fail
    go_ret
    exact ⟨⟨1, rfl, fun h => absurd rfl h⟩, rfl⟩
  case neg =>
    have hm2 : ¬ many < (n : Int) := hmany
    go_enter Tryz.func9, Tryz.ntmps9
    go_wp2_with fail
    go_loop [5] (fun v5 => ∃ k : Nat, v5 = .int .i64 k ∧ k ≤ n ∧ ∀ (j : Nat) (hj : j < l.length), j < k → SmallC l[j].cells 20 ∧ l[j].keep.length ≤ 20) (fun v5 => n - (intOf v5).toNat)
    case atStart => exact ⟨0, rfl, Nat.zero_le _, fun j _ h => absurd h (by omega)⟩
    case round =>
      obtain ⟨k, rfl, hk, hsm⟩ := hrel
      have Hsm := Lib.hid hsm
      clear hsm
      by_cases hlt : k < n
      · have hkl : k < l.length := by rw [← Hn.out]; exact hlt
        obtain ⟨ho, b, off, rfl, _, hc⟩ := Hel.out k hkl
        obtain ⟨_, c1, _, c3⟩ := jact_load (b := b) (off := off + k * 4) (a := l[k]) (fun i hi => by rw [Nat.add_assoc]; exact hc i hi)
        obtain ⟨kx, kc, hkv⟩ := ho.kv.formJ
        obtain ⟨cx, cc, hcv⟩ := ho.rd.form
        have hkl' := ho.keep
        unfold maxLen at hkl'
        have HB := Lib.hid (beyondC_any l[k].cv l[k].cells 20 w ho.rd ho.len ho.bnd)
        rw [hkv] at c3
        rw [hcv] at c1
        rw [hcv] at HB
        have HE := Lib.hid (show SmallC l[k].cells 20 ∧ l[k].keep.length ≤ 20 → SmallC l[k].cells 20 ∧ l[k].keep.length ≤ 20 from id)
        obtain ⟨kn, hkn⟩ : ∃ kn, kn = l[k].keep.length := ⟨_, rfl⟩
        obtain ⟨cn, hcn⟩ : ∃ cn, cn = l[k].cells.length := ⟨_, rfl⟩
        rw [← hkn] at c3 hkl'
        rw [← hcn] at c1 HB
        have HKN := Lib.hid hkn
        have HG := Lib.hid (show (∀ j (hj : j < l.length), j < k → SmallC l[j].cells 20 ∧ l[j].keep.length ≤ 20) → SmallC l[k].cells 20 → kn ≤ 20 → ∀ j (hj : j < l.length), j < k + 1 → SmallC l[j].cells 20 ∧ l[j].keep.length ≤ 20 from fun ha hs hk2 j hj hjk => by
          by_cases e : j = k
          · subst e; exact ⟨hs, by omega⟩
          · exact ha j hj (by omega))
        obtain ⟨Q, hQ⟩ : ∃ Q : Prop, Q = SmallC l[k].cells 20 := ⟨_, rfl⟩
        rw [← hQ] at HB
        have HQ := Lib.hid hQ
        clear hc ho hkv hcv HE hkn hcn hQ
        go_wp2_with fail
        refine HB.out.mono ?_
        rintro e w' ⟨⟨g, rfl, hg⟩, rfl⟩
        by_cases g1 : g = 1
        · subst g1
          clear hg
          go_wp2_with fail
          go_ret
          exact ⟨⟨1, rfl, fun h => absurd rfl h⟩, rfl⟩
        · have t1 : (g == 1) = false := beq_eq_false_iff_ne.2 g1
          rw [t1]
          have HS := Lib.hid (hg g1)
          clear hg g1 t1
          by_cases h20 : 20 < kn
          · have h20' : (20 : Int) < kn := by omega
            go_wp2_with fail
            go_ret
            exact ⟨⟨1, rfl, fun h => absurd rfl h⟩, rfl⟩
          · have h20' : ¬ (20 : Int) < kn := by omega
            go_wp2_with fail
            go_round
            case rel => exact ⟨k + 1, by go_num, by omega, HG.out Hsm.out (HQ.out ▸ HS.out) (by omega)⟩
            case measure => simp [intOf]; omega
      · obtain rfl : k = n := by omega
        go_wp2_with fail
        go_ret
        exact ⟨⟨0, rfl, fun _ => ⟨by rw [← Hn.out]; omega, fun j hj => Hsm.out j hj (by rw [Hn.out]; exact hj)⟩⟩, rfl⟩
end Go.Proofs.YtcijhhnbhnaiaaaGreatDoor
