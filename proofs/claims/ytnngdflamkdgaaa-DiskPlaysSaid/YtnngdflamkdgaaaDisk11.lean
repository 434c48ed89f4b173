/- The disk's Append. -/
import Derived.Test.YtnngdflamkdgaaaDisk10
namespace Go.Proofs.Ytnngdflamkdgaaa
set_option maxRecDepth 100000
open Go.RowKit Go.Maps
open Dsk

section
variable {w : World} {F : Nat → Prop} {d : Dk}
theorem append_off {v : Value} (h : DiskAt w F v d) (hoff : d.off = true) (name s : ByteArray) :
    Calls Try.prog 11 #[v, .string name, .string s] w fun e w' => e = .returned (.int .i64 51) ∧ w = w' := by
  obtain ⟨bd, bm, cv, kv, rfl, h, hf⟩ := h
  have hr := runs_in h
  rw [hoff] at hr
  clear h hf hoff
  go_enter Try.func11, Try.ntmps11
  go_wp2_with (go_at_call 38; refine hr.mono ?_; rintro e w' ⟨rfl, rfl⟩)
  go_ret
  exact ⟨rfl, rfl⟩
theorem append_bad {v : Value} (h : DiskAt w F v d) (hoff : d.off = false) (name s : ByteArray) (hn : name.size ≤ maxLen) (hnm : ¬ Named name.data.toList) :
    Calls Try.prog 11 #[v, .string name, .string s] w fun e w' => e = .returned (.int .i64 2) ∧ w = w' := by
  obtain ⟨bd, bm, cv, kv, rfl, h, hf⟩ := h
  have hr := runs_in h
  rw [hoff] at hr
  have hna := named_any name w hn (b := false) (by simp [hnm])
  clear h hf hoff hnm
  go_enter Try.func11, Try.ntmps11
  go_wp2_with (first
    | (go_at_call 38; refine hr.mono ?_; rintro e w' ⟨rfl, rfl⟩)
    | (go_at_call 39; refine hna.mono ?_; rintro e w' ⟨rfl, rfl⟩))
  go_ret
  exact ⟨rfl, rfl⟩
set_option maxRecDepth 100000 in
set_option maxHeartbeats 1000000 in
theorem append_many {v : Value} (h : DiskAt w F v d) (hoff : d.off = false) (name s : ByteArray) (hn : name.size ≤ maxLen) (hnm : Named name.data.toList) (hg : get d.files name.data.toList = none) (hfull : 1024 ≤ d.files.length) :
    Calls Try.prog 11 #[v, .string name, .string s] w fun e w' => e = .returned (.int .i64 50) ∧ Below w.heap.size w w' := by
  obtain ⟨bd, bm, cv, kv, rfl, h, hf⟩ := h
  have hbd := h.blk.lt
  have hr := runs_in h
  rw [hoff] at hr
  have hna := named_any name w hn (b := true) (by simp [hnm])
  have c3 := h.blk.cell 3
  simp at c3
  have Hg := Lib.hid hg
  have H := Lib.hid h
  obtain ⟨w1, hw1⟩ : ∃ w1, w1 = w.alloc (.cells #[.string ⟨#[]⟩, .int .i64 0] 72 (0, 0)) := ⟨_, rfl⟩
  have hb1 : Below w.heap.size w w1 := by rw [hw1]; exact (Below.refl _ _).alloc (Nat.le_refl _) _
  have hz1 := hb1.size
  have d3 := (hb1.cell (p := ⟨bd, 3, none⟩) hbd).trans c3
  have hlen := fun (x : Ext w1) ty => ((h.map.below hb1).below x.le).len ty
  have hge : decide ((1024 : Int) ≤ d.files.length) = true := decide_eq_true (by omega)
  have HW := Lib.hid hw1
  have Hb1 := Lib.hid hb1
  clear h hg hw1 hf hb1 hoff hnm
  go_enter Try.func11, Try.ntmps11
  go_wp2_with (first
    | (go_at_call 38; refine hr.mono ?_; rintro e w' ⟨rfl, rfl⟩)
    | (go_at_call 39; refine hna.mono ?_; rintro e w' ⟨rfl, rfl⟩)
    | (at_lookup; refine wpList_look_ok rfl (.tmp 22) (.tmp 23) rfl bm _ rfl H.out.map name rfl hn ⟨#[]⟩ 0 false (by rw [Hg.out]; rfl) (by rw [Hg.out]; rfl) ?_))
  rw [← HW.out]
  refine wp_region_ext (by kernel_rfl) (by kernel_rfl) fun K hK => ?_
  repeat (go_big_quiet_step (fail))
  refine wpQuiet_nil (hK _ fun x => ?_)
  clear hK K
  have Hx := Lib.hid (Hb1.out.trans (x.le.mono hz1))
  go_wp2_with fail
  go_ret
  exact ⟨rfl, Hx.out⟩
set_option maxRecDepth 100000 in
set_option maxHeartbeats 2000000 in
theorem append_room {v : Value} (h : DiskAt w F v d) (hoff : d.off = false) (name s : ByteArray) (hn : name.size ≤ maxLen) (hs : s.size ≤ 9223372036854775807) (hnm : Named name.data.toList) {sd : ByteArray} {n : Nat} {ok : Bool}
    (hf0 : (get d.files name.data.toList).getD ⟨[], 0⟩ = ⟨sd.data.toList, n⟩) (hok : (get d.files name.data.toList).isSome = ok) (hcnt : ok = true ∨ d.files.length < 1024) (hfull : d.room < total d.files + s.size) :
    Calls Try.prog 11 #[v, .string name, .string s] w fun e w' => e = .returned (.int .i64 50) ∧ Below w.heap.size w w' := by
  obtain ⟨bd, bm, cv, kv, rfl, h, hf⟩ := h
  have hbd := h.blk.lt
  have hr := runs_in h
  rw [hoff] at hr
  have hna := named_any name w hn (b := true) (by simp [hnm])
  have c3 := h.blk.cell 3
  have c0 := h.blk.cell 0
  simp at c3 c0
  have hro := h.ok.room2
  have hfi := h.ok.fits
  have Hf0 := Lib.hid hf0
  have Hok := Lib.hid hok
  have H := Lib.hid h
  obtain ⟨w1, hw1⟩ : ∃ w1, w1 = w.alloc (.cells #[.string sd, .int .i64 n] 72 (0, 0)) := ⟨_, rfl⟩
  have hb1 : Below w.heap.size w w1 := by rw [hw1]; exact (Below.refl _ _).alloc (Nat.le_refl _) _
  have hz1 := hb1.size
  have d3 := (hb1.cell (p := ⟨bd, 3, none⟩) hbd).trans c3
  have d0 := (hb1.cell (p := ⟨bd, 0, none⟩) hbd).trans c0
  have hlen := fun (x : Ext w1) ty => ((h.map.below hb1).below x.le).len ty
  have hsz := fun x : Ext w1 => size_in ((h.below hb1).below x.le)
  have hge : ok = true ∨ decide ((1024 : Int) ≤ d.files.length) = false := hcnt.imp id fun h => decide_eq_false (by omega)
  obtain ⟨T, hT⟩ : ∃ T, total d.files = T := ⟨_, rfl⟩
  rw [hT] at hfull hfi
  simp only [hT] at hsz
  have hsb : IntKind.i64.wrap ((d.room : Int) - T) = (d.room : Int) - T := IntWalk.i64_in _ ⟨by omega, by omega⟩
  have hgt : decide ((d.room : Int) - T < s.size) = true := decide_eq_true (by omega)
  have HS := Lib.hid hsz
  have HW := Lib.hid hw1
  have Hb1 := Lib.hid hb1
  clear h hf0 hok hw1 hf hb1 hoff hnm hcnt hT hsz
  cases ok
  case' false => have hge2 : decide ((1024 : Int) ≤ d.files.length) = false := hge.elim (fun h => by cases h) id
  all_goals
    clear hge
    go_enter Try.func11, Try.ntmps11
    go_wp2_with (first
      | (go_at_call 38; refine hr.mono ?_; rintro e w' ⟨rfl, rfl⟩)
      | (go_at_call 39; refine hna.mono ?_; rintro e w' ⟨rfl, rfl⟩)
      | (at_lookup; refine wpList_look_ok rfl (.tmp 22) (.tmp 23) rfl bm _ rfl H.out.map name rfl hn sd n _ Hf0.out Hok.out ?_))
    rw [← HW.out]
    refine wp_region_ext (by kernel_rfl) (by kernel_rfl) fun K hK => ?_
    repeat (go_big_quiet_step ((go_at_call 19; exact Calls.ext_of (HS.out _))))
    refine wpQuiet_nil (hK _ fun x => ?_)
    clear hK K
    have Hx := Lib.hid (Hb1.out.trans (x.le.mono hz1))
    go_wp2_with fail
    go_ret
    exact ⟨rfl, Hx.out⟩
set_option maxRecDepth 100000 in
set_option maxHeartbeats 2000000 in
theorem append_go {v : Value} (h : DiskAt w F v d) (hoff : d.off = false) (name s : ByteArray) (hn : name.size ≤ maxLen) (hnm : Named name.data.toList) {sd : ByteArray} {n : Nat} {ok : Bool}
    (hf0 : (get d.files name.data.toList).getD ⟨[], 0⟩ = ⟨sd.data.toList, n⟩) (hok : (get d.files name.data.toList).isSome = ok) (hcnt : ok = true ∨ d.files.length < 1024) (hfit : total d.files + s.size ≤ d.room) :
    Calls Try.prog 11 #[v, .string name, .string s] w fun e w' => ∃ r, e = .returned (.int .i64 r) ∧ Did w F v (({ d with files := put d.files name.data.toList ⟨sd.data.toList ++ s.data.toList, n⟩ } : Dk).change (put d.files name.data.toList ⟨sd.data.toList ++ s.data.toList, n⟩)) r w' := by
  obtain ⟨bd, bm, cv, kv, rfl, h, hf⟩ := h
  have hbd := h.blk.lt
  have hr := runs_in h
  rw [hoff] at hr
  have hna := named_any name w hn (b := true) (by simp [hnm])
  have c3 := h.blk.cell 3
  have c0 := h.blk.cell 0
  simp at c3 c0
  have hro := h.ok.room2
  have hfi := h.ok.fits
  have hsd : sd.size ≤ 1048576 := by
    have hl : sd.data.toList.length = sd.size := by simp
    cases hg : get d.files name.data.toList with
    | none => rw [hg] at hf0; have := congrArg (fun x => x.data.length) hf0; simp at this; omega
    | some f =>
      rw [hg] at hf0
      obtain rfl : f = ⟨sd.data.toList, n⟩ := hf0
      have := data_le (get_mem hg)
      simp only [hl] at this
      omega
  have hsl : s.data.toList.length = s.size := by simp
  have hno : ¬ ((get d.files name.data.toList = none ∧ 1024 ≤ d.files.length) ∨ d.room < total d.files + s.data.toList.length) := by
    rintro (⟨e1, e2⟩ | e)
    · rw [e1] at hok; subst hok
      rcases hcnt with e | e
      · cases e
      · omega
    · rw [hsl] at e; omega
  obtain ⟨q1, q2, q3, q4⟩ := append_facts h.ok hnm hno (m := put d.files name.data.toList ⟨sd.data.toList ++ s.data.toList, n⟩) (by rw [hf0])
  have hokf := h.ok.files q1 q2 q3 q4
  have hokm := hokf.change q1 q2 q3 q4
  have Hokm := Lib.hid hokm
  have Hokf := Lib.hid hokf
  have Hfo := Lib.hid hf
  have Hoff := Lib.hid hoff
  have hcl := h.ok.count
  clear hno q1 q2 q3 q4 hokm hokf hsl
  have Hf0 := Lib.hid hf0
  have Hok := Lib.hid hok
  have H := Lib.hid h
  obtain ⟨w1, hw1⟩ : ∃ w1, w1 = w.alloc (.cells #[.string sd, .int .i64 n] 72 (0, 0)) := ⟨_, rfl⟩
  have hb1 : Below w.heap.size w w1 := by rw [hw1]; exact (Below.refl _ _).alloc (Nat.le_refl _) _
  have hz1 := hb1.size
  have d3 := (hb1.cell (p := ⟨bd, 3, none⟩) hbd).trans c3
  have d0 := (hb1.cell (p := ⟨bd, 0, none⟩) hbd).trans c0
  have hlen := fun (x : Ext w1) ty => ((h.map.below hb1).below x.le).len ty
  have hsz := fun x : Ext w1 => size_in ((h.below hb1).below x.le)
  have hge : ok = true ∨ decide ((1024 : Int) ≤ d.files.length) = false := hcnt.imp id fun h => decide_eq_false (by omega)
  obtain ⟨T, hT⟩ : ∃ T, total d.files = T := ⟨_, rfl⟩
  rw [hT] at hfit hfi
  simp only [hT] at hsz
  have hsb : IntKind.i64.wrap ((d.room : Int) - T) = (d.room : Int) - T := IntWalk.i64_in _ ⟨by omega, by omega⟩
  have hgt : decide ((d.room : Int) - T < s.size) = false := decide_eq_false (by omega)
  have HS := Lib.hid hsz
  have hbf := Blk.alloc_new w 72 #[.string sd, .int .i64 n]
  rw [← hw1] at hbf
  have Hbf := Lib.hid hbf
  have HW := Lib.hid hw1
  have Hb1 := Lib.hid hb1
  clear hbf h hf0 hok hw1 hf hb1 hoff hnm hcnt hT hsz
  cases ok
  case' false => have hge2 : decide ((1024 : Int) ≤ d.files.length) = false := hge.elim (fun h => by cases h) id
  all_goals
    clear hge
    go_enter Try.func11, Try.ntmps11
    go_wp2_with (first
      | (go_at_call 38; refine hr.mono ?_; rintro e w' ⟨rfl, rfl⟩)
      | (go_at_call 39; refine hna.mono ?_; rintro e w' ⟨rfl, rfl⟩)
      | (at_lookup; refine wpList_look_ok rfl (.tmp 22) (.tmp 23) rfl bm _ rfl H.out.map name rfl hn sd n _ Hf0.out Hok.out ?_))
    rw [← HW.out]
    refine wp_region_ext (by kernel_rfl) (by kernel_rfl) fun K hK => ?_
    repeat (go_big_quiet_step ((go_at_call 19; exact Calls.ext_of (HS.out _))))
    refine wpQuiet_nil (hK _ fun x => ?_)
    clear hK K
    have hb2 := Hb1.out.trans (x.le.mono hz1)
    have hbf := (Hbf.out.ext x)
    have e3 := (hb2.cell (p := ⟨bd, 3, none⟩) hbd).trans c3
    have e0 := hbf.cell 0
    have e1 := hbf.cell 1
    have f0 := hbf.free 0
    simp at e0 e1
    have Hb2 := Lib.hid hb2
    have Hbf2 := Lib.hid hbf
    have hz2 := hb2.size
    clear hb2 hbf
    go_wp2_with fail
    obtain ⟨w3, hw3⟩ : ∃ w3, w3 = x.wd.setCell ⟨w.heap.size, 0, none⟩ (.string (sd ++ s)) := ⟨_, rfl⟩
    have hb3 : Below w.heap.size w w3 := by rw [hw3]; exact Hb2.out.setCell (Nat.le_refl _) _
    have hbf3 : Blk w3 w.heap.size 72 #[.string (sd ++ s), .int .i64 n] := by rw [hw3]; exact Hbf2.out.set 0 (.string (sd ++ s))
    rw [← hw3]
    have g3 := (hb3.cell (p := ⟨bd, 3, none⟩) hbd).trans c3
    have g0 := hbf3.cell 0
    have g1 := hbf3.cell 1
    simp at g0 g1
    have hz3 := hb3.size
    have Hb3 := Lib.hid hb3
    clear hw3 hb3 hbf3 e0 e1 e3 f0
    refine wp_region_ext_tail 6 (by kernel_rfl) (by kernel_rfl) fun K hK => ?_
    simp only [List.take_succ_cons, List.take_zero]
    repeat (go_big_quiet_step (fail))
    refine wpQuiet_nil (hK _ fun y => ?_)
    clear hK K
    simp only [List.drop_succ_cons, List.drop_zero]
    have hb4 := Hb3.out.trans (y.le.mono hz3)
    have Hm4 := Lib.hid (H.out.map.below hb4)
    have Hb4 := Lib.hid hb4
    clear hb4 g0 g1 g3
    refine wpList_put rfl (.tmp 57) (.tmp 58) (.tmp 59) rfl bm _ rfl Hm4.out (by omega) name rfl hn (sd ++ s) n rfl ?_
    intro w5 hm5 hc5
    rw [data_append] at hm5
    have hch5 : Chg (fun k => k = bm ∨ w.heap.size ≤ k) w w5 := (Chg.of_below Hb4.out).trans (hc5.mono fun k _ e => .inl e)
    have h5 := H.out.made hm5 hch5 (fun k hk => hk.imp id fun e hF => by have := H.out.lt k hF; omega) Hokf.out
    have hc6 : Chg F w w5 := Chg.old (hch5.mono fun k _ e => e.elim (fun e => .inl (e ▸ H.out.fm)) .inr)
    have hcg := change_any h5 (FOk.same Hfo.out rfl) Hoff.out (caps := #[]) (Post := Did w F (.pointer (some ⟨bd, 0, none⟩)) (({ d with files := put d.files name.data.toList ⟨sd.data.toList ++ s.data.toList, n⟩ } : Dk).change (put d.files name.data.toList ⟨sd.data.toList ++ s.data.toList, n⟩))) enters_append
        (fun n' h1 h2 w' h3 h4 => Did.crash h3 (hc6.trans h4) h1 h2 _)
        (fun hpos w6 h3 h4 => by
          refine (append_fn w6).mono ?_
          rintro e w7 ⟨rfl, rfl⟩
          have hm := h3.map
          rw [ticked_files] at hm
          exact ⟨rfl, Did.made h3 (FOk.same Hfo.out rfl) hpos hm (hc6.trans h4) (Chg.refl (fun _ => False) _) (fun k hk => hk.elim) H.out.lt Hokm.out⟩)
    have Hcg := Lib.hid hcg
    clear hm5 hc5 hch5 h5 hc6 hcg
    go_wp2_with fail
    refine Hcg.out.mono ?_
    rintro e w8 ⟨r, rfl, hdid⟩
    have Hdid := Lib.hid hdid
    clear hdid
    go_wp2_with fail
    go_ret
    exact ⟨r, rfl, Hdid.out⟩
theorem append_at {v : Value} (h : DiskAt w F v d) (name s : ByteArray) (hn : name.size ≤ maxLen) (hs : s.size ≤ maxLen) :
    Calls Try.prog 11 #[v, .string name, .string s] w fun e w' => ∃ r, e = .returned (.int .i64 r) ∧ Did w F v (d.append name.data.toList s.data.toList) r w' := by
  have hsl : s.data.toList.length = s.size := by simp
  have hs2 : s.size ≤ 9223372036854775807 := by unfold maxLen at hs; omega
  unfold Dk.append
  by_cases hoff : d.off = true
  · rw [if_pos hoff]
    refine (append_off h hoff name s).mono ?_
    rintro e w' ⟨rfl, rfl⟩
    exact ⟨51, rfl, Did.same h (Below.refl _ _) _⟩
  rw [if_neg hoff]
  have hoff2 : d.off = false := by simpa using hoff
  by_cases hnm : Named name.data.toList
  · rw [if_neg (by simp [hnm])]
    by_cases hfull : (get d.files name.data.toList = none ∧ 1024 ≤ d.files.length) ∨ d.room < total d.files + s.data.toList.length
    · rw [if_pos hfull]
      by_cases hmany : get d.files name.data.toList = none ∧ 1024 ≤ d.files.length
      · refine (append_many h hoff2 name s hn hnm hmany.1 hmany.2).mono ?_
        rintro e w' ⟨rfl, hb⟩
        exact ⟨50, rfl, Did.same h hb _⟩
      · have hr := hfull.resolve_left hmany
        rw [hsl] at hr
        refine (append_room h hoff2 name s hn hs2 hnm (sd := ⟨((get d.files name.data.toList).getD ⟨[], 0⟩).data.toArray⟩) (n := ((get d.files name.data.toList).getD ⟨[], 0⟩).safe) rfl rfl ?_ hr).mono ?_
        · cases hg : get d.files name.data.toList with
          | some f => exact .inl rfl
          | none => exact .inr (Nat.lt_of_not_le fun e => hmany ⟨hg, e⟩)
        · rintro e w' ⟨rfl, hb⟩
          exact ⟨50, rfl, Did.same h hb _⟩
    · rw [if_neg hfull]
      have hfit : ¬ d.room < total d.files + s.data.toList.length := fun e => hfull (.inr e)
      rw [hsl] at hfit
      refine append_go h hoff2 name s hn hnm (sd := ⟨((get d.files name.data.toList).getD ⟨[], 0⟩).data.toArray⟩) (n := ((get d.files name.data.toList).getD ⟨[], 0⟩).safe) rfl rfl ?_ (by omega)
      cases hg : get d.files name.data.toList with
      | some f => exact .inl rfl
      | none => exact .inr (Nat.lt_of_not_le fun e => hfull (.inl ⟨hg, e⟩))
  · rw [if_pos hnm]
    refine (append_bad h hoff2 name s hn hnm).mono ?_
    rintro e w' ⟨rfl, rfl⟩
    exact ⟨2, rfl, Did.same h (Below.refl _ _) _⟩
end
end Go.Proofs.Ytnngdflamkdgaaa
