/- The disk's closures: what a change does. The disk's changes: Sync, Remove, Rename. The disk's changes: Remove, Rename. The disk's Append. The disk's Read, Start, New, Fail. A crash, by the program. A disk that a call made, from its beginning on: one, or two beside each other. The chapter's example of a disk. A disk's acts with what they come to given. Rows of a disk's names and numbers, one by one; what stays. No function of a law. -/
import Derived.Test.YtdacanghbepjpaaGreatDoorM3
import Derived.Laws.AppendOwnNone
import Derived.BigQuiet
namespace Go.Proofs.YtdacanghbepjpaaGreatDoor
set_option maxRecDepth 100000
open Go.RowKit Go.Maps
open Dsk
theorem Chg.old {F:Nat→Prop} {w w':World} (h:Chg (fun k => F k∨w.heap.size≤k) w w'):Chg F w w':=h.mono fun k hk e => e.elim id fun x => absurd hk (by omega)
section
variable {w:World} {F:Nat→Prop} {bd bm:Nat} {cv kv:Value} {d:Dk}
set_option maxHeartbeats 1000000 in
theorem sync_fn (h:DiskIn w F bd bm cv kv d) {bf bp bn:Nat} {s name:ByteArray} {n:Nat} (hf:Blk w bf 185 #[.string s,.int .i64 n]) (hp:Blk w bp 32 #[.pointer (some ⟨bd,0,none⟩)]) (hb:Blk w bn 9 #[.string name])
  (hn:name.size≤maxLen) :
  Calls Tryz.prog 143 #[.pointer (some ⟨bf,0,none⟩),.pointer (some ⟨bp,0,none⟩),.pointer (some ⟨bn,0,none⟩)] w fun e w' => e=.returned (.tuple #[])∧OwnM w' bm (put d.files name.data.toList ⟨s.data.toList,s.size⟩)∧Chg (fun k => k=bf∨k=bm) w w':=by
 have hc:=h.ok.count
 have c3:=h.blk.cell 3
 have c0:=hf.cell 0
 have f1:=hf.free 1
 have c1:=hf.cell 1
 simp at c3 c0 c1
 obtain ⟨w1,hw1⟩:∃ w1,w1=w.setCell ⟨bf,1,none⟩ (.int .i64 s.size):=⟨_,rfl⟩
 have hch:Chg (·=bf) w w1:=by rw [hw1];exact put_wr _ _ _ _
 have hne:bm≠bf:=map_ne_blk h.map hf
 have hned:bd≠bf:=fun e => by have a:=h.blk;subst e;unfold Blk at a hf;rw [a] at hf;simp at hf
 have hnep:bp≠bf:=fun e => by subst e;unfold Blk at hp hf;rw [hp] at hf;simp at hf
 have hnen:bn≠bf:=fun e => by subst e;unfold Blk at hb hf;rw [hb] at hf;simp at hf
 have d3:=(h.blk.chg hch hned).cell 3
 have d4:=(hp.chg hch hnep).cell 0
 have d5:=(hb.chg hch hnen).cell 0
 have hbf:Blk w1 bf 185 #[.string s,.int .i64 s.size]:=by rw [hw1];exact hf.set 1 _
 have d6:=hbf.cell 0
 have d7:=hbf.cell 1
 simp at d3 d4 d5 d6 d7
 have Hm:=Lib.hid (h.map.chg hch hne)
 have Hch:=Lib.hid hch
 have HW:=Lib.hid hw1
 have Hc:=Lib.hid hc
 clear h hf hp hb hch hw1 hbf hc hne hned hnep hnen
 go_enter Tryz.func143,Tryz.ntmps143
 go_wp2_with fail
 rw [← HW.out]
 refine wp_region_ext_tail 6 (by kernel_rfl) (by kernel_rfl) fun K hK => ?_
 simp only [List.take_succ_cons,List.take_zero]
 repeat (go_big_quiet_step (fail))
 refine wpQuiet_nil (hK _ fun x => ?_)
 clear hK K
 simp only [List.drop_succ_cons,List.drop_zero]
 have Hm2:=Lib.hid (Hm.out.below x.le)
 have Hx:=Lib.hid x.le
 refine wpList_put rfl (.tmp 10) (.tmp 11) (.tmp 12) rfl bm _ rfl Hm2.out (by have:=Hc.out;omega) name rfl hn s s.size rfl ?_
 intro w2 hm2 hc2
 have Hm3:=Lib.hid hm2
 have Hc3:=Lib.hid ((Hch.out.mono fun k _ e => .inl e).trans ((Chg.of_below Hx.out).trans (hc2.mono fun k _ e => .inr e)):Chg (fun k => k=bf∨k=bm) w w2)
 clear hm2 hc2
 go_wp2_with fail
 go_end0
 exact ⟨rfl,Hm3.out,Hc3.out⟩
set_option maxHeartbeats 1000000 in
theorem remove_fn (h:DiskIn w F bd bm cv kv d) {bp bn:Nat} {name:ByteArray} (hp:Blk w bp 32 #[.pointer (some ⟨bd,0,none⟩)]) (hb:Blk w bn 9 #[.string name]) (hn:name.size≤maxLen) :
  Calls Tryz.prog 180 #[.pointer (some ⟨bp,0,none⟩),.pointer (some ⟨bn,0,none⟩)] w fun e w' => e=.returned (.tuple #[])∧OwnM w' bm (del d.files name.data.toList)∧Chg (·=bm) w w':=by
 have d3:=h.blk.cell 3
 have d4:=hp.cell 0
 have d5:=hb.cell 0
 simp at d3 d4 d5
 have Hm:=Lib.hid h.map
 clear h hp hb
 go_enter Tryz.func180,Tryz.ntmps180
 go_wp2_with fail
 refine wp_region_ext_tail 5 (by kernel_rfl) (by kernel_rfl) fun K hK => ?_
 simp only [List.take_succ_cons,List.take_zero]
 repeat (go_big_quiet_step (fail))
 refine wpQuiet_nil (hK _ fun x => ?_)
 clear hK K
 simp only [List.drop_succ_cons,List.drop_zero]
 have Hm2:=Lib.hid (Hm.out.below x.le)
 have Hx:=Lib.hid x.le
 refine wpList_del rfl (.tmp 5) (.tmp 6) rfl bm _ rfl Hm2.out name rfl hn ?_
 intro w2 hm2 hc2
 have Hm3:=Lib.hid hm2
 have Hc3:=Lib.hid ((Chg.of_below Hx.out).trans hc2)
 clear hm2 hc2
 go_wp2_with fail
 go_end0
 exact ⟨rfl,Hm3.out,Hc3.out⟩
set_option maxHeartbeats 1000000 in
theorem rename_fn (h:DiskIn w F bd bm cv kv d) {bf bp bn bt:Nat} {s name to:ByteArray} {n:Nat} (hf:Blk w bf 185 #[.string s,.int .i64 n]) (hp:Blk w bp 32 #[.pointer (some ⟨bd,0,none⟩)]) (hb:Blk w bn 9 #[.string name]) (ht:Blk w bt 9 #[.string to])
  (hn:name.size≤maxLen) (hn2:to.size≤maxLen) :
  Calls Tryz.prog 197 #[.pointer (some ⟨bp,0,none⟩),.pointer (some ⟨bn,0,none⟩),.pointer (some ⟨bf,0,none⟩),.pointer (some ⟨bt,0,none⟩)] w fun e w' => e=.returned (.tuple #[])∧OwnM w' bm (put (del d.files name.data.toList) to.data.toList ⟨s.data.toList,n⟩)∧Chg (·=bm) w w':=by
 have hc:=h.ok.count
 have hdl:=del_le d.files name.data.toList
 have d3:=h.blk.cell 3
 have d4:=hp.cell 0
 have d5:=hb.cell 0
 have d6:=ht.cell 0
 have d7:=hf.cell 0
 have d8:=hf.cell 1
 simp at d3 d4 d5 d6 d7 d8
 have Hm:=Lib.hid h.map
 have Hc:=Lib.hid (show (del d.files name.data.toList).length≤100000 by omega)
 have Hd3:=Lib.hid h.blk
 have Hd4:=Lib.hid hp
 have Hd6:=Lib.hid ht
 have Hd7:=Lib.hid hf
 have Hn1:=Lib.hid (map_ne_blk h.map h.blk)
 have Hn2:=Lib.hid (map_ne_blk h.map hp)
 have Hn3:=Lib.hid (map_ne_blk h.map ht)
 have Hn4:=Lib.hid (map_ne_blk h.map hf)
 clear h hp hb hf ht hc hdl
 go_enter Tryz.func197,Tryz.ntmps197
 go_wp2_with fail
 refine wp_region_ext_tail 5 (by kernel_rfl) (by kernel_rfl) fun K hK => ?_
 simp only [List.take_succ_cons,List.take_zero]
 repeat (go_big_quiet_step (fail))
 refine wpQuiet_nil (hK _ fun x => ?_)
 clear hK K
 simp only [List.drop_succ_cons,List.drop_zero]
 have Hm2:=Lib.hid (Hm.out.below x.le)
 have Hx:=Lib.hid x.le
 refine wpList_del rfl (.tmp 7) (.tmp 8) rfl bm _ rfl Hm2.out name rfl hn ?_
 intro w2 hm2 hc2
 have hall:=(Chg.of_below Hx.out (S:=(·=bm))).trans hc2
 have e3:=(Hd3.out.chg hall Hn1.out.symm).cell 3
 have e4:=(Hd4.out.chg hall Hn2.out.symm).cell 0
 have e6:=(Hd6.out.chg hall Hn3.out.symm).cell 0
 have e7:=(Hd7.out.chg hall Hn4.out.symm).cell 0
 have e8:=(Hd7.out.chg hall Hn4.out.symm).cell 1
 simp at e3 e4 e6 e7 e8
 have Hm3:=Lib.hid hm2
 have Hc3:=Lib.hid hall
 clear hm2 hc2 hall d3 d4 d5 d6 d7 d8
 go_wp2_with fail
 go_frame
 refine wp_region_ext_tail 6 (by kernel_rfl) (by kernel_rfl) fun K hK => ?_
 simp only [List.take_succ_cons,List.take_zero]
 repeat (go_big_quiet_step (fail))
 refine wpQuiet_nil (hK _ fun y => ?_)
 clear hK K
 simp only [List.drop_succ_cons,List.drop_zero]
 have Hm4:=Lib.hid (Hm3.out.below y.le)
 have Hy:=Lib.hid y.le
 refine wpList_put rfl (.tmp 12) (.tmp 13) (.tmp 14) rfl bm _ rfl Hm4.out Hc.out to rfl hn2 s n rfl ?_
 intro w3 hm3 hc3
 have Hm5:=Lib.hid hm3
 have Hc5:=Lib.hid (Hc3.out.trans ((Chg.of_below Hy.out).trans hc3))
 clear hm3 hc3
 go_wp2_with fail
 go_end0
 exact ⟨rfl,Hm5.out,Hc5.out⟩
theorem append_fn (w:World):Calls Tryz.prog 140 #[] w fun e w' => e=.returned (.tuple #[])∧w=w':=by
 go_enter Tryz.func140,Tryz.ntmps140
 go_wp2_with fail
 go_end0
 exact ⟨rfl,rfl⟩
end
theorem enters_sync:Go.Proofs.Enters Tryz.prog 143:=enters_of Tryz.func143 (by kernel_rfl) rfl
theorem enters_remove:Go.Proofs.Enters Tryz.prog 180:=enters_of Tryz.func180 (by kernel_rfl) rfl
theorem enters_rename:Go.Proofs.Enters Tryz.prog 197:=enters_of Tryz.func197 (by kernel_rfl) rfl
theorem enters_append:Go.Proofs.Enters Tryz.prog 140:=enters_of Tryz.func140 (by kernel_rfl) rfl
end Go.Proofs.YtdacanghbepjpaaGreatDoor
namespace Go.Proofs.YtdacanghbepjpaaGreatDoor
set_option maxRecDepth 100000
open Go.RowKit Go.Maps
open Dsk
theorem change_crash {d:Dk} {n:Int} (h:d.fail=some n) (hn:n≤0) (m:Files):d.change m=(51,d.crashed d.keep):=by unfold Dk.change;rw [h];simp [hn]
theorem change_made {d:Dk} (h:∀ n,d.fail=some n→0<n) (m:Files):d.change m=(0,{ Dk.ticked d with files:=m }):=by
 obtain ⟨a1,a2,a3,a4,fl,a5⟩:=d
 unfold Dk.change Dk.ticked
 cases hf:fl with
 | none => rfl
 | some n =>
  have:=h n hf
  simp only
  rw [if_neg (by omega)]
theorem ticked_files (d:Dk):(Dk.ticked d).files=d.files:=by unfold Dk.ticked;split <;> rfl
theorem fok_ticked {d:Dk} (hf:FOk d) (h:∀ n,d.fail=some n→0<n):FOk (Dk.ticked d):=by
 intro k hk
 unfold Dk.ticked at hk
 split at hk
 · exact hf k hk
 · rename_i n hn
   cases hk
   have:=hf n hn;have:=h n hn;omega
theorem fok_crashed (d:Dk) (keep:List Int):FOk (d.crashed keep):=fun _ e => by cases e
section
variable {w:World} {F:Nat→Prop} {bd bm:Nat} {cv kv:Value} {d:Dk}
theorem DiskIn.made (h:DiskIn w F bd bm cv kv d) {w':World} {m:Files} {T:Nat→Prop} (hm:OwnM w' bm m) (hc:Chg T w w') (hT:∀ k,T k→k=bm∨¬ F k) (hok:Ok { d with files:=m }):DiskIn w' F bd bm cv kv { d with files:=m }:=by
 have hbm:=map_ne_blk h.map h.blk
 have hno:∀ k,F k→k≠bm→¬ T k:=fun k hk hne ht => (hT k ht).elim hne (fun x => x hk)
 refine ⟨h.blk.chg hc (hno _ h.fd hbm.symm),hm,?_,h.row.chg hc (fun k hk => hno k (h.fk k hk).1 fun e => map_ne_row h.map h.row (e ▸ hk)),h.fd,h.fm,h.fk,hok,fun k hk => Nat.lt_of_lt_of_le (h.lt k hk) hc.size⟩
 have:=h.fn
 unfold CrashFn at *
 split
 · rename_i e;rw [e] at this;exact this
 · rename_i n e
   rw [e] at this
   obtain ⟨bc,e,hb,hF⟩:=this
   exact ⟨bc,e,hb.chg hc (hno bc hF (map_ne_blk h.map hb).symm),hF⟩
def Did (w:World) (F:Nat→Prop) (v:Value) (x:Int×Dk) (r:Int) (w':World):Prop:=r=x.1∧DiskAt w' F v x.2∧Chg F w w'
theorem Did.crash (hd:DiskIn w F bd bm .nilFunc kv (d.crashed d.keep)) {w0:World} (hc:Chg F w0 w) {n:Int} (h:d.fail=some n) (hn:n≤0) (m:Files):Did w0 F (.pointer (some ⟨bd,0,none⟩)) (d.change m) 51 w:=by
 rw [change_crash h hn]
 exact ⟨rfl,⟨bd,bm,_,_,rfl,hd,fok_crashed _ _⟩,hc⟩
theorem Did.made (hd:DiskIn w F bd bm cv kv (Dk.ticked d)) {w0 w':World} {T:Nat→Prop} {m:Files} (hf:FOk d) (hn:∀ n,d.fail=some n→0<n) (hm:OwnM w' bm m) (hc0:Chg F w0 w) (hc:Chg T w w') (hT:∀ k,T k→k=bm∨w0.heap.size≤k) (hFlt:∀ k,F k→k<w0.heap.size)
  (hok:Ok (d.change m).2):Did w0 F (.pointer (some ⟨bd,0,none⟩)) (d.change m) 0 w':=by
 rw [change_made hn] at hok ⊢
 refine ⟨rfl,⟨bd,bm,_,_,rfl,hd.made hm hc (fun k hk => (hT k hk).imp id fun h1 h2 => absurd (hFlt k h2) (by omega)) hok,FOk.same (fok_ticked hf hn) rfl⟩,Chg.old ?_⟩
 exact (hc0.mono fun _ _ h => .inl h).trans (hc.mono fun k _ h => (hT k h).elim (fun e => .inl (e ▸ hd.fm)) .inr)
theorem Did.same {v:Value} {w':World} (h:DiskAt w F v d) (hb:Below w.heap.size w w') (r:Int):Did w F v (r,d) r w':=⟨rfl,h.below hb,Chg.of_below hb⟩
set_option maxHeartbeats 1000000 in
theorem sync_at {v:Value} (h:DiskAt w F v d) (name:ByteArray) (hn:name.size≤maxLen) :
  Calls Tryz.prog 84 #[v,.string name] w fun e w' => ∃ r,e=.returned (.int .i64 r)∧Did w F v (d.sync name.data.toList) r w':=by
 have hat:=h
 obtain ⟨bd,bm,cv,kv,rfl,h,hf⟩:=h
 have hbd:=h.blk.lt
 obtain ⟨w0,hw0⟩:∃ w0,w0=(w.alloc (.cells #[.pointer (some ⟨bd,0,none⟩)] 32 (0,0))).alloc (.cells #[.string name] 9 (0,0)):=⟨_,rfl⟩
 have hb0:Below w.heap.size w w0:=by rw [hw0];exact ((Below.refl _ _).alloc (Nat.le_refl _) _).alloc (by simp) _
 have hz0:w0.heap.size=w.heap.size+1+1:=by rw [hw0];simp
 have hp0:Blk w0 w.heap.size 32 #[.pointer (some ⟨bd,0,none⟩)]:=by rw [hw0];exact (Blk.alloc_new w _ _).below ((Below.refl _ _).alloc (Nat.le_refl _) _)
 have hn0:Blk w0 (w.heap.size+1) 9 #[.string name]:=by
  have:=Blk.alloc_new (w.alloc (.cells #[.pointer (some ⟨bd,0,none⟩)] 32 (0,0))) 9 #[.string name]
  rw [hw0];simpa using this
 have ho:=open_in (h.below hb0) name hn
 have Hat:=Lib.hid hat
 have Hb0:=Lib.hid hb0
 have HW:=Lib.hid hw0
 have H:=Lib.hid h
 have Hf:=Lib.hid hf
 have Hp0:=Lib.hid hp0
 have Hn0:=Lib.hid hn0
 have p0:=hp0.cell 0
 simp at p0
 clear hat h hf hw0 hb0 hp0 hn0
 unfold Dk.opened at ho
 unfold Dk.sync
 cases hoff:d.off
 · simp only [hoff] at ho
   cases hg:get d.files name.data.toList with
   | none =>
    simp only [hg] at ho
    have Ho:=Lib.hid ho
    clear hoff hg ho
    go_enter Tryz.func84,Tryz.ntmps84
    go_wp2_with fail
    rw [← HW.out]
    refine Ho.out.mono ?_
    rintro e w1 ⟨rfl,hb1⟩
    have Hb1:=Lib.hid hb1
    have hz1:=hb1.size
    clear hb1
    unfold flV
    go_wp2_with fail
    go_ret
    exact ⟨_,rfl,Did.same Hat.out (((Hb0.out.trans (Hb1.out.mono (by omega))).alloc (by omega) _)) _⟩
   | some f =>
    simp only [hg] at ho
    obtain ⟨s,n,hsn⟩:∃ (s:ByteArray) (n:Nat),f=⟨s.data.toList,n⟩:=⟨⟨f.data.toArray⟩,f.safe,rfl⟩
    subst hsn
    have Ho:=Lib.hid ho
    have Hg:=Lib.hid hg
    have Hoff:=Lib.hid hoff
    have Hok:=Lib.hid (show Ok (d.change (put d.files name.data.toList ⟨s.data.toList,s.size⟩)).2 from by
     have:=H.out.ok.sync name.data.toList
     unfold Dk.sync at this
     rw [hoff] at this
     simp only [hg] at this
     simpa using this)
    clear hoff hg ho
    go_enter Tryz.func84,Tryz.ntmps84
    go_wp2_with fail
    rw [← HW.out]
    refine Ho.out.mono ?_
    rintro e w1 ⟨rfl,hb1⟩
    have Hb1:=Lib.hid hb1
    have hz1:=hb1.size
    have hlt1:w.heap.size<w1.heap.size:=by omega
    have q0:=(Hp0.out.below hb1).cell 0
    simp at q0
    clear hb1 p0
    unfold flV
    go_wp2_with fail
    have hb2:Below w.heap.size w (w1.alloc (.cells #[.string s,.int .i64 n] 185 (0,0))):=(Hb0.out.trans (Hb1.out.mono (by omega))).alloc (by omega) _
    have hb12:Below w0.heap.size w0 (w1.alloc (.cells #[.string s,.int .i64 n] 185 (0,0))):=Hb1.out.alloc hz1 _
    have hbf:=Blk.alloc_new w1 185 #[.string s,.int .i64 n]
    obtain ⟨w2,hw2⟩:∃ w2,w2=w1.alloc (.cells #[.string s,.int .i64 n] 185 (0,0)):=⟨_,rfl⟩
    rw [← hw2] at hb2 hb12 hbf
    have hch:=change_any (H.out.below hb2) Hf.out Hoff.out (caps:=#[.pointer (some ⟨w1.heap.size,0,none⟩),.pointer (some ⟨w.heap.size,0,none⟩),.pointer (some ⟨w.heap.size+1,0,none⟩)]) (Post:=Did w F (.pointer (some ⟨bd,0,none⟩)) (d.change (put d.files name.data.toList ⟨s.data.toList,s.size⟩))) enters_sync
     (fun n' h1 h2 w' h3 h4 => Did.crash h3 (((Chg.of_below hb2).trans (h4.mono fun _ _ e => .inl e)).old) h1 h2 _)
     (fun hpos w3 h3 h4 => by
      have hno:∀ k,F k→k<w.heap.size:=H.out.lt
      have e1:=hbf.chg h4 (fun e => by have:=hno _ e;omega)
      have e2:=(Hp0.out.below hb12).chg h4 (fun e => by have:=hno _ e;omega)
      have e3:=(Hn0.out.below hb12).chg h4 (fun e => by have:=hno _ e;omega)
      refine (sync_fn h3 e1 e2 e3 hn).mono ?_
      rintro e w4 ⟨rfl,hm,hc⟩
      rw [ticked_files] at hm
      exact ⟨rfl,Did.made h3 Hf.out hpos hm (((Chg.of_below hb2).trans (h4.mono fun _ _ e => .inl e)).old) hc (fun k hk => hk.elim (fun e => .inr (by omega)) .inl) hno Hok.out⟩)
    have Hch:=Lib.hid hch
    have HW2:=Lib.hid hw2
    clear hb2 hb12 hbf hch hw2
    refine Calls.mono (by have:=Hch.out;rw [HW2.out] at this;exact this) ?_
    rintro e w5 ⟨r,rfl,hdid⟩
    have Hdid:=Lib.hid hdid
    clear hdid
    go_wp2_with fail
    go_ret
    simp only
    exact ⟨r,rfl,Hdid.out⟩
 · simp only [hoff] at ho
   have Ho:=Lib.hid ho
   clear hoff ho
   go_enter Tryz.func84,Tryz.ntmps84
   go_wp2_with fail
   rw [← HW.out]
   refine Ho.out.mono ?_
   rintro e w1 ⟨rfl,hb1⟩
   have Hb1:=Lib.hid hb1
   have hz1:=hb1.size
   clear hb1
   unfold flV
   go_wp2_with fail
   go_ret
   exact ⟨_,rfl,Did.same Hat.out (((Hb0.out.trans (Hb1.out.mono (by omega))).alloc (by omega) _)) _⟩
end
end Go.Proofs.YtdacanghbepjpaaGreatDoor
namespace Go.Proofs.YtdacanghbepjpaaGreatDoor
set_option maxRecDepth 100000
open Go.RowKit Go.Maps
open Dsk
section
variable {w:World} {F:Nat→Prop} {d:Dk}
set_option maxHeartbeats 1000000 in
theorem remove_at {v:Value} (h:DiskAt w F v d) (name:ByteArray) (hn:name.size≤maxLen) :
  Calls Tryz.prog 146 #[v,.string name] w fun e w' => ∃ r,e=.returned (.int .i64 r)∧Did w F v (d.remove name.data.toList) r w':=by
 have hat:=h
 obtain ⟨bd,bm,cv,kv,rfl,h,hf⟩:=h
 have hbd:=h.blk.lt
 obtain ⟨w0,hw0⟩:∃ w0,w0=(w.alloc (.cells #[.pointer (some ⟨bd,0,none⟩)] 32 (0,0))).alloc (.cells #[.string name] 9 (0,0)):=⟨_,rfl⟩
 have hb0:Below w.heap.size w w0:=by rw [hw0];exact ((Below.refl _ _).alloc (Nat.le_refl _) _).alloc (by simp) _
 have hz0:w0.heap.size=w.heap.size+1+1:=by rw [hw0];simp
 have hp0:Blk w0 w.heap.size 32 #[.pointer (some ⟨bd,0,none⟩)]:=by rw [hw0];exact (Blk.alloc_new w _ _).below ((Below.refl _ _).alloc (Nat.le_refl _) _)
 have hn0:Blk w0 (w.heap.size+1) 9 #[.string name]:=by
  have:=Blk.alloc_new (w.alloc (.cells #[.pointer (some ⟨bd,0,none⟩)] 32 (0,0))) 9 #[.string name]
  rw [hw0];simpa using this
 have ho:=open_in (h.below hb0) name hn
 have Hat:=Lib.hid hat
 have Hb0:=Lib.hid hb0
 have HW:=Lib.hid hw0
 have H:=Lib.hid h
 have Hf:=Lib.hid hf
 have Hp0:=Lib.hid hp0
 have Hn0:=Lib.hid hn0
 have p0:=hp0.cell 0
 simp at p0
 clear hat h hf hw0 hb0 hp0 hn0
 unfold Dk.opened at ho
 unfold Dk.remove
 cases hoff:d.off
 · simp only [hoff] at ho
   cases hg:get d.files name.data.toList with
   | none =>
    simp only [hg] at ho
    have Ho:=Lib.hid ho
    clear hoff hg ho
    go_enter Tryz.func146,Tryz.ntmps146
    go_wp2_with fail
    rw [← HW.out]
    refine Ho.out.mono ?_
    rintro e w1 ⟨rfl,hb1⟩
    have Hb1:=Lib.hid hb1
    have hz1:=hb1.size
    clear hb1
    unfold flV
    go_wp2_with fail
    go_ret
    exact ⟨_,rfl,Did.same Hat.out (((Hb0.out.trans (Hb1.out.mono (by omega))).alloc (by omega) _)) _⟩
   | some f =>
    simp only [hg] at ho
    obtain ⟨s,n,hsn⟩:∃ (s:ByteArray) (n:Nat),f=⟨s.data.toList,n⟩:=⟨⟨f.data.toArray⟩,f.safe,rfl⟩
    subst hsn
    have Ho:=Lib.hid ho
    have Hg:=Lib.hid hg
    have Hoff:=Lib.hid hoff
    have Hok:=Lib.hid (show Ok (d.change (del d.files name.data.toList)).2 from by
     have:=H.out.ok.remove name.data.toList
     unfold Dk.remove at this
     rw [hoff] at this
     simp only [hg] at this
     simpa using this)
    clear hoff hg ho
    go_enter Tryz.func146,Tryz.ntmps146
    go_wp2_with fail
    rw [← HW.out]
    refine Ho.out.mono ?_
    rintro e w1 ⟨rfl,hb1⟩
    have Hb1:=Lib.hid hb1
    have hz1:=hb1.size
    have hlt1:w.heap.size<w1.heap.size:=by omega
    have q0:=(Hp0.out.below hb1).cell 0
    simp at q0
    clear hb1 p0
    unfold flV
    go_wp2_with fail
    have hb2:Below w.heap.size w (w1.alloc (.cells #[.string s,.int .i64 n] 185 (0,0))):=(Hb0.out.trans (Hb1.out.mono (by omega))).alloc (by omega) _
    have hb12:Below w0.heap.size w0 (w1.alloc (.cells #[.string s,.int .i64 n] 185 (0,0))):=Hb1.out.alloc hz1 _
    have hbf:=Blk.alloc_new w1 185 #[.string s,.int .i64 n]
    obtain ⟨w2,hw2⟩:∃ w2,w2=w1.alloc (.cells #[.string s,.int .i64 n] 185 (0,0)):=⟨_,rfl⟩
    rw [← hw2] at hb2 hb12 hbf
    have hch:=change_any (H.out.below hb2) Hf.out Hoff.out (caps:=#[.pointer (some ⟨w.heap.size,0,none⟩),.pointer (some ⟨w.heap.size+1,0,none⟩)]) (Post:=Did w F (.pointer (some ⟨bd,0,none⟩)) (d.change (del d.files name.data.toList))) enters_remove
     (fun n' h1 h2 w' h3 h4 => Did.crash h3 (((Chg.of_below hb2).trans (h4.mono fun _ _ e => .inl e)).old) h1 h2 _)
     (fun hpos w3 h3 h4 => by
      have hno:∀ k,F k→k<w.heap.size:=H.out.lt
      have e2:=(Hp0.out.below hb12).chg h4 (fun e => by have:=hno _ e;omega)
      have e3:=(Hn0.out.below hb12).chg h4 (fun e => by have:=hno _ e;omega)
      refine (remove_fn h3 e2 e3 hn).mono ?_
      rintro e w4 ⟨rfl,hm,hc⟩
      rw [ticked_files] at hm
      exact ⟨rfl,Did.made h3 Hf.out hpos hm (((Chg.of_below hb2).trans (h4.mono fun _ _ e => .inl e)).old) hc (fun k hk => .inl hk) hno Hok.out⟩)
    have Hch:=Lib.hid hch
    have HW2:=Lib.hid hw2
    clear hb2 hb12 hbf hch hw2
    refine Calls.mono (by have:=Hch.out;rw [HW2.out] at this;exact this) ?_
    rintro e w5 ⟨r,rfl,hdid⟩
    have Hdid:=Lib.hid hdid
    clear hdid
    go_wp2_with fail
    go_ret
    simp only
    exact ⟨r,rfl,Hdid.out⟩
 · simp only [hoff] at ho
   have Ho:=Lib.hid ho
   clear hoff ho
   go_enter Tryz.func146,Tryz.ntmps146
   go_wp2_with fail
   rw [← HW.out]
   refine Ho.out.mono ?_
   rintro e w1 ⟨rfl,hb1⟩
   have Hb1:=Lib.hid hb1
   have hz1:=hb1.size
   clear hb1
   unfold flV
   go_wp2_with fail
   go_ret
   exact ⟨_,rfl,Did.same Hat.out (((Hb0.out.trans (Hb1.out.mono (by omega))).alloc (by omega) _)) _⟩
set_option maxHeartbeats 1000000 in
theorem rename_at {v:Value} (h:DiskAt w F v d) (name to:ByteArray) (hn:name.size≤maxLen) (hn2:to.size≤maxLen) :
  Calls Tryz.prog 171 #[v,.string name,.string to] w fun e w' => ∃ r,e=.returned (.int .i64 r)∧Did w F v (d.rename name.data.toList to.data.toList) r w':=by
 have hat:=h
 obtain ⟨bd,bm,cv,kv,rfl,h,hf⟩:=h
 have hbd:=h.blk.lt
 obtain ⟨w0,hw0⟩:∃ w0,w0=((w.alloc (.cells #[.pointer (some ⟨bd,0,none⟩)] 32 (0,0))).alloc (.cells #[.string name] 9 (0,0))).alloc (.cells #[.string to] 9 (0,0)):=⟨_,rfl⟩
 have hb0:Below w.heap.size w w0:=by rw [hw0];exact (((Below.refl _ _).alloc (Nat.le_refl _) _).alloc (by simp) _).alloc (by simp;omega) _
 have hz0:w0.heap.size=w.heap.size+1+1+1:=by rw [hw0];simp
 have hp0:Blk w0 w.heap.size 32 #[.pointer (some ⟨bd,0,none⟩)]:=by rw [hw0];exact (Blk.alloc_new w _ _).below (((Below.refl _ _).alloc (Nat.le_refl _) _).alloc (by simp) _)
 have hn0:Blk w0 (w.heap.size+1) 9 #[.string name]:=by
  have:=Blk.alloc_new (w.alloc (.cells #[.pointer (some ⟨bd,0,none⟩)] 32 (0,0))) 9 #[.string name]
  have h2:=this.below ((Below.refl _ _).alloc (Nat.le_refl _) (.cells #[.string to] 9 (0,0)))
  rw [hw0];simpa using h2
 have ht0:Blk w0 (w.heap.size+1+1) 9 #[.string to]:=by
  have:=Blk.alloc_new ((w.alloc (.cells #[.pointer (some ⟨bd,0,none⟩)] 32 (0,0))).alloc (.cells #[.string name] 9 (0,0))) 9 #[.string to]
  rw [hw0];simpa using this
 have Ht0:=Lib.hid ht0
 have ho:=open_in (h.below hb0) name hn
 have Hat:=Lib.hid hat
 have Hb0:=Lib.hid hb0
 have HW:=Lib.hid hw0
 have H:=Lib.hid h
 have Hf:=Lib.hid hf
 have Hp0:=Lib.hid hp0
 have Hn0:=Lib.hid hn0
 have p0:=hp0.cell 0
 simp at p0
 clear hat h hf hw0 hb0 hp0 hn0 ht0
 unfold Dk.opened at ho
 unfold Dk.rename
 cases hoff:d.off
 · simp only [hoff] at ho
   cases hg:get d.files name.data.toList with
   | none =>
    simp only [hg] at ho
    have Ho:=Lib.hid ho
    clear hoff hg ho
    go_enter Tryz.func171,Tryz.ntmps171
    go_wp2_with fail
    rw [← HW.out]
    refine Ho.out.mono ?_
    rintro e w1 ⟨rfl,hb1⟩
    have Hb1:=Lib.hid hb1
    have hz1:=hb1.size
    clear hb1
    unfold flV
    go_wp2_with fail
    go_ret
    exact ⟨_,rfl,Did.same Hat.out (((Hb0.out.trans (Hb1.out.mono (by omega))).alloc (by omega) _)) _⟩
   | some f =>
    simp only [hg] at ho
    obtain ⟨s,n,hsn⟩:∃ (s:ByteArray) (n:Nat),f=⟨s.data.toList,n⟩:=⟨⟨f.data.toArray⟩,f.safe,rfl⟩
    subst hsn
    by_cases hnm:Named to.data.toList
    · simp only [hnm,not_true_eq_false,if_false]
      have Ho:=Lib.hid ho
      have Hg:=Lib.hid hg
      have Hoff:=Lib.hid hoff
      have Hok:=Lib.hid (show Ok (d.change (put (del d.files name.data.toList) to.data.toList ⟨s.data.toList,n⟩)).2 from by
       have:=H.out.ok.rename name.data.toList to.data.toList
       unfold Dk.rename at this
       rw [hoff] at this
       simp only [hg] at this
       simpa [hnm] using this)
      have Hnm:=Lib.hid (named_any to · hn2 (b:=true) (by simp [hnm]))
      clear hoff hg ho hnm
      have hlt2:w.heap.size+1+1<w0.heap.size:=by omega
      go_enter Tryz.func171,Tryz.ntmps171
      go_wp2_with fail
      rw [← HW.out]
      refine Ho.out.mono ?_
      rintro e w1 ⟨rfl,hb1⟩
      have Hb1:=Lib.hid hb1
      have hz1:=hb1.size
      have hlt1:w.heap.size<w1.heap.size:=by omega
      have q0:=(Hp0.out.below hb1).cell 0
      simp at q0
      have q1:=(Ht0.out.below hb1).cell 0
      simp at q1
      have hlt3:w.heap.size+1+1<w1.heap.size:=by omega
      clear hb1 p0
      unfold flV
      go_wp2_with (go_at_call 137;refine (Hnm.out _).mono ?_;rintro e w' ⟨rfl,rfl⟩)
      have hb2:Below w.heap.size w (w1.alloc (.cells #[.string s,.int .i64 n] 185 (0,0))):=(Hb0.out.trans (Hb1.out.mono (by omega))).alloc (by omega) _
      have hb12:Below w0.heap.size w0 (w1.alloc (.cells #[.string s,.int .i64 n] 185 (0,0))):=Hb1.out.alloc hz1 _
      have hbf:=Blk.alloc_new w1 185 #[.string s,.int .i64 n]
      obtain ⟨w2,hw2⟩:∃ w2,w2=w1.alloc (.cells #[.string s,.int .i64 n] 185 (0,0)):=⟨_,rfl⟩
      rw [← hw2] at hb2 hb12 hbf
      have hch:=change_any (H.out.below hb2) Hf.out Hoff.out (caps:=#[.pointer (some ⟨w.heap.size,0,none⟩),.pointer (some ⟨w.heap.size+1,0,none⟩),.pointer (some ⟨w1.heap.size,0,none⟩),.pointer (some ⟨w.heap.size+1+1,0,none⟩)]) (Post:=Did w F (.pointer (some ⟨bd,0,none⟩)) (d.change (put (del d.files name.data.toList) to.data.toList ⟨s.data.toList,n⟩))) enters_rename
       (fun n' h1 h2 w' h3 h4 => Did.crash h3 (((Chg.of_below hb2).trans (h4.mono fun _ _ e => .inl e)).old) h1 h2 _)
       (fun hpos w3 h3 h4 => by
        have hno:∀ k,F k→k<w.heap.size:=H.out.lt
        have e1:=hbf.chg h4 (fun e => by have:=hno _ e;omega)
        have e2:=(Hp0.out.below hb12).chg h4 (fun e => by have:=hno _ e;omega)
        have e3:=(Hn0.out.below hb12).chg h4 (fun e => by have:=hno _ e;omega)
        have e4:=(Ht0.out.below hb12).chg h4 (fun e => by have:=hno _ e;omega)
        refine (rename_fn h3 e1 e2 e3 e4 hn hn2).mono ?_
        rintro e w4 ⟨rfl,hm,hc⟩
        rw [ticked_files] at hm
        exact ⟨rfl,Did.made h3 Hf.out hpos hm (((Chg.of_below hb2).trans (h4.mono fun _ _ e => .inl e)).old) hc (fun k hk => .inl hk) hno Hok.out⟩)
      have Hch:=Lib.hid hch
      have HW2:=Lib.hid hw2
      clear hb2 hb12 hbf hch hw2
      refine Calls.mono (by have:=Hch.out;rw [HW2.out] at this;exact this) ?_
      rintro e w5 ⟨r,rfl,hdid⟩
      have Hdid:=Lib.hid hdid
      clear hdid
      go_wp2_with fail
      go_ret
      exact ⟨r,rfl,Hdid.out⟩
    · simp only [hnm,not_false_eq_true,if_true]
      have Ho:=Lib.hid ho
      have Hnm:=Lib.hid (named_any to · hn2 (b:=false) (by simp [hnm]))
      clear hoff hg ho hnm
      have hlt2:w.heap.size+1+1<w0.heap.size:=by omega
      go_enter Tryz.func171,Tryz.ntmps171
      go_wp2_with fail
      rw [← HW.out]
      refine Ho.out.mono ?_
      rintro e w1 ⟨rfl,hb1⟩
      have hz1:=hb1.size
      have q1:=(Ht0.out.below hb1).cell 0
      simp at q1
      have Hb1:=Lib.hid hb1
      have hlt3:w.heap.size+1+1<w1.heap.size:=by omega
      clear hb1
      unfold flV
      go_wp2_with (go_at_call 137;refine (Hnm.out _).mono ?_;rintro e w' ⟨rfl,rfl⟩)
      go_ret
      exact ⟨_,rfl,Did.same Hat.out (((Hb0.out.trans (Hb1.out.mono (by omega))).alloc (by omega) _)) _⟩
 · simp only [hoff] at ho
   have Ho:=Lib.hid ho
   clear hoff ho
   go_enter Tryz.func171,Tryz.ntmps171
   go_wp2_with fail
   rw [← HW.out]
   refine Ho.out.mono ?_
   rintro e w1 ⟨rfl,hb1⟩
   have Hb1:=Lib.hid hb1
   have hz1:=hb1.size
   clear hb1
   unfold flV
   go_wp2_with fail
   go_ret
   exact ⟨_,rfl,Did.same Hat.out (((Hb0.out.trans (Hb1.out.mono (by omega))).alloc (by omega) _)) _⟩
end
end Go.Proofs.YtdacanghbepjpaaGreatDoor
namespace Go.Proofs.YtdacanghbepjpaaGreatDoor
set_option maxRecDepth 100000
open Go.RowKit Go.Maps
open Dsk
section
variable {w:World} {F:Nat→Prop} {d:Dk}
theorem append_off {v:Value} (h:DiskAt w F v d) (hoff:d.off=true) (name s:ByteArray) :
  Calls Tryz.prog 79 #[v,.string name,.string s] w fun e w' => e=.returned (.int .i64 51)∧w=w':=by
 obtain ⟨bd,bm,cv,kv,rfl,h,hf⟩:=h
 have hr:=runs_in h
 rw [hoff] at hr
 clear h hf hoff
 go_enter Tryz.func79,Tryz.ntmps79
 go_wp2_with (go_at_call 99;refine hr.mono ?_;rintro e w' ⟨rfl,rfl⟩)
 go_ret
 exact ⟨rfl,rfl⟩
theorem append_bad {v:Value} (h:DiskAt w F v d) (hoff:d.off=false) (name s:ByteArray) (hn:name.size≤maxLen) (hnm:¬ Named name.data.toList) :
  Calls Tryz.prog 79 #[v,.string name,.string s] w fun e w' => e=.returned (.int .i64 2)∧w=w':=by
 obtain ⟨bd,bm,cv,kv,rfl,h,hf⟩:=h
 have hr:=runs_in h
 rw [hoff] at hr
 have hna:=named_any name w hn (b:=false) (by simp [hnm])
 clear h hf hoff hnm
 go_enter Tryz.func79,Tryz.ntmps79
 go_wp2_with (first
  | (go_at_call 99;refine hr.mono ?_;rintro e w' ⟨rfl,rfl⟩)
  | (go_at_call 137;refine hna.mono ?_;rintro e w' ⟨rfl,rfl⟩))
 go_ret
 exact ⟨rfl,rfl⟩
set_option maxRecDepth 100000 in
set_option maxHeartbeats 1000000 in
theorem append_many {v:Value} (h:DiskAt w F v d) (hoff:d.off=false) (name s:ByteArray) (hn:name.size≤maxLen) (hnm:Named name.data.toList) (hg:get d.files name.data.toList=none) (hfull:1024≤d.files.length) :
  Calls Tryz.prog 79 #[v,.string name,.string s] w fun e w' => e=.returned (.int .i64 50)∧Below w.heap.size w w':=by
 obtain ⟨bd,bm,cv,kv,rfl,h,hf⟩:=h
 have hbd:=h.blk.lt
 have hr:=runs_in h
 rw [hoff] at hr
 have hna:=named_any name w hn (b:=true) (by simp [hnm])
 have c3:=h.blk.cell 3
 simp at c3
 have Hg:=Lib.hid hg
 have H:=Lib.hid h
 obtain ⟨w1,hw1⟩:∃ w1,w1=w.alloc (.cells #[.string ⟨#[]⟩,.int .i64 0] 185 (0,0)):=⟨_,rfl⟩
 have hb1:Below w.heap.size w w1:=by rw [hw1];exact (Below.refl _ _).alloc (Nat.le_refl _) _
 have hz1:=hb1.size
 have d3:=(hb1.cell (p:=⟨bd,3,none⟩) hbd).trans c3
 have hlen:=fun (x:Ext w1) ty => ((h.map.below hb1).below x.le).len ty
 have hge:decide ((1024:Int)≤d.files.length)=true:=decide_eq_true (by omega)
 have HW:=Lib.hid hw1
 have Hb1:=Lib.hid hb1
 clear h hg hw1 hf hb1 hoff hnm
 go_enter Tryz.func79,Tryz.ntmps79
 go_wp2_with (first
  | (go_at_call 99;refine hr.mono ?_;rintro e w' ⟨rfl,rfl⟩)
  | (go_at_call 137;refine hna.mono ?_;rintro e w' ⟨rfl,rfl⟩)
  | (at_lookup;refine wpList_look_ok rfl (.tmp 22) (.tmp 23) rfl bm _ rfl H.out.map name rfl hn ⟨#[]⟩ 0 false (by rw [Hg.out];rfl) (by rw [Hg.out];rfl) ?_))
 rw [← HW.out]
 refine wp_region_ext (by kernel_rfl) (by kernel_rfl) fun K hK => ?_
 repeat (go_big_quiet_step (fail))
 refine wpQuiet_nil (hK _ fun x => ?_)
 clear hK K
 have Hx:=Lib.hid (Hb1.out.trans (x.le.mono hz1))
 go_wp2_with fail
 go_ret
 exact ⟨rfl,Hx.out⟩
set_option maxRecDepth 100000 in
set_option maxHeartbeats 2000000 in
theorem append_room {v:Value} (h:DiskAt w F v d) (hoff:d.off=false) (name s:ByteArray) (hn:name.size≤maxLen) (hs:s.size≤9223372036854775807) (hnm:Named name.data.toList) {sd:ByteArray} {n:Nat} {ok:Bool}
  (hf0:(get d.files name.data.toList).getD ⟨[],0⟩=⟨sd.data.toList,n⟩) (hok:(get d.files name.data.toList).isSome=ok) (hcnt:ok=true∨d.files.length<1024) (hfull:d.room<total d.files+s.size) :
  Calls Tryz.prog 79 #[v,.string name,.string s] w fun e w' => e=.returned (.int .i64 50)∧Below w.heap.size w w':=by
 obtain ⟨bd,bm,cv,kv,rfl,h,hf⟩:=h
 have hbd:=h.blk.lt
 have hr:=runs_in h
 rw [hoff] at hr
 have hna:=named_any name w hn (b:=true) (by simp [hnm])
 have c3:=h.blk.cell 3
 have c0:=h.blk.cell 0
 simp at c3 c0
 have hro:=h.ok.room2
 have hfi:=h.ok.fits
 have Hf0:=Lib.hid hf0
 have Hok:=Lib.hid hok
 have H:=Lib.hid h
 obtain ⟨w1,hw1⟩:∃ w1,w1=w.alloc (.cells #[.string sd,.int .i64 n] 185 (0,0)):=⟨_,rfl⟩
 have hb1:Below w.heap.size w w1:=by rw [hw1];exact (Below.refl _ _).alloc (Nat.le_refl _) _
 have hz1:=hb1.size
 have d3:=(hb1.cell (p:=⟨bd,3,none⟩) hbd).trans c3
 have d0:=(hb1.cell (p:=⟨bd,0,none⟩) hbd).trans c0
 have hlen:=fun (x:Ext w1) ty => ((h.map.below hb1).below x.le).len ty
 have hsz:=fun x:Ext w1 => size_in ((h.below hb1).below x.le)
 have hge:ok=true∨decide ((1024:Int)≤d.files.length)=false:=hcnt.imp id fun h => decide_eq_false (by omega)
 obtain ⟨T,hT⟩:∃ T,total d.files=T:=⟨_,rfl⟩
 rw [hT] at hfull hfi
 simp only [hT] at hsz
 have hsb:IntKind.i64.wrap ((d.room:Int)-T)=(d.room:Int)-T:=IntWalk.i64_in _ ⟨by omega,by omega⟩
 have hgt:decide ((d.room:Int)-T<s.size)=true:=decide_eq_true (by omega)
 have HS:=Lib.hid hsz
 have HW:=Lib.hid hw1
 have Hb1:=Lib.hid hb1
 clear h hf0 hok hw1 hf hb1 hoff hnm hcnt hT hsz
 cases ok
 case' false => have hge2:decide ((1024:Int)≤d.files.length)=false:=hge.elim (fun h => by cases h) id
 all_goals
  clear hge
  go_enter Tryz.func79,Tryz.ntmps79
  go_wp2_with (first
   | (go_at_call 99;refine hr.mono ?_;rintro e w' ⟨rfl,rfl⟩)
   | (go_at_call 137;refine hna.mono ?_;rintro e w' ⟨rfl,rfl⟩)
   | (at_lookup;refine wpList_look_ok rfl (.tmp 22) (.tmp 23) rfl bm _ rfl H.out.map name rfl hn sd n _ Hf0.out Hok.out ?_))
  rw [← HW.out]
  refine wp_region_ext (by kernel_rfl) (by kernel_rfl) fun K hK => ?_
  repeat (go_big_quiet_step ((go_at_call 138;exact Calls.ext_of (HS.out _))))
  refine wpQuiet_nil (hK _ fun x => ?_)
  clear hK K
  have Hx:=Lib.hid (Hb1.out.trans (x.le.mono hz1))
  go_wp2_with fail
  go_ret
  exact ⟨rfl,Hx.out⟩
set_option maxRecDepth 100000 in
set_option maxHeartbeats 2000000 in
theorem append_go {v:Value} (h:DiskAt w F v d) (hoff:d.off=false) (name s:ByteArray) (hn:name.size≤maxLen) (hnm:Named name.data.toList) {sd:ByteArray} {n:Nat} {ok:Bool}
  (hf0:(get d.files name.data.toList).getD ⟨[],0⟩=⟨sd.data.toList,n⟩) (hok:(get d.files name.data.toList).isSome=ok) (hcnt:ok=true∨d.files.length<1024) (hfit:total d.files+s.size≤d.room) :
  Calls Tryz.prog 79 #[v,.string name,.string s] w fun e w' => ∃ r,e=.returned (.int .i64 r)∧Did w F v (({ d with files:=put d.files name.data.toList ⟨sd.data.toList++s.data.toList,n⟩ }:Dk).change (put d.files name.data.toList ⟨sd.data.toList++s.data.toList,n⟩)) r w':=by
 obtain ⟨bd,bm,cv,kv,rfl,h,hf⟩:=h
 have hbd:=h.blk.lt
 have hr:=runs_in h
 rw [hoff] at hr
 have hna:=named_any name w hn (b:=true) (by simp [hnm])
 have c3:=h.blk.cell 3
 have c0:=h.blk.cell 0
 simp at c3 c0
 have hro:=h.ok.room2
 have hfi:=h.ok.fits
 have hsd:sd.size≤1048576:=by
  have hl:sd.data.toList.length=sd.size:=by simp
  cases hg:get d.files name.data.toList with
  | none => rw [hg] at hf0;have:=congrArg (fun x => x.data.length) hf0;simp at this;omega
  | some f =>
   rw [hg] at hf0
   obtain rfl:f=⟨sd.data.toList,n⟩:=hf0
   have:=data_le (get_mem hg)
   simp only [hl] at this
   omega
 have hsl:s.data.toList.length=s.size:=by simp
 have hno:¬ ((get d.files name.data.toList=none∧1024≤d.files.length)∨d.room<total d.files+s.data.toList.length):=by
  rintro (⟨e1,e2⟩ | e)
  · rw [e1] at hok;subst hok
    rcases hcnt with e | e
    · cases e
    · omega
  · rw [hsl] at e;omega
 obtain ⟨q1,q2,q3,q4⟩:=append_facts h.ok hnm hno (m:=put d.files name.data.toList ⟨sd.data.toList++s.data.toList,n⟩) (by rw [hf0])
 have hokf:=h.ok.files q1 q2 q3 q4
 have hokm:=hokf.change q1 q2 q3 q4
 have Hokm:=Lib.hid hokm
 have Hokf:=Lib.hid hokf
 have Hfo:=Lib.hid hf
 have Hoff:=Lib.hid hoff
 have hcl:=h.ok.count
 clear hno q1 q2 q3 q4 hokm hokf hsl
 have Hf0:=Lib.hid hf0
 have Hok:=Lib.hid hok
 have H:=Lib.hid h
 obtain ⟨w1,hw1⟩:∃ w1,w1=w.alloc (.cells #[.string sd,.int .i64 n] 185 (0,0)):=⟨_,rfl⟩
 have hb1:Below w.heap.size w w1:=by rw [hw1];exact (Below.refl _ _).alloc (Nat.le_refl _) _
 have hz1:=hb1.size
 have d3:=(hb1.cell (p:=⟨bd,3,none⟩) hbd).trans c3
 have d0:=(hb1.cell (p:=⟨bd,0,none⟩) hbd).trans c0
 have hlen:=fun (x:Ext w1) ty => ((h.map.below hb1).below x.le).len ty
 have hsz:=fun x:Ext w1 => size_in ((h.below hb1).below x.le)
 have hge:ok=true∨decide ((1024:Int)≤d.files.length)=false:=hcnt.imp id fun h => decide_eq_false (by omega)
 obtain ⟨T,hT⟩:∃ T,total d.files=T:=⟨_,rfl⟩
 rw [hT] at hfit hfi
 simp only [hT] at hsz
 have hsb:IntKind.i64.wrap ((d.room:Int)-T)=(d.room:Int)-T:=IntWalk.i64_in _ ⟨by omega,by omega⟩
 have hgt:decide ((d.room:Int)-T<s.size)=false:=decide_eq_false (by omega)
 have HS:=Lib.hid hsz
 have hbf:=Blk.alloc_new w 185 #[.string sd,.int .i64 n]
 rw [← hw1] at hbf
 have Hbf:=Lib.hid hbf
 have HW:=Lib.hid hw1
 have Hb1:=Lib.hid hb1
 clear hbf h hf0 hok hw1 hf hb1 hoff hnm hcnt hT hsz
 cases ok
 case' false => have hge2:decide ((1024:Int)≤d.files.length)=false:=hge.elim (fun h => by cases h) id
 all_goals
  clear hge
  go_enter Tryz.func79,Tryz.ntmps79
  go_wp2_with (first
   | (go_at_call 99;refine hr.mono ?_;rintro e w' ⟨rfl,rfl⟩)
   | (go_at_call 137;refine hna.mono ?_;rintro e w' ⟨rfl,rfl⟩)
   | (at_lookup;refine wpList_look_ok rfl (.tmp 22) (.tmp 23) rfl bm _ rfl H.out.map name rfl hn sd n _ Hf0.out Hok.out ?_))
  rw [← HW.out]
  refine wp_region_ext (by kernel_rfl) (by kernel_rfl) fun K hK => ?_
  repeat (go_big_quiet_step ((go_at_call 138;exact Calls.ext_of (HS.out _))))
  refine wpQuiet_nil (hK _ fun x => ?_)
  clear hK K
  have hb2:=Hb1.out.trans (x.le.mono hz1)
  have hbf:=(Hbf.out.ext x)
  have e3:=(hb2.cell (p:=⟨bd,3,none⟩) hbd).trans c3
  have e0:=hbf.cell 0
  have e1:=hbf.cell 1
  have f0:=hbf.free 0
  simp at e0 e1
  have Hb2:=Lib.hid hb2
  have Hbf2:=Lib.hid hbf
  have hz2:=hb2.size
  clear hb2 hbf
  go_wp2_with fail
  obtain ⟨w3,hw3⟩:∃ w3,w3=x.wd.setCell ⟨w.heap.size,0,none⟩ (.string (sd++s)):=⟨_,rfl⟩
  have hb3:Below w.heap.size w w3:=by rw [hw3];exact Hb2.out.setCell (Nat.le_refl _) _
  have hbf3:Blk w3 w.heap.size 185 #[.string (sd++s),.int .i64 n]:=by rw [hw3];exact Hbf2.out.set 0 (.string (sd++s))
  rw [← hw3]
  have g3:=(hb3.cell (p:=⟨bd,3,none⟩) hbd).trans c3
  have g0:=hbf3.cell 0
  have g1:=hbf3.cell 1
  simp at g0 g1
  have hz3:=hb3.size
  have Hb3:=Lib.hid hb3
  clear hw3 hb3 hbf3 e0 e1 e3 f0
  refine wp_region_ext_tail 6 (by kernel_rfl) (by kernel_rfl) fun K hK => ?_
  simp only [List.take_succ_cons,List.take_zero]
  repeat (go_big_quiet_step (fail))
  refine wpQuiet_nil (hK _ fun y => ?_)
  clear hK K
  simp only [List.drop_succ_cons,List.drop_zero]
  have hb4:=Hb3.out.trans (y.le.mono hz3)
  have Hm4:=Lib.hid (H.out.map.below hb4)
  have Hb4:=Lib.hid hb4
  clear hb4 g0 g1 g3
  refine wpList_put rfl (.tmp 57) (.tmp 58) (.tmp 59) rfl bm _ rfl Hm4.out (by omega) name rfl hn (sd++s) n rfl ?_
  intro w5 hm5 hc5
  rw [data_append] at hm5
  have hch5:Chg (fun k => k=bm∨w.heap.size≤k) w w5:=(Chg.of_below Hb4.out).trans (hc5.mono fun k _ e => .inl e)
  have h5:=H.out.made hm5 hch5 (fun k hk => hk.imp id fun e hF => by have:=H.out.lt k hF;omega) Hokf.out
  have hc6:Chg F w w5:=Chg.old (hch5.mono fun k _ e => e.elim (fun e => .inl (e ▸ H.out.fm)) .inr)
  have hcg:=change_any h5 (FOk.same Hfo.out rfl) Hoff.out (caps:=#[]) (Post:=Did w F (.pointer (some ⟨bd,0,none⟩)) (({ d with files:=put d.files name.data.toList ⟨sd.data.toList++s.data.toList,n⟩ }:Dk).change (put d.files name.data.toList ⟨sd.data.toList++s.data.toList,n⟩))) enters_append
    (fun n' h1 h2 w' h3 h4 => Did.crash h3 (hc6.trans h4) h1 h2 _)
    (fun hpos w6 h3 h4 => by
     refine (append_fn w6).mono ?_
     rintro e w7 ⟨rfl,rfl⟩
     have hm:=h3.map
     rw [ticked_files] at hm
     exact ⟨rfl,Did.made h3 (FOk.same Hfo.out rfl) hpos hm (hc6.trans h4) (Chg.refl (fun _ => False) _) (fun k hk => hk.elim) H.out.lt Hokm.out⟩)
  have Hcg:=Lib.hid hcg
  clear hm5 hc5 hch5 h5 hc6 hcg
  go_wp2_with fail
  refine Hcg.out.mono ?_
  rintro e w8 ⟨r,rfl,hdid⟩
  have Hdid:=Lib.hid hdid
  clear hdid
  go_wp2_with fail
  go_ret
  exact ⟨r,rfl,Hdid.out⟩
theorem append_at {v:Value} (h:DiskAt w F v d) (name s:ByteArray) (hn:name.size≤maxLen) (hs:s.size≤maxLen) :
  Calls Tryz.prog 79 #[v,.string name,.string s] w fun e w' => ∃ r,e=.returned (.int .i64 r)∧Did w F v (d.append name.data.toList s.data.toList) r w':=by
 have hsl:s.data.toList.length=s.size:=by simp
 have hs2:s.size≤9223372036854775807:=by unfold maxLen at hs;omega
 unfold Dk.append
 by_cases hoff:d.off=true
 · rw [if_pos hoff]
   refine (append_off h hoff name s).mono ?_
   rintro e w' ⟨rfl,rfl⟩
   exact ⟨51,rfl,Did.same h (Below.refl _ _) _⟩
 rw [if_neg hoff]
 have hoff2:d.off=false:=by simpa using hoff
 by_cases hnm:Named name.data.toList
 · rw [if_neg (by simp [hnm])]
   by_cases hfull:(get d.files name.data.toList=none∧1024≤d.files.length)∨d.room<total d.files+s.data.toList.length
   · rw [if_pos hfull]
     by_cases hmany:get d.files name.data.toList=none∧1024≤d.files.length
     · refine (append_many h hoff2 name s hn hnm hmany.1 hmany.2).mono ?_
       rintro e w' ⟨rfl,hb⟩
       exact ⟨50,rfl,Did.same h hb _⟩
     · have hr:=hfull.resolve_left hmany
       rw [hsl] at hr
       refine (append_room h hoff2 name s hn hs2 hnm (sd:=⟨((get d.files name.data.toList).getD ⟨[],0⟩).data.toArray⟩) (n:=((get d.files name.data.toList).getD ⟨[],0⟩).safe) rfl rfl ?_ hr).mono ?_
       · cases hg:get d.files name.data.toList with
         | some f => exact .inl rfl
         | none => exact .inr (Nat.lt_of_not_le fun e => hmany ⟨hg,e⟩)
       · rintro e w' ⟨rfl,hb⟩
         exact ⟨50,rfl,Did.same h hb _⟩
   · rw [if_neg hfull]
     have hfit:¬ d.room<total d.files+s.data.toList.length:=fun e => hfull (.inr e)
     rw [hsl] at hfit
     refine append_go h hoff2 name s hn hnm (sd:=⟨((get d.files name.data.toList).getD ⟨[],0⟩).data.toArray⟩) (n:=((get d.files name.data.toList).getD ⟨[],0⟩).safe) rfl rfl ?_ (by omega)
     cases hg:get d.files name.data.toList with
     | some f => exact .inl rfl
     | none => exact .inr (Nat.lt_of_not_le fun e => hfull (.inl ⟨hg,e⟩))
 · rw [if_pos hnm]
   refine (append_bad h hoff2 name s hn hnm).mono ?_
   rintro e w' ⟨rfl,rfl⟩
   exact ⟨2,rfl,Did.same h (Below.refl _ _) _⟩
end
end Go.Proofs.YtdacanghbepjpaaGreatDoor
namespace Go.Proofs.YtdacanghbepjpaaGreatDoor
set_option maxRecDepth 100000
open Go.RowKit Go.Maps
open Dsk
section
variable {w:World} {F:Nat→Prop} {d:Dk}
theorem read_is (d:Dk) (name:Str):Dk.opened d name=(⟨(d.read name).1,(Dk.opened d name).1.safe⟩,(d.read name).2):=by
 unfold Dk.opened Dk.read
 split
 · rfl
 · cases get d.files name <;> rfl
set_option maxHeartbeats 1000000 in
theorem read_at {v:Value} (h:DiskAt w F v d) (name:ByteArray) (hn:name.size≤maxLen) :
  Calls Tryz.prog 125 #[v,.string name] w fun e w' => e=.returned (.tuple #[.string ⟨(d.read name.data.toList).1.toArray⟩,.int .i64 (d.read name.data.toList).2])∧Below w.heap.size w w':=by
 obtain ⟨bd,bm,cv,kv,rfl,h,hf⟩:=h
 have ho:=open_in h name hn
 rw [read_is] at ho
 obtain ⟨s,hs⟩:∃ s:ByteArray,s=⟨(d.read name.data.toList).1.toArray⟩:=⟨_,rfl⟩
 obtain ⟨r,hr⟩:∃ r,r=(d.read name.data.toList).2:=⟨_,rfl⟩
 obtain ⟨n,hn2⟩:∃ n,n=(Dk.opened d name.data.toList).1.safe:=⟨_,rfl⟩
 unfold flV at ho
 simp only [← hs,← hr,← hn2] at ho ⊢
 have Ho:=Lib.hid ho
 clear h hf ho hs hr hn2
 go_enter Tryz.func125,Tryz.ntmps125
 go_wp2_with fail
 refine Ho.out.mono ?_
 rintro e w1 ⟨rfl,hb1⟩
 have Hb1:=Lib.hid hb1
 have hz1:=hb1.size
 clear hb1
 go_wp2_with fail
 go_ret2
 exact ⟨rfl,Hb1.out.alloc hz1 _⟩
def From (B:Nat) (w:World) (k:Nat):Prop:=B≤k∧k<w.heap.size
theorem new_yes (c:Nat) (w:World) (h1:1≤c) (h2:c≤1048576):Calls Tryz.prog 57 #[.int .i64 c] w fun e w' => ∃ v,e=.returned (.tuple #[v,.int .i64 0])∧DiskAt w' (From w.heap.size w') v (Dk.new c)∧Below w.heap.size w w':=by
 have hmm:=@run_makeMap Tryz.prog
 have g1:¬ (c:Int)<1:=by omega
 have g2:¬ (1048576:Int)<c:=by omega
 go_enter Tryz.func57,Tryz.ntmps57
 go_wp2
 go_ret2
 refine ⟨_,rfl,?_,((Below.refl _ _).alloc (Nat.le_refl _) _).alloc (by simp) _⟩
 have hm:OwnM (w.alloc (.map #[] 0)) w.heap.size []:=World.ownsMap_made w _ _ _
 have hb:=Blk.alloc_new (w.alloc (.map #[] 0)) 156 #[.int .i64 c,.int .i64 0,.bool false,.map (some w.heap.size),.nilFunc,.slice none 0 0]
 refine ⟨(w.alloc (.map #[] 0)).heap.size,w.heap.size,.nilFunc,.slice none 0 0,by simp,⟨hb,hm.below ((Below.refl _ _).alloc (Nat.le_refl _) _),rfl,OwnI.nil _ _,⟨by simp,by simp⟩,⟨Nat.le_refl _,by simp;omega⟩,fun k hk => (by cases hk),Ok.new h1 h2,fun k hk => hk.2⟩,fun n e => (by cases e)⟩
def DidG (w:World) (F:Nat→Prop) (v:Value) (x:Int×Dk) (r:Int) (w':World):Prop:=r=x.1∧∃ F',DiskAt w' F' v x.2∧Grow F F' w w'
theorem Did.any {v:Value} {x:Int×Dk} {r:Int} {w':World} (h:Did w F v x r w'):DidG w F v x r w':=⟨h.1,F,h.2.1,h.2.2,fun _ e => .inl e⟩
theorem DidG.same {v:Value} (h:DiskAt w F v d) {w':World} (hb:Below w.heap.size w w') (r:Int):DidG w F v (r,d) r w':=(Did.same h hb r).any
theorem OwnI.shape {w:World} {B:Nat} {v:Value} {l:List Int} (h:OwnI w B v l):∃ x c,v=.slice x l.length c:=by
 obtain ⟨_,⟨e,hl⟩ | ⟨g,cap,cur,hv,_⟩⟩:=h
 · exact ⟨none,0,by rw [e,hl]⟩
 · exact ⟨_,_,hv⟩
theorem wpList_copy_ints {ops:Array Oper} {rest:List Oper} {o:Oper} {a:Act} {Q:Exit→Act→World→Prop} (hgd:o.guard=none) (s x:Operand)
  (ho:o.op=.call { callee:=.builtin .append,args:=#[s,x],argTypes:=#[79,79] })
  (hs:a.eval s=.slice none 0 0) (v:Value) (hx:a.eval x=v) {S:Nat→Prop} (l:List Int) (hk:KeepR w S v l) (hl:l.length≤1099511627776)
  (h:∀ v' w',OwnI w' w.heap.size v' l→Below w.heap.size w w'→wpList Tryz.prog ops Q rest (a.put o.dst v') w'):wpList Tryz.prog ops Q (o::rest) a w:=by
 obtain ⟨i0,hi,hz0,hz1,hz2⟩:=info_parts Tryz.info_int
 obtain ⟨y,c,rfl,hy,hc⟩:=hk
 have hn:=OwnI.nil w w.heap.size
 cases y with
 | none =>
  obtain rfl:=hy rfl
  have hl0:l=[]:=by
   cases l with
   | nil => rfl
   | cons z l => obtain ⟨b,off,e,_⟩:=hc 0 (by simp);cases e
  subst hl0
  exact wpList_append_own_none hgd s x 79 ho w.heap.size 3 i0 1 under_ints hi (.slice none 0 0) 0 [] hs hn hx (h _ _ (OwnI.nil _ _) (Below.refl _ _))
 | some ad =>
  refine wpList_append_own _ hgd s x 79 ho w.heap.size 3 i0 (.int .i64 0) 1 8 under_ints hi hz0 hz1 hz2 rfl (by decide) (.slice none 0 0) 0 [] hs hn ad l.length c (l.map (Value.int .i64)) hx (by simp) ?_ ?_ ?_ ?_ (Nat.le_refl _) ?_
  · intro j u hj
    have hj':j<l.length:=by
     have:=(List.getElem?_eq_some_iff.1 hj).1
     simpa using this
    obtain ⟨b,off,e,_,_,hcell⟩:=hc j hj'
    obtain rfl:=Option.some.inj e
    have e2:(⟨b,off,none⟩:Addr).add j=⟨b,off+j,none⟩:=by unfold Addr.add;split <;> simp_all
    rw [e2,hcell]
    simp [hj'] at hj
    rw [← hj]
  · intro u hu
    obtain ⟨x,_,rfl⟩:=List.mem_map.1 hu
    rfl
  · unfold maxLen;omega
  · omega
  · intro v' w' h1 h2 _
    refine h v' w' ?_ (hn.below h2 (Nat.le_refl _))
    unfold OwnI
    simpa using h1
set_option maxHeartbeats 1000000 in
theorem fail_at {v:Value} (h:DiskAt w F v d) (n:Int) (hn:n≤9223372036854775807) (kv0:Value) (keep:List Int) {S:Nat→Prop} (hk:KeepR w S kv0 keep) (hkl:keep.length≤1099511627776) :
  Calls Tryz.prog 34 #[v,.int .i64 n,kv0] w fun e w' => ∃ r,e=.returned (.int .i64 r)∧DidG w F v (d.failAt n keep) r w':=by
 have hat:=h
 obtain ⟨bd,bm,cv,kv,rfl,h,hf⟩:=h
 have hbd:=h.blk.lt
 obtain ⟨w0,hw0⟩:∃ w0,w0=w.alloc (.cells #[.int .i64 n] 3 (0,0)):=⟨_,rfl⟩
 have hb0:Below w.heap.size w w0:=by rw [hw0];exact (Below.refl _ _).alloc (Nat.le_refl _) _
 have hz0:w0.heap.size=w.heap.size+1:=by rw [hw0];simp
 have hr:=runs_in (h.below hb0)
 have hc0:Blk w0 w.heap.size 3 #[.int .i64 n]:=by rw [hw0];exact Blk.alloc_new w _ _
 have p0:=hc0.cell 0
 simp at p0
 have Hat:=Lib.hid hat
 have H:=Lib.hid h
 have Hf:=Lib.hid hf
 have Hb0:=Lib.hid hb0
 have HW:=Lib.hid hw0
 have Hc0:=Lib.hid hc0
 have Hk:=Lib.hid (hk.chg (Chg.of_below hb0) (T:=fun _ => False) (fun _ e => e.elim))
 unfold Dk.failAt
 clear h hat hf hb0 hc0 hk
 cases hoff:d.off
 case true =>
  rw [if_pos rfl]
  simp only [hoff] at hr
  clear hoff hw0
  go_enter Tryz.func34,Tryz.ntmps34
  go_wp2_with fail
  rw [← HW.out]
  refine hr.mono ?_
  rintro e w' ⟨rfl,rfl⟩
  go_wp2_with fail
  go_ret
  exact ⟨51,rfl,DidG.same Hat.out Hb0.out _⟩
 rw [if_neg (by simp)]
 simp only [hoff] at hr
 by_cases hn0:n<0
 · rw [if_pos hn0]
   clear hoff hw0
   go_enter Tryz.func34,Tryz.ntmps34
   go_wp2_with fail
   rw [← HW.out]
   refine hr.mono ?_
   rintro e w' ⟨rfl,rfl⟩
   go_wp2_with fail
   go_ret
   exact ⟨2,rfl,DidG.same Hat.out Hb0.out _⟩
 · rw [if_neg hn0]
   have Hoff:=Lib.hid hoff
   clear hoff hw0
   go_enter Tryz.func34,Tryz.ntmps34
   go_wp2_with fail
   rw [← HW.out]
   refine hr.mono ?_
   rintro e w' ⟨rfl,rfl⟩
   have c5:=(H.out.blk.below Hb0.out).cell 5
   have f5:=(H.out.blk.below Hb0.out).free 5
   have c4:=(H.out.blk.below Hb0.out).cell 4
   have f4:=(H.out.blk.below Hb0.out).free 4
   simp at c5 c4
   go_wp2_with (at_builtin;refine wpList_copy_ints rfl _ _ rfl rfl kv0 rfl keep Hk.out hkl ?_;intro v1 w1 hown hb1;obtain ⟨x1,cap1,hv1⟩:=hown.shape;subst hv1;have Hown:=Lib.hid hown;have Hb1:=Lib.hid hb1;have hz1:=hb1.size;have d5:=(hb1.cell (p:=⟨bd,5,none⟩) (show bd<_ by omega)).trans c5;have e5:=(hb1.frozen (p:=⟨bd,5,none⟩) (show bd<_ by omega)).trans f5;have d4:=(hb1.cell (p:=⟨bd,4,none⟩) (show bd<_ by omega)).trans c4;have e4:=(hb1.frozen (p:=⟨bd,4,none⟩) (show bd<_ by omega)).trans f4;clear hown hb1 c5 f5 c4 f4 p0)
   go_ret
   have hz2:=Hb1.out.size
   have hb:=(((H.out.blk.below Hb0.out).below Hb1.out).set 5 (.slice x1 keep.length cap1)).set 4 (.func (.func 100) #[] #[.pointer (some ⟨w.heap.size,0,none⟩)])
   rw [Hoff.out] at hb
   have hch:Chg (·=bd) w1 _:=(put_wr w1 bd 5 (.slice x1 keep.length cap1)).trans (put_wr _ bd 4 (.func (.func 100) #[] #[.pointer (some ⟨w.heap.size,0,none⟩)]))
   have h1:=(H.out.below Hb0.out).below Hb1.out
   have hne:w.heap.size≠bd:=by omega
   have hok:Ok { d with off:=false,fail:=some n,keep:=keep }:=by
    have:=H.out.ok.failAt n keep hkl
    unfold Dk.failAt at this
    rw [Hoff.out,if_neg (by simp),if_neg (by omega)] at this
    exact this
   refine ⟨0,rfl,rfl,fun k => F k∨(w.heap.size≤k∧k<w1.heap.size),⟨bd,bm,_,_,rfl,⟨hb,h1.map.chg hch (map_ne_blk h1.map h1.blk),⟨w.heap.size,rfl,(Hc0.out.below Hb1.out).chg hch hne,.inr ⟨Nat.le_refl _,by omega⟩⟩,(Hown.out.base (Nat.zero_le _)).chg hch ?_,.inl h1.fd,.inl h1.fm,?_,hok,?_⟩,?_⟩,?_,?_⟩
   · intro k hk e
     have:=(World.ownsRow.lt Hown.out k hk).1
     omega
   · intro k hk
     have hk2:=World.ownsRow.lt Hown.out k hk
     refine ⟨.inr ⟨by omega,hk2.2⟩,by omega,fun e => ?_⟩
     simp at e <;> omega
   · intro k hk
     have:=hch.size
     rcases hk with hk | hk
     · have:=h1.lt k hk;omega
     · omega
   · intro k e
     have:n=k:=by simpa using e
     omega
   · have hcc:Chg F w w1:=(Chg.of_below Hb0.out).trans (Chg.of_below Hb1.out)
     exact hcc.trans (hch.mono fun _ _ e => e ▸ h1.fd)
   · rintro k (hk | hk)
     · exact .inl hk
     · exact .inr hk.1
end
end Go.Proofs.YtdacanghbepjpaaGreatDoor
namespace Go.Proofs.YtdacanghbepjpaaGreatDoor
set_option maxRecDepth 100000
open Go.RowKit Go.Maps
open Dsk
section
variable {w:World} {F:Nat→Prop} {d:Dk}
end
end Go.Proofs.YtdacanghbepjpaaGreatDoor
namespace Go.Proofs.YtdacanghbepjpaaGreatDoor
set_option maxRecDepth 100000
open Go.RowKit Go.Maps
open Dsk
section
variable {w:World} {F:Nat→Prop} {d:Dk} {v:Value}
theorem names_at (h:DiskAt w F v d):Calls Tryz.prog 159 #[v] w fun e w' => ∃ u,e=.returned u∧OwnS w' w.heap.size u (strs (names d.files))∧Below w.heap.size w w':=by
 obtain ⟨bd,bm,cv,kv,rfl,h,hf⟩:=h;exact names_in h
theorem up_at (h:DiskAt w F v d):Calls Tryz.prog 37 #[v] w fun e w' => e=.returned (.bool (!d.off))∧w=w':=by
 obtain ⟨bd,bm,cv,kv,rfl,h,hf⟩:=h;exact up_in h
theorem starts_at (h:DiskAt w F v d):Calls Tryz.prog 127 #[v] w fun e w' => e=.returned (.int .i64 d.starts)∧w=w':=by
 obtain ⟨bd,bm,cv,kv,rfl,h,hf⟩:=h;exact starts_in h
theorem synced_at (h:DiskAt w F v d) (name:ByteArray) (hn:name.size≤maxLen):Calls Tryz.prog 149 #[v,.string name] w fun e w' => e=.returned (.int .i64 (d.synced name.data.toList))∧w=w':=by
 obtain ⟨bd,bm,cv,kv,rfl,h,hf⟩:=h;exact synced_in h name hn
theorem DiskAt.ptr (h:DiskAt w F v d):∃ bd,v=.pointer (some ⟨bd,0,none⟩):=by obtain ⟨bd,_,_,_,e,_⟩:=h;exact ⟨bd,e⟩
end
def Live (w0:World) (X:Nat→Prop) (w:World) (v:Value) (d:Dk):Prop:=∃ F,DiskAt w F v d∧(∀ k,F k→w0.heap.size≤k∧¬ X k)∧(∀ k,X k→k<w.heap.size)∧Below w0.heap.size w0 w
def Keeps (X:Nat→Prop) (w w':World):Prop:=Chg (fun k => ¬ X k) w w'
theorem Keeps.below {X:Nat→Prop} {w w':World} (h:Below w.heap.size w w'):Keeps X w w':=Chg.of_below h
theorem Keeps.trans {X:Nat→Prop} {a b c:World} (h:Keeps X a b) (k:Keeps X b c):Keeps X a c:=Chg.trans h k
theorem Keeps.mono {X Y:Nat→Prop} {w w':World} (h:Keeps X w w') (hXY:∀ k,Y k→X k):Keeps Y w w':=Chg.mono h fun _ _ e x => e (hXY _ x)
def Also (X:Nat→Prop) (w w':World) (k:Nat):Prop:=X k∨(w.heap.size≤k∧k<w'.heap.size)
section
variable {w0 w w':World} {X:Nat→Prop} {v:Value} {d:Dk}
theorem Live.below (h:Live w0 X w v d):Below w0.heap.size w0 w:=by obtain ⟨_,_,_,_,h⟩:=h;exact h
theorem Live.size (h:Live w0 X w v d):w0.heap.size≤w.heap.size:=h.below.size
theorem Live.lt (h:Live w0 X w v d):∀ k,X k→k<w.heap.size:=by obtain ⟨_,_,_,h,_⟩:=h;exact h
theorem Live.ok (h:Live w0 X w v d):Ok d:=by obtain ⟨_,h,_⟩:=h;exact h.ok
theorem Live.ptr (h:Live w0 X w v d):∃ bd,v=.pointer (some ⟨bd,0,none⟩):=by obtain ⟨_,h,_⟩:=h;exact h.ptr
theorem Live.keep (h:Live w0 X w v d) (hb:Below w.heap.size w w'):Live w0 X w' v d:=by
 obtain ⟨F,h1,h2,h3,h4⟩:=h
 exact ⟨F,h1.below hb,h2,fun k hk => Nat.lt_of_lt_of_le (h3 k hk) hb.size,h4.trans (hb.mono h4.size)⟩
theorem Live.add (h:Live w0 X w v d) (hb:Below w.heap.size w w'):Live w0 (Also X w w') w' v d:=by
 obtain ⟨F,h1,h2,h3,h4⟩:=h
 have hz:=hb.size
 refine ⟨F,h1.below hb,fun k hk => ⟨(h2 k hk).1,fun hx => ?_⟩,fun k hk => ?_,h4.trans (hb.mono h4.size)⟩
 · rcases hx with hx | hx
   · exact (h2 k hk).2 hx
   · have:=h1.lt k hk;omega
 · rcases hk with hk | hk
   · have:=h3 k hk;omega
   · exact hk.2
theorem Live.drop (h:Live w0 X w v d) {Y:Nat→Prop} (hY:∀ k,Y k→X k):Live w0 Y w v d:=by
 obtain ⟨F,h1,h2,h3,h4⟩:=h
 exact ⟨F,h1,fun k hk => ⟨(h2 k hk).1,fun hy => (h2 k hk).2 (hY k hy)⟩,fun k hk => h3 k (hY k hk),h4⟩
theorem Live.of {P:Program} {f:FuncId} {args:Array Value} {x:Int×Dk} (h:Live w0 X w v d)
  (hc:∀ F,DiskAt w F v d→(∀ k,F k→w0.heap.size≤k∧¬ X k)→Calls P f args w fun e w' => ∃ r,e=.returned (.int .i64 r)∧DidG w F v x r w') :
  Calls P f args w fun e w' => e=.returned (.int .i64 x.1)∧Live w0 X w' v x.2∧Keeps X w w':=by
 obtain ⟨F,h1,h2,h3,h4⟩:=h
 refine (hc F h1 h2).mono ?_
 rintro e w' ⟨r,rfl,rfl,F',hd,hg⟩
 have hb:=hg.below h4.size fun k hk => (h2 k hk).1
 exact ⟨rfl,⟨F',hd,fun k hk => ⟨hb.2 k hk,fun hx => (hg.sub k hk).elim (fun e => (h2 k e).2 hx) (fun e => absurd (h3 k hx) (by omega))⟩,fun k hk => Nat.lt_of_lt_of_le (h3 k hk) hg.chg.size,h4.trans hb.1⟩,hg.chg.mono fun k _ hk hx => (h2 k hk).2 hx⟩
theorem Live.append (h:Live w0 X w v d) (name s:ByteArray) (hn:name.size≤maxLen) (hs:s.size≤maxLen) :
  Calls Tryz.prog 79 #[v,.string name,.string s] w fun e w' => e=.returned (.int .i64 (d.append name.data.toList s.data.toList).1)∧Live w0 X w' v (d.append name.data.toList s.data.toList).2∧Keeps X w w' :=
 h.of fun _ hd _ => (append_at hd name s hn hs).mono fun _ _ ⟨r,e,x⟩ => ⟨r,e,x.any⟩
theorem Live.sync (h:Live w0 X w v d) (name:ByteArray) (hn:name.size≤maxLen) :
  Calls Tryz.prog 84 #[v,.string name] w fun e w' => e=.returned (.int .i64 (d.sync name.data.toList).1)∧Live w0 X w' v (d.sync name.data.toList).2∧Keeps X w w' :=
 h.of fun _ hd _ => (sync_at hd name hn).mono fun _ _ ⟨r,e,x⟩ => ⟨r,e,x.any⟩
theorem Live.rename (h:Live w0 X w v d) (name to:ByteArray) (hn:name.size≤maxLen) (hs:to.size≤maxLen) :
  Calls Tryz.prog 171 #[v,.string name,.string to] w fun e w' => e=.returned (.int .i64 (d.rename name.data.toList to.data.toList).1)∧Live w0 X w' v (d.rename name.data.toList to.data.toList).2∧Keeps X w w' :=
 h.of fun _ hd _ => (rename_at hd name to hn hs).mono fun _ _ ⟨r,e,x⟩ => ⟨r,e,x.any⟩
theorem Live.remove (h:Live w0 X w v d) (name:ByteArray) (hn:name.size≤maxLen) :
  Calls Tryz.prog 146 #[v,.string name] w fun e w' => e=.returned (.int .i64 (d.remove name.data.toList).1)∧Live w0 X w' v (d.remove name.data.toList).2∧Keeps X w w' :=
 h.of fun _ hd _ => (remove_at hd name hn).mono fun _ _ ⟨r,e,x⟩ => ⟨r,e,x.any⟩
theorem Live.fail (h:Live w0 X w v d) (n:Int) (hn:n≤9223372036854775807) (kv0:Value) (keep:List Int) {S:Nat→Prop} (hk:KeepR w S kv0 keep) (hkl:keep.length≤1099511627776) :
  Calls Tryz.prog 34 #[v,.int .i64 n,kv0] w fun e w' => e=.returned (.int .i64 (d.failAt n keep).1)∧Live w0 X w' v (d.failAt n keep).2∧Keeps X w w' :=
 h.of fun _ hd _ => fail_at hd n hn kv0 keep hk hkl
theorem Live.names (h:Live w0 X w v d):Calls Tryz.prog 159 #[v] w fun e w' => ∃ u,e=.returned u∧OwnS w' w.heap.size u (strs (Dsk.names d.files))∧Below w.heap.size w w':=by obtain ⟨F,h,_⟩:=h;exact names_at h
theorem Live.up (h:Live w0 X w v d):Calls Tryz.prog 37 #[v] w fun e w' => e=.returned (.bool (!d.off))∧w=w':=by obtain ⟨F,h,_⟩:=h;exact up_at h
theorem Live.starts (h:Live w0 X w v d):Calls Tryz.prog 127 #[v] w fun e w' => e=.returned (.int .i64 d.starts)∧w=w':=by obtain ⟨F,h,_⟩:=h;exact starts_at h
theorem Live.synced (h:Live w0 X w v d) (name:ByteArray) (hn:name.size≤maxLen):Calls Tryz.prog 149 #[v,.string name] w fun e w' => e=.returned (.int .i64 (d.synced name.data.toList))∧w=w':=by obtain ⟨F,h,_⟩:=h;exact synced_at h name hn
theorem Live.read (h:Live w0 X w v d) (name:ByteArray) (hn:name.size≤maxLen) :
  Calls Tryz.prog 125 #[v,.string name] w fun e w' => e=.returned (.tuple #[.string ⟨(d.read name.data.toList).1.toArray⟩,.int .i64 (d.read name.data.toList).2])∧Below w.heap.size w w':=by obtain ⟨F,h,_⟩:=h;exact read_at h name hn
theorem live_new (c:Nat) (w:World) (h1:1≤c) (h2:c≤1048576):Calls Tryz.prog 57 #[.int .i64 c] w fun e w' => ∃ v,e=.returned (.tuple #[v,.int .i64 0])∧Live w (fun _ => False) w' v (Dk.new c):=by
 refine (new_yes c w h1 h2).mono ?_
 rintro e w' ⟨v,rfl,hd,hb⟩
 exact ⟨v,rfl,_,hd,fun k hk => ⟨hk.1,id⟩,fun _ hk => hk.elim,hb⟩
end
end Go.Proofs.YtdacanghbepjpaaGreatDoor
namespace Go.Proofs.YtdacanghbepjpaaGreatDoor
set_option maxRecDepth 100000
open Go.RowKit Go.Maps
open Dsk
theorem lit_le {s:ByteArray} (h:s.size≤1000):s.size≤maxLen:=by unfold maxLen;omega
section
variable {w0 w:World} {X:Nat→Prop} {v:Value} {d d':Dk} {r:Int}
end
end Go.Proofs.YtdacanghbepjpaaGreatDoor
namespace Go.Proofs.YtdacanghbepjpaaGreatDoor
set_option maxRecDepth 100000
open Go.RowKit Go.Maps
open Dsk
section
variable {w0 w:World} {X:Nat→Prop} {v:Value} {d d':Dk} {r:Int}
end
end Go.Proofs.YtdacanghbepjpaaGreatDoor
namespace Go.Proofs.YtdacanghbepjpaaGreatDoor
set_option maxRecDepth 100000
open Go.RowKit Go.Maps
open Dsk
theorem OwnS.chg {S:Nat→Prop} {w w':World} {B:Nat} {v:Value} {l:List ByteArray} (h:OwnS w B v l) (x:Chg S w w') (hS:∀ k,v.ownBlock=some k→¬ S k):OwnS w' B v l:=by
 have hlt:=World.ownsRow.lt h
 obtain ⟨h1,h2⟩:=h
 refine ⟨h1,?_⟩
 rcases h2 with h2 | ⟨g,cap,cur,hv,hg,hh,r⟩
 · exact .inl h2
 · refine .inr ⟨g,cap,cur,hv,hg,?_,r⟩
   have hb:v.ownBlock=some g:=by rw [hv];rfl
   rw [x.block g (hlt g hb).2 (hS g hb),hh]
theorem OwnI.each {w:World} {B:Nat} {v:Value} {l:List Int} (h:OwnI w B v l):∃ x c,v=.slice x l.length c∧∀ (j:Nat) (hj:j<l.length),∃ b,x=some ⟨b,0,none⟩∧B≤b∧b<w.heap.size∧w.cell? ⟨b,j,none⟩=some (.int .i64 l[j]):=by
 have hlt:=World.ownsRow.lt h
 have hcs:=fun g (hg:v.ownBlock=some g) => World.ownsRow.cells h hg
 obtain ⟨h1,h2⟩:=h
 rcases h2 with ⟨rfl,h2⟩ | ⟨g,cap,cur,hv,hg,hh,r⟩
 · exact ⟨none,0,by rw [h2],fun j hj => absurd hj (by omega)⟩
 · refine ⟨some ⟨g,0,none⟩,cap,hv,fun j hj => ⟨g,rfl,hg,(hlt g (by rw [hv];rfl)).2,?_⟩⟩
   have:=hcs g (by rw [hv];rfl) j (.int .i64 l[j]) (by rw [List.getElem?_map,List.getElem?_eq_getElem hj];rfl)
   have e:(⟨g,0,none⟩:Addr).add j=⟨g,j,none⟩:=by unfold Addr.add;split <;> simp_all
   rw [← e];exact this
end Go.Proofs.YtdacanghbepjpaaGreatDoor
