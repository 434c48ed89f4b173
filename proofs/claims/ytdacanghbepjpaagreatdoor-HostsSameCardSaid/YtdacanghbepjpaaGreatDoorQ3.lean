/- A host's closures: what is done while it is up: walked. A host's methods that do something while it is up: walked. A host sends, and takes mail: walked. -/
import Derived.Test.YtdacanghbepjpaaGreatDoorQ2
namespace Go.Proofs.YtdacanghbepjpaaGreatDoor
set_option linter.unusedSimpArgs false
set_option linter.unusedVariables false
set_option maxRecDepth 100000
open Go.RowKit Go.Maps
open Dsk
structure Bx (w:World) (K:Nat→Prop) (b:Nat) (t:TypeId) (cs:Array Value):Prop where
 blk:Blk w b t cs
 kept:K b
section
variable {w0 w w':World} {P S K:Nat→Prop} {jh bd j jx b1 b2 b3 s:Nat} {o o':Hs} {t t1 t2 t3:TypeId} {cs:Array Value}
theorem Bx.below (h:Bx w K b1 t cs) (y:Below w.heap.size w w'):Bx w' K b1 t cs:=⟨h.blk.below y,h.kept⟩
theorem Bx.keeps (h:Bx w K b1 t cs) (y:Keeps K w w'):Bx w' K b1 t cs:=⟨h.blk.chg y fun e => e h.kept,h.kept⟩
def wroteO (o:Hs) (y:Sp.Span):Hs:={ o with d:=(appP o.d o.h y).2.2,h:=(appP o.d o.h y).2.1,refused:=if (appP o.d o.h y).1=0 then o.refused else o.refused+1 }
theorem ho_sync1 (n:HE w0 w K jh bd j jx o) (hu:o.up=true) (he:LEnv w0) (f:Few o.d o.h s o.x) (k1:Bx w K b1 t #[.pointer (some ⟨jh,0,none⟩)]) :
  Calls Tryz.prog 115 #[.pointer (some ⟨b1,0,none⟩)] w fun e w2 => e=.returned (.int .i64 (syncP o.d o.h).1)∧HE w0 w2 K jh bd j jx { o with d:=(syncP o.d o.h).2.2,h:=(syncP o.d o.h).2.1 }∧Keeps K w w2:=by
 have HN:=Lib.hid n
 have HC:=Lib.hid (HN.out.sync hu he f)
 obtain ⟨R,hR⟩:∃ R,R=syncP o.d o.h:=⟨_,rfl⟩
 rw [← hR] at HC ⊢
 obtain ⟨c0,c1,c2,c3,c4,c5⟩:=n.cells
 rw [hu] at c4 c5
 unfold upP at c4 c5
 simp only [if_true] at c4 c5
 have kb:=k1.blk.cell 0
 simp only [List.getElem?_toArray,List.getElem?_cons_zero] at kb
 clear n hR hu
 go_enter Tryz.func115,Tryz.ntmps115
 go_wp2_with fail
 refine HC.out.mono ?_
 rintro e w1 ⟨rfl,hh⟩
 have HH:=Lib.hid hh
 clear hh HC
 go_wp2_with fail
 go_ret
 exact ⟨rfl,HH.out⟩
theorem ho_rotate1 (n:HE w0 w K jh bd j jx o) (hu:o.up=true) (he:LEnv w0) (f:Few o.d o.h s o.x) (k1:Bx w K b1 t #[.pointer (some ⟨jh,0,none⟩)]) :
  Calls Tryz.prog 116 #[.pointer (some ⟨b1,0,none⟩)] w fun e w2 => e=.returned (.int .i64 (rotP o.d o.h).1)∧HE w0 w2 K jh bd j jx { o with d:=(rotP o.d o.h).2.2,h:=(rotP o.d o.h).2.1 }∧Keeps K w w2:=by
 have HN:=Lib.hid n
 have HC:=Lib.hid (HN.out.rot hu he f)
 obtain ⟨R,hR⟩:∃ R,R=rotP o.d o.h:=⟨_,rfl⟩
 rw [← hR] at HC ⊢
 obtain ⟨c0,c1,c2,c3,c4,c5⟩:=n.cells
 rw [hu] at c4 c5
 unfold upP at c4 c5
 simp only [if_true] at c4 c5
 have kb:=k1.blk.cell 0
 simp only [List.getElem?_toArray,List.getElem?_cons_zero] at kb
 clear n hR hu
 go_enter Tryz.func116,Tryz.ntmps116
 go_wp2_with fail
 refine HC.out.mono ?_
 rintro e w1 ⟨rfl,hh⟩
 have HH:=Lib.hid hh
 clear hh HC
 go_wp2_with fail
 go_ret
 exact ⟨rfl,HH.out⟩
theorem ho_retain1 (n:HE w0 w K jh bd j jx o) (hu:o.up=true) (he:LEnv w0) (f:Few o.d o.h s o.x) (k1:Bx w K b1 t1 #[.pointer (some ⟨jh,0,none⟩)]) {m:Int} (k2:Bx w K b2 t2 #[.int .i64 m]) :
  Calls Tryz.prog 117 #[.pointer (some ⟨b1,0,none⟩),.pointer (some ⟨b2,0,none⟩)] w fun e w2 => e=.returned (.int .i64 (retP m o.d o.h).1)∧HE w0 w2 K jh bd j jx { o with d:=(retP m o.d o.h).2.2,h:=(retP m o.d o.h).2.1 }∧Keeps K w w2:=by
 obtain ⟨w1,hw1⟩:∃ y,y=w.drew:=⟨_,rfl⟩
 have HB1:=Lib.hid (show Below w.heap.size w w1 by rw [hw1];exact (Below.refl _ _).drew)
 have HN:=Lib.hid (n.below HB1.out)
 have HC:=Lib.hid (HN.out.ret hu he f m)
 have K1:=Lib.hid (k1.below HB1.out)
 have K2:=Lib.hid (k2.below HB1.out)
 have hcel:∀ (W:World) (o':Hs),HE w0 W K jh bd j jx o'→o'.up=true→W.cell? ⟨jh,4,none⟩=some (.pointer (some ⟨j,0,none⟩)):=fun W o' h e => by
  have:=h.cells.2.2.2.2.1
  rw [e] at this
  exact this
 have hT:w1.cell? ⟨b1,0,none⟩=some (.pointer (some ⟨jh,0,none⟩))∧w1.cell? ⟨jh,4,none⟩=some (.pointer (some ⟨j,0,none⟩))∧w1.cell? ⟨b2,0,none⟩=some (.int .i64 m):=⟨K1.out.blk.cell 0,hcel w1 _ HN.out hu,K2.out.blk.cell 0⟩
 have hS:True:=trivial
 obtain ⟨R,hR⟩:∃ R,R=retP m o.d o.h:=⟨_,rfl⟩
 rw [← hR] at HC ⊢
 have HUU:=Lib.hid hu
 clear n hR k1 hu
 go_enter Tryz.func117,Tryz.ntmps117
 go_wp2_with fail
 refine wp_region_two (T:=fun W => W.cell? ⟨b1,0,none⟩=some (.pointer (some ⟨jh,0,none⟩))∧W.cell? ⟨jh,4,none⟩=some (.pointer (some ⟨j,0,none⟩))∧W.cell? ⟨b2,0,none⟩=some (.int .i64 m)) (S:=fun _ => True) (n:=99) (by kernel_rfl) ?_
 rw [← hw1]
 clear hw1
 refine tk 0 3 hT hS ?_
 refine tk 1 4 hT hS ?_
 try simp only [xq]
 refine tk 2 5 hT hS ?_
 refine tk 3 6 hT hS ?_
 try simp only [xq]
 refine tk 4 7 hT hS ?_
 try simp only [xq]
 refine two_one 5 rfl (by kernel_rfl) ?_
 intro K0 hK0
 go_simp
 refine HC.out.mono ?_
 rintro e w2 ⟨rfl,hn2,hk2⟩
 have HN2:=Lib.hid hn2
 have HK2:=Lib.hid ((Keeps.below HB1.out).trans hk2)
 have hT3:w2.cell? ⟨b1,0,none⟩=some (.pointer (some ⟨jh,0,none⟩))∧w2.cell? ⟨jh,4,none⟩=some (.pointer (some ⟨j,0,none⟩))∧w2.cell? ⟨b2,0,none⟩=some (.int .i64 m):=⟨(K1.out.keeps hk2).blk.cell 0,hcel w2 _ hn2 HUU.out,(K2.out.keeps hk2).blk.cell 0⟩
 refine hK0.out _ _ hT3 (fun _ _ => hS) ?_
 clear hK0 K0
 try simp only [xq]
 clear hT hk2 hn2 HC
 have hT:=hT3
 clear hT3
 refine tk 6 2 hT hS ?_
 try simp only [xq]
 refine two_done (by kernel_rfl) ?_ _
 clear hT
 go_wp2_with fail
 go_ret
 exact ⟨rfl,HN2.out,HK2.out⟩
theorem ho_crash1 (n:HE w0 w K jh bd j jx o) (hu:o.up=true) (k1:Bx w K b1 t1 #[.pointer (some ⟨jh,0,none⟩)]) {kv:Value} {keep:List Int} (k2:Bx w K b2 t2 #[kv]) (hk:KeepR w (fun k => w0.heap.size≤k) kv keep) (hkl:keep.length≤1000000) :
  Calls Tryz.prog 119 #[.pointer (some ⟨b1,0,none⟩),.pointer (some ⟨b2,0,none⟩)] w fun e w2 => e=.returned (.int .i64 (o.d.crash keep).1)∧HE w0 w2 K jh bd j jx { o with d:=(o.d.crash keep).2 }∧Keeps K w w2:=by
 obtain ⟨w1,hw1⟩:∃ y,y=w.drew:=⟨_,rfl⟩
 have HB1:=Lib.hid (show Below w.heap.size w w1 by rw [hw1];exact (Below.refl _ _).drew)
 have HN:=Lib.hid (n.below HB1.out)
 have HC:=Lib.hid (HN.out.crash hu kv keep (hk.chg (T:=fun _ => False) (Chg.of_below HB1.out) (fun _ e => e.elim)) hkl)
 have K1:=Lib.hid (k1.below HB1.out)
 have K2:=Lib.hid (k2.below HB1.out)
 have hcel:∀ (W:World) (o':Hs),HE w0 W K jh bd j jx o'→o'.up=true→W.cell? ⟨jh,3,none⟩=some (.pointer (some ⟨bd,0,none⟩)):=fun W o' h e => by
  have:=h.cells.2.2.2.1
  skip
  exact this
 have hT:w1.cell? ⟨b1,0,none⟩=some (.pointer (some ⟨jh,0,none⟩))∧w1.cell? ⟨jh,3,none⟩=some (.pointer (some ⟨bd,0,none⟩))∧w1.cell? ⟨b2,0,none⟩=some kv:=⟨K1.out.blk.cell 0,hcel w1 _ HN.out hu,K2.out.blk.cell 0⟩
 have hS:True:=trivial
 obtain ⟨R,hR⟩:∃ R,R=o.d.crash keep:=⟨_,rfl⟩
 rw [← hR] at HC ⊢
 have HUU:=Lib.hid hu
 clear n hR k1 hu
 go_enter Tryz.func119,Tryz.ntmps119
 go_wp2_with fail
 refine wp_region_two (T:=fun W => W.cell? ⟨b1,0,none⟩=some (.pointer (some ⟨jh,0,none⟩))∧W.cell? ⟨jh,3,none⟩=some (.pointer (some ⟨bd,0,none⟩))∧W.cell? ⟨b2,0,none⟩=some kv) (S:=fun _ => True) (n:=99) (by kernel_rfl) ?_
 rw [← hw1]
 clear hw1
 refine tk 0 3 hT hS ?_
 refine tk 1 4 hT hS ?_
 try simp only [xq]
 refine tk 2 5 hT hS ?_
 refine tk 3 6 hT hS ?_
 try simp only [xq]
 refine tk 4 7 hT hS ?_
 try simp only [xq]
 refine two_one 5 rfl (by kernel_rfl) ?_
 intro K0 hK0
 go_simp
 refine HC.out.mono ?_
 rintro e w2 ⟨rfl,hn2,hk2⟩
 have HN2:=Lib.hid hn2
 have HK2:=Lib.hid ((Keeps.below HB1.out).trans hk2)
 have hT3:w2.cell? ⟨b1,0,none⟩=some (.pointer (some ⟨jh,0,none⟩))∧w2.cell? ⟨jh,3,none⟩=some (.pointer (some ⟨bd,0,none⟩))∧w2.cell? ⟨b2,0,none⟩=some kv:=⟨(K1.out.keeps hk2).blk.cell 0,hcel w2 _ hn2 HUU.out,(K2.out.keeps hk2).blk.cell 0⟩
 refine hK0.out _ _ hT3 (fun _ _ => hS) ?_
 clear hK0 K0
 try simp only [xq]
 clear hT hk2 hn2 HC
 have hT:=hT3
 clear hT3
 refine tk 6 2 hT hS ?_
 try simp only [xq]
 refine two_done (by kernel_rfl) ?_ _
 clear hT
 go_wp2_with fail
 go_ret
 exact ⟨rfl,HN2.out,HK2.out⟩
theorem ho_fail1 (n:HE w0 w K jh bd j jx o) (hu:o.up=true) (k1:Bx w K b1 t1 #[.pointer (some ⟨jh,0,none⟩)]) {m:Int} {kv:Value} {keep:List Int} (k2:Bx w K b2 t2 #[.int .i64 m]) (k3:Bx w K b3 t3 #[kv]) (hm:m≤9223372036854775807) (hk:KeepR w (fun k => w0.heap.size≤k) kv keep) (hkl:keep.length≤1000000) :
  Calls Tryz.prog 121 #[.pointer (some ⟨b1,0,none⟩),.pointer (some ⟨b2,0,none⟩),.pointer (some ⟨b3,0,none⟩)] w fun e w2 => e=.returned (.int .i64 (o.d.failAt m keep).1)∧HE w0 w2 K jh bd j jx { o with d:=(o.d.failAt m keep).2 }∧Keeps K w w2:=by
 obtain ⟨w1,hw1⟩:∃ y,y=w.drew:=⟨_,rfl⟩
 have HB1:=Lib.hid (show Below w.heap.size w w1 by rw [hw1];exact (Below.refl _ _).drew)
 have HN:=Lib.hid (n.below HB1.out)
 have HC:=Lib.hid (HN.out.failAt hu m hm kv keep (hk.chg (T:=fun _ => False) (Chg.of_below HB1.out) (fun _ e => e.elim)) hkl)
 have K1:=Lib.hid (k1.below HB1.out)
 have K2:=Lib.hid (k2.below HB1.out)
 have K3:=Lib.hid (k3.below HB1.out)
 have hcel:∀ (W:World) (o':Hs),HE w0 W K jh bd j jx o'→o'.up=true→W.cell? ⟨jh,3,none⟩=some (.pointer (some ⟨bd,0,none⟩)):=fun W o' h e => by
  have:=h.cells.2.2.2.1
  skip
  exact this
 have hT:w1.cell? ⟨b1,0,none⟩=some (.pointer (some ⟨jh,0,none⟩))∧w1.cell? ⟨jh,3,none⟩=some (.pointer (some ⟨bd,0,none⟩))∧w1.cell? ⟨b2,0,none⟩=some (.int .i64 m)∧w1.cell? ⟨b3,0,none⟩=some kv:=⟨K1.out.blk.cell 0,hcel w1 _ HN.out hu,K2.out.blk.cell 0,K3.out.blk.cell 0⟩
 have hS:True:=trivial
 obtain ⟨R,hR⟩:∃ R,R=o.d.failAt m keep:=⟨_,rfl⟩
 rw [← hR] at HC ⊢
 have HUU:=Lib.hid hu
 clear n hR k1 hu
 go_enter Tryz.func121,Tryz.ntmps121
 go_wp2_with fail
 refine wp_region_two (T:=fun W => W.cell? ⟨b1,0,none⟩=some (.pointer (some ⟨jh,0,none⟩))∧W.cell? ⟨jh,3,none⟩=some (.pointer (some ⟨bd,0,none⟩))∧W.cell? ⟨b2,0,none⟩=some (.int .i64 m)∧W.cell? ⟨b3,0,none⟩=some kv) (S:=fun _ => True) (n:=99) (by kernel_rfl) ?_
 rw [← hw1]
 clear hw1
 refine tk 0 4 hT hS ?_
 refine tk 1 5 hT hS ?_
 try simp only [xq]
 refine tk 2 6 hT hS ?_
 refine tk 3 7 hT hS ?_
 try simp only [xq]
 refine tk 4 8 hT hS ?_
 refine tk 5 9 hT hS ?_
 try simp only [xq]
 refine two_one 6 rfl (by kernel_rfl) ?_
 intro K0 hK0
 go_simp
 refine HC.out.mono ?_
 rintro e w2 ⟨rfl,hn2,hk2⟩
 have HN2:=Lib.hid hn2
 have HK2:=Lib.hid ((Keeps.below HB1.out).trans hk2)
 have hT3:w2.cell? ⟨b1,0,none⟩=some (.pointer (some ⟨jh,0,none⟩))∧w2.cell? ⟨jh,3,none⟩=some (.pointer (some ⟨bd,0,none⟩))∧w2.cell? ⟨b2,0,none⟩=some (.int .i64 m)∧w2.cell? ⟨b3,0,none⟩=some kv:=⟨(K1.out.keeps hk2).blk.cell 0,hcel w2 _ hn2 HUU.out,(K2.out.keeps hk2).blk.cell 0,(K3.out.keeps hk2).blk.cell 0⟩
 refine hK0.out _ _ hT3 (fun _ _ => hS) ?_
 clear hK0 K0
 try simp only [xq]
 clear hT hk2 hn2 HC
 have hT:=hT3
 clear hT3
 refine tk 7 3 hT hS ?_
 try simp only [xq]
 refine two_done (by kernel_rfl) ?_ _
 clear hT
 go_wp2_with fail
 go_ret
 exact ⟨rfl,HN2.out,HK2.out⟩
theorem ho_write1 (n:HE w0 w K jh bd j jx o) (hu:o.up=true) (he:LEnv w0) (f:Few o.d o.h s o.x) (k1:Bx w K b1 t1 #[.pointer (some ⟨jh,0,none⟩)]) (y:Sp.Span) (h1:y.service.size≤maxLen) (h2:y.host.size≤maxLen) (h3:y.note.size≤maxLen) (k2:Bx w K b2 t2 (spRow y).toArray) (hr:0≤o.refused∧o.refused≤1000000) :
  Calls Tryz.prog 114 #[.pointer (some ⟨b1,0,none⟩),.pointer (some ⟨b2,0,none⟩)] w fun e w2 => e=.returned (.int .i64 (appP o.d o.h y).1)∧HE w0 w2 K jh bd j jx (wroteO o y)∧Keeps K w w2:=by
 obtain ⟨w1,hw1⟩:∃ y,y=w.drew:=⟨_,rfl⟩
 have HB1:=Lib.hid (show Below w.heap.size w w1 by rw [hw1];exact (Below.refl _ _).drew)
 have HN:=Lib.hid (n.below HB1.out)
 have HC:=Lib.hid (HN.out.app hu he f y h1 h2 h3)
 have K1:=Lib.hid (k1.below HB1.out)
 have K2:=Lib.hid (k2.below HB1.out)
 have hcel:∀ (W:World) (o':Hs),HE w0 W K jh bd j jx o'→o'.up=true→W.cell? ⟨jh,4,none⟩=some (.pointer (some ⟨j,0,none⟩)):=fun W o' h e => by
  have:=h.cells.2.2.2.2.1
  rw [e] at this
  exact this
 have hT:w1.cell? ⟨b1,0,none⟩=some (.pointer (some ⟨jh,0,none⟩))∧w1.cell? ⟨jh,4,none⟩=some (.pointer (some ⟨j,0,none⟩))∧w1.cell? ⟨b2,0,none⟩=some (.int .i64 y.trace)∧w1.cell? ⟨b2,1,none⟩=some (.int .i64 y.id)∧w1.cell? ⟨b2,2,none⟩=some (.int .i64 y.parent)∧w1.cell? ⟨b2,3,none⟩=some (.string y.service)∧w1.cell? ⟨b2,4,none⟩=some (.string y.host)∧w1.cell? ⟨b2,5,none⟩=some (.int .i64 y.start)∧w1.cell? ⟨b2,6,none⟩=some (.int .i64 y.dur)∧w1.cell? ⟨b2,7,none⟩=some (.string y.note):=⟨K1.out.blk.cell 0,hcel w1 _ HN.out hu,K2.out.blk.cell 0,K2.out.blk.cell 1,K2.out.blk.cell 2,K2.out.blk.cell 3,K2.out.blk.cell 4,K2.out.blk.cell 5,K2.out.blk.cell 6,K2.out.blk.cell 7⟩
 have hS:True:=trivial
 obtain ⟨R,hR⟩:∃ R,R=appP o.d o.h y:=⟨_,rfl⟩
 rw [← hR] at HC ⊢
 unfold wroteO
 rw [← hR]
 obtain ⟨rf,hrf⟩:∃ rf,rf=(if R.1=0 then o.refused else o.refused+1):=⟨_,rfl⟩
 rw [← hrf]
 have HRF:=Lib.hid hrf
 clear hrf
 have HUU:=Lib.hid hu
 clear n hR k1 hu
 go_enter Tryz.func114,Tryz.ntmps114
 go_wp2_with fail
 refine wp_region_two (T:=fun W => W.cell? ⟨b1,0,none⟩=some (.pointer (some ⟨jh,0,none⟩))∧W.cell? ⟨jh,4,none⟩=some (.pointer (some ⟨j,0,none⟩))∧W.cell? ⟨b2,0,none⟩=some (.int .i64 y.trace)∧W.cell? ⟨b2,1,none⟩=some (.int .i64 y.id)∧W.cell? ⟨b2,2,none⟩=some (.int .i64 y.parent)∧W.cell? ⟨b2,3,none⟩=some (.string y.service)∧W.cell? ⟨b2,4,none⟩=some (.string y.host)∧W.cell? ⟨b2,5,none⟩=some (.int .i64 y.start)∧W.cell? ⟨b2,6,none⟩=some (.int .i64 y.dur)∧W.cell? ⟨b2,7,none⟩=some (.string y.note)) (S:=fun _ => True) (n:=99) (by kernel_rfl) ?_
 rw [← hw1]
 clear hw1
 refine tk 0 4 hT hS ?_
 refine tk 1 5 hT hS ?_
 try simp only [xq]
 refine tk 2 6 hT hS ?_
 refine tk 3 7 hT hS ?_
 try simp only [xq]
 refine tk 4 8 hT hS ?_
 try simp only [xq]
 refine two_one 5 rfl (by kernel_rfl) ?_
 intro K0 hK0
 go_simp
 refine HC.out.mono ?_
 rintro e w2 ⟨rfl,hn2,hk2⟩
 have HN2:=Lib.hid hn2
 have HK2:=Lib.hid ((Keeps.below HB1.out).trans hk2)
 have hT3:w2.cell? ⟨b1,0,none⟩=some (.pointer (some ⟨jh,0,none⟩))∧w2.cell? ⟨jh,4,none⟩=some (.pointer (some ⟨j,0,none⟩))∧w2.cell? ⟨b2,0,none⟩=some (.int .i64 y.trace)∧w2.cell? ⟨b2,1,none⟩=some (.int .i64 y.id)∧w2.cell? ⟨b2,2,none⟩=some (.int .i64 y.parent)∧w2.cell? ⟨b2,3,none⟩=some (.string y.service)∧w2.cell? ⟨b2,4,none⟩=some (.string y.host)∧w2.cell? ⟨b2,5,none⟩=some (.int .i64 y.start)∧w2.cell? ⟨b2,6,none⟩=some (.int .i64 y.dur)∧w2.cell? ⟨b2,7,none⟩=some (.string y.note):=⟨(K1.out.keeps hk2).blk.cell 0,hcel w2 _ hn2 HUU.out,(K2.out.keeps hk2).blk.cell 0,(K2.out.keeps hk2).blk.cell 1,(K2.out.keeps hk2).blk.cell 2,(K2.out.keeps hk2).blk.cell 3,(K2.out.keeps hk2).blk.cell 4,(K2.out.keeps hk2).blk.cell 5,(K2.out.keeps hk2).blk.cell 6,(K2.out.keeps hk2).blk.cell 7⟩
 refine hK0.out _ _ hT3 (fun _ _ => hS) ?_
 clear hK0 K0
 try simp only [xq]
 clear hT hk2 hn2 HC
 have hT:=hT3
 clear hT3
 refine tk 6 3 hT hS ?_
 try simp only [xq]
 refine two_done (by kernel_rfl) ?_ _
 have kb:=hT.1
 obtain ⟨c0,c1,c2,c3,c4,c5⟩:=HN2.out.cells
 have f2:=HN2.out.blk.free 2
 have hwr:IntKind.i64.wrap (o.refused+1)=o.refused+1:=by rw [IntKind.wrap_i64];omega
 have HSE:=Lib.hid (HN2.out.set (i:=2) (v:=.int .i64 (o.refused+1)) (o':={ o with d:=R.2.2,h:=R.2.1,refused:=o.refused+1 }) rfl (fun e => e) ⟨rfl,rfl,rfl⟩)
 clear hT
 by_cases hz:R.1=0
 case pos =>
  have hz2:(R.1 != 0)=false:=by rw [hz];rfl
  have HH:=Lib.hid (show HE w0 w2 K jh bd j jx { o with d:=R.2.2,h:=R.2.1,refused:=rf } from by rw [HRF.out,if_pos hz];exact HN2.out)
  clear hz
  go_wp2_with fail
  go_ret
  exact ⟨rfl,HH.out,HK2.out⟩
 case neg =>
  have hz2:(R.1 != 0)=true:=by rw [bne_iff_ne];exact hz
  have HH:=Lib.hid (show HE w0 (w2.setCell ⟨jh,2,none⟩ (.int .i64 (o.refused+1))) K jh bd j jx { o with d:=R.2.2,h:=R.2.1,refused:=rf } from by rw [HRF.out,if_neg hz];exact HSE.out.1)
  clear hz
  go_wp2_with fail
  go_ret
  exact ⟨rfl,HH.out,HK2.out.trans HSE.out.2⟩
end
end Go.Proofs.YtdacanghbepjpaaGreatDoor
namespace Go.Proofs.YtdacanghbepjpaaGreatDoor
set_option linter.unusedSimpArgs false
set_option linter.unusedVariables false
set_option maxRecDepth 100000
open Go.RowKit Go.Maps
open Dsk
def HoR (o:Hs) (r:Int) (o2:Hs):Int×Hs:=if o.up=true then (r,o2.settle) else (250,o)
theorem HoR.up {o:Hs} (h:o.up=true) (r:Int) (o2:Hs):HoR o r o2=(r,o2.settle):=if_pos h
theorem HoR.no {o:Hs} (h:o.up=false) (r:Int) (o2:Hs):HoR o r o2=(250,o):=if_neg (by rw [h];decide)
def NilH (w:World) (v:Value):Prop:=v=.pointer none∨∃ b,b<w.heap.size∧v=.pointer (some ⟨b,0,none⟩)∧w.cell? ⟨b,3,none⟩=some (.pointer none)
theorem NilH.below {w w':World} {v:Value} (h:NilH w v) (y:Below w.heap.size w w'):NilH w' v:=by
 rcases h with h | ⟨b,hb,h,hc⟩
 · exact .inl h
 · exact .inr ⟨b,Nat.lt_of_lt_of_le hb y.size,h,(y.cell (p:=⟨b,3,none⟩) hb).trans hc⟩
theorem NilH.state {w:World} {v:Value} (h:NilH w v):Calls Tryz.prog 104 #[v] w fun e w' => e=.returned (.int .i64 1)∧w=w':=by
 rcases h with rfl | ⟨b,hb,rfl,hc⟩
 · exact ho_state_nil w
 · exact ho_state_zero w hc
theorem NilH.does {w:World} {v:Value} (h:NilH w v) (u:Value):Calls Tryz.prog 112 #[v,u] w fun e w' => e=.returned (.int .i64 1)∧w=w':=by
 have HST:=Lib.hid h.state
 clear h
 go_enter_defers Tryz.func112,Tryz.ntmps112
 go_wp2_with fail
 refine HST.out.mono ?_
 rintro e w1 ⟨rfl,rfl⟩
 clear HST
 go_wp2_with fail
 exact ⟨_,results_tmp rfl _ _ _,rfl,rfl⟩
theorem enters_hsync:Go.Proofs.Enters Tryz.prog 115:=enters_of Tryz.func115 (by kernel_rfl) rfl
section
variable {w0 w w':World} {P S K:Nat→Prop} {jh bd j jx s:Nat} {o:Hs}
theorem ho_sync (n:HE w0 w K jh bd j jx o) (he:LEnv w0) (ok:o.up=true→Few o.d o.h s o.x) :
  Calls Tryz.prog 63 #[.pointer (some ⟨jh,0,none⟩)] w fun e w' => e=.returned (.int .i64 (HoR o (syncP o.d o.h).1 { o with d:=(syncP o.d o.h).2.2,h:=(syncP o.d o.h).2.1 }).1)∧HE w0 w' K jh bd j jx (HoR o (syncP o.d o.h).1 { o with d:=(syncP o.d o.h).2.2,h:=(syncP o.d o.h).2.1 }).2∧Keeps K w w':=by
 obtain ⟨w1,hw1⟩:∃ w1,w1=(w.alloc (.cells #[.pointer (some ⟨jh,0,none⟩)] 89 (0,0))):=⟨_,rfl⟩
 have hb1:Below w.heap.size w w1:=by rw [hw1];exact ((Below.refl _ _).alloc (by first | exact Nat.le_refl _ | (simp only [alloc_size];omega)) _)
 have hp0:Blk w1 w.heap.size 89 #[.pointer (some ⟨jh,0,none⟩)]:=by
  have:=Blk.alloc_new w 89 #[.pointer (some ⟨jh,0,none⟩)]
  rw [hw1]
  exact (by simpa using this:Blk (w.alloc (.cells #[.pointer (some ⟨jh,0,none⟩)] 89 (0,0))) w.heap.size 89 #[.pointer (some ⟨jh,0,none⟩)])
 have n1:=n.add hb1
 by_cases hu:o.up=true
 case pos =>
  rw [HoR.up hu]
  have hd:=ho_does n1 hu enters_hsync (T:=fun r o2 K2 w2 => r=(syncP o.d o.h).1∧o2={ o with d:=(syncP o.d o.h).2.2,h:=(syncP o.d o.h).2.1 }∧K2=Also K w w1∧Keeps (Also K w w1) w1 w2) (by
   refine (ho_sync1 n1 hu he (ok hu) ⟨hp0,.inr ⟨by omega,hp0.lt⟩⟩).mono ?_
   rintro e w2 ⟨rfl,hn,hk⟩
   exact ⟨_,_,_,rfl,hn,rfl,rfl,rfl,hk⟩)
  have HD:=Lib.hid hd
  have HB1:=Lib.hid hb1
  have HW1:=Lib.hid hw1
  clear hd hb1 hw1 n n1 hp0 hu
  go_enter Tryz.func63,Tryz.ntmps63
  go_wp2_with fail
  rw [← HW1.out]
  refine HD.out.mono ?_
  rintro e w3 ⟨r,o2,K2,w2,rfl,⟨rfl,rfl,rfl,hk2⟩,hn3,hk3⟩
  have HH:=Lib.hid (And.intro (hn3.drop fun k e => (.inl e:Also K w w1 k)) ((Keeps.below HB1.out).trans ((hk2.trans hk3).mono fun k e => (.inl e:Also K w w1 k))))
  clear hk2 hn3 hk3 HD
  go_wp2_with fail
  go_ret
  exact ⟨rfl,HH.out⟩
 case neg =>
  rw [Bool.not_eq_true] at hu
  rw [HoR.no hu]
  have HD:=Lib.hid (fun v => ho_does_no n1 hu v)
  have HH:=Lib.hid (And.intro (n.below hb1) (Keeps.below (X:=K) hb1))
  have HW1:=Lib.hid hw1
  clear hb1 hw1 n n1 hp0 hu
  go_enter Tryz.func63,Tryz.ntmps63
  go_wp2_with fail
  rw [← HW1.out]
  refine (HD.out _).mono ?_
  rintro e w3 ⟨rfl,rfl⟩
  clear HD
  go_wp2_with fail
  go_ret
  exact ⟨rfl,HH.out⟩
theorem nil_sync {v:Value} (h:NilH w v):Calls Tryz.prog 63 #[v] w fun e w' => e=.returned (.int .i64 1)∧Below w.heap.size w w':=by
 obtain ⟨w1,hw1⟩:∃ w1,w1=(w.alloc (.cells #[v] 89 (0,0))):=⟨_,rfl⟩
 have hb1:Below w.heap.size w w1:=by rw [hw1];exact ((Below.refl _ _).alloc (by first | exact Nat.le_refl _ | (simp only [alloc_size];omega)) _)
 have HD:=Lib.hid (fun u => (h.below hb1).does u)
 have HB1:=Lib.hid hb1
 have HW1:=Lib.hid hw1
 have hv:∃ a,v=.pointer a:=by
  rcases h with h | ⟨b,_,h,_⟩
  · exact ⟨_,h⟩
  · exact ⟨_,h⟩
 obtain ⟨a,rfl⟩:=hv
 clear hb1 hw1 h
 go_enter Tryz.func63,Tryz.ntmps63
 go_wp2_with fail
 rw [← HW1.out]
 refine (HD.out _).mono ?_
 rintro e w3 ⟨rfl,rfl⟩
 clear HD
 go_wp2_with fail
 go_ret
 exact ⟨rfl,HB1.out⟩
end
theorem enters_hrotate:Go.Proofs.Enters Tryz.prog 116:=enters_of Tryz.func116 (by kernel_rfl) rfl
section
variable {w0 w w':World} {P S K:Nat→Prop} {jh bd j jx s:Nat} {o:Hs}
theorem ho_rotate (n:HE w0 w K jh bd j jx o) (he:LEnv w0) (ok:o.up=true→Few o.d o.h s o.x) :
  Calls Tryz.prog 64 #[.pointer (some ⟨jh,0,none⟩)] w fun e w' => e=.returned (.int .i64 (HoR o (rotP o.d o.h).1 { o with d:=(rotP o.d o.h).2.2,h:=(rotP o.d o.h).2.1 }).1)∧HE w0 w' K jh bd j jx (HoR o (rotP o.d o.h).1 { o with d:=(rotP o.d o.h).2.2,h:=(rotP o.d o.h).2.1 }).2∧Keeps K w w':=by
 obtain ⟨w1,hw1⟩:∃ w1,w1=(w.alloc (.cells #[.pointer (some ⟨jh,0,none⟩)] 89 (0,0))):=⟨_,rfl⟩
 have hb1:Below w.heap.size w w1:=by rw [hw1];exact ((Below.refl _ _).alloc (by first | exact Nat.le_refl _ | (simp only [alloc_size];omega)) _)
 have hp0:Blk w1 w.heap.size 89 #[.pointer (some ⟨jh,0,none⟩)]:=by
  have:=Blk.alloc_new w 89 #[.pointer (some ⟨jh,0,none⟩)]
  rw [hw1]
  exact (by simpa using this:Blk (w.alloc (.cells #[.pointer (some ⟨jh,0,none⟩)] 89 (0,0))) w.heap.size 89 #[.pointer (some ⟨jh,0,none⟩)])
 have n1:=n.add hb1
 by_cases hu:o.up=true
 case pos =>
  rw [HoR.up hu]
  have hd:=ho_does n1 hu enters_hrotate (T:=fun r o2 K2 w2 => r=(rotP o.d o.h).1∧o2={ o with d:=(rotP o.d o.h).2.2,h:=(rotP o.d o.h).2.1 }∧K2=Also K w w1∧Keeps (Also K w w1) w1 w2) (by
   refine (ho_rotate1 n1 hu he (ok hu) ⟨hp0,.inr ⟨by omega,hp0.lt⟩⟩).mono ?_
   rintro e w2 ⟨rfl,hn,hk⟩
   exact ⟨_,_,_,rfl,hn,rfl,rfl,rfl,hk⟩)
  have HD:=Lib.hid hd
  have HB1:=Lib.hid hb1
  have HW1:=Lib.hid hw1
  clear hd hb1 hw1 n n1 hp0 hu
  go_enter Tryz.func64,Tryz.ntmps64
  go_wp2_with fail
  rw [← HW1.out]
  refine HD.out.mono ?_
  rintro e w3 ⟨r,o2,K2,w2,rfl,⟨rfl,rfl,rfl,hk2⟩,hn3,hk3⟩
  have HH:=Lib.hid (And.intro (hn3.drop fun k e => (.inl e:Also K w w1 k)) ((Keeps.below HB1.out).trans ((hk2.trans hk3).mono fun k e => (.inl e:Also K w w1 k))))
  clear hk2 hn3 hk3 HD
  go_wp2_with fail
  go_ret
  exact ⟨rfl,HH.out⟩
 case neg =>
  rw [Bool.not_eq_true] at hu
  rw [HoR.no hu]
  have HD:=Lib.hid (fun v => ho_does_no n1 hu v)
  have HH:=Lib.hid (And.intro (n.below hb1) (Keeps.below (X:=K) hb1))
  have HW1:=Lib.hid hw1
  clear hb1 hw1 n n1 hp0 hu
  go_enter Tryz.func64,Tryz.ntmps64
  go_wp2_with fail
  rw [← HW1.out]
  refine (HD.out _).mono ?_
  rintro e w3 ⟨rfl,rfl⟩
  clear HD
  go_wp2_with fail
  go_ret
  exact ⟨rfl,HH.out⟩
theorem nil_rotate {v:Value} (h:NilH w v):Calls Tryz.prog 64 #[v] w fun e w' => e=.returned (.int .i64 1)∧Below w.heap.size w w':=by
 obtain ⟨w1,hw1⟩:∃ w1,w1=(w.alloc (.cells #[v] 89 (0,0))):=⟨_,rfl⟩
 have hb1:Below w.heap.size w w1:=by rw [hw1];exact ((Below.refl _ _).alloc (by first | exact Nat.le_refl _ | (simp only [alloc_size];omega)) _)
 have HD:=Lib.hid (fun u => (h.below hb1).does u)
 have HB1:=Lib.hid hb1
 have HW1:=Lib.hid hw1
 have hv:∃ a,v=.pointer a:=by
  rcases h with h | ⟨b,_,h,_⟩
  · exact ⟨_,h⟩
  · exact ⟨_,h⟩
 obtain ⟨a,rfl⟩:=hv
 clear hb1 hw1 h
 go_enter Tryz.func64,Tryz.ntmps64
 go_wp2_with fail
 rw [← HW1.out]
 refine (HD.out _).mono ?_
 rintro e w3 ⟨rfl,rfl⟩
 clear HD
 go_wp2_with fail
 go_ret
 exact ⟨rfl,HB1.out⟩
end
theorem enters_hretain:Go.Proofs.Enters Tryz.prog 117:=enters_of Tryz.func117 (by kernel_rfl) rfl
section
variable {w0 w w':World} {P S K:Nat→Prop} {jh bd j jx s:Nat} {o:Hs}
theorem ho_retain (n:HE w0 w K jh bd j jx o) (he:LEnv w0) (m:Int) (ok:o.up=true→Few o.d o.h s o.x) :
  Calls Tryz.prog 65 #[.pointer (some ⟨jh,0,none⟩),.int .i64 m] w fun e w' => e=.returned (.int .i64 (HoR o (retP m o.d o.h).1 { o with d:=(retP m o.d o.h).2.2,h:=(retP m o.d o.h).2.1 }).1)∧HE w0 w' K jh bd j jx (HoR o (retP m o.d o.h).1 { o with d:=(retP m o.d o.h).2.2,h:=(retP m o.d o.h).2.1 }).2∧Keeps K w w':=by
 obtain ⟨w1,hw1⟩:∃ w1,w1=((w.alloc (.cells #[.pointer (some ⟨jh,0,none⟩)] 89 (0,0))).alloc (.cells #[.int .i64 m] 3 (0,0))):=⟨_,rfl⟩
 have hb1:Below w.heap.size w w1:=by rw [hw1];exact (((Below.refl _ _).alloc (by first | exact Nat.le_refl _ | (simp only [alloc_size];omega)) _).alloc (by first | exact Nat.le_refl _ | (simp only [alloc_size];omega)) _)
 have hp0:Blk w1 w.heap.size 89 #[.pointer (some ⟨jh,0,none⟩)]:=by
  have:=Blk.alloc_new w 89 #[.pointer (some ⟨jh,0,none⟩)]
  rw [hw1]
  exact (by simpa using this:Blk (w.alloc (.cells #[.pointer (some ⟨jh,0,none⟩)] 89 (0,0))) w.heap.size 89 #[.pointer (some ⟨jh,0,none⟩)]).below ((Below.refl _ _).alloc (by first | exact Nat.le_refl _ | (simp only [alloc_size];omega)) _)
 have hp1:Blk w1 (w.heap.size+1) 3 #[.int .i64 m]:=by
  have:=Blk.alloc_new (w.alloc (.cells #[.pointer (some ⟨jh,0,none⟩)] 89 (0,0))) 3 #[.int .i64 m]
  rw [hw1]
  exact (by simpa using this:Blk ((w.alloc (.cells #[.pointer (some ⟨jh,0,none⟩)] 89 (0,0))).alloc (.cells #[.int .i64 m] 3 (0,0))) (w.heap.size+1) 3 #[.int .i64 m])
 have n1:=n.add hb1
 by_cases hu:o.up=true
 case pos =>
  rw [HoR.up hu]
  have hd:=ho_does n1 hu enters_hretain (T:=fun r o2 K2 w2 => r=(retP m o.d o.h).1∧o2={ o with d:=(retP m o.d o.h).2.2,h:=(retP m o.d o.h).2.1 }∧K2=Also K w w1∧Keeps (Also K w w1) w1 w2) (by
   refine (ho_retain1 n1 hu he (ok hu) ⟨hp0,.inr ⟨by omega,hp0.lt⟩⟩ ⟨hp1,.inr ⟨by omega,hp1.lt⟩⟩).mono ?_
   rintro e w2 ⟨rfl,hn,hk⟩
   exact ⟨_,_,_,rfl,hn,rfl,rfl,rfl,hk⟩)
  have HD:=Lib.hid hd
  have HB1:=Lib.hid hb1
  have HW1:=Lib.hid hw1
  clear hd hb1 hw1 n n1 hp0 hp1 hu
  go_enter Tryz.func65,Tryz.ntmps65
  go_wp2_with fail
  rw [← HW1.out]
  refine HD.out.mono ?_
  rintro e w3 ⟨r,o2,K2,w2,rfl,⟨rfl,rfl,rfl,hk2⟩,hn3,hk3⟩
  have HH:=Lib.hid (And.intro (hn3.drop fun k e => (.inl e:Also K w w1 k)) ((Keeps.below HB1.out).trans ((hk2.trans hk3).mono fun k e => (.inl e:Also K w w1 k))))
  clear hk2 hn3 hk3 HD
  go_wp2_with fail
  go_ret
  exact ⟨rfl,HH.out⟩
 case neg =>
  rw [Bool.not_eq_true] at hu
  rw [HoR.no hu]
  have HD:=Lib.hid (fun v => ho_does_no n1 hu v)
  have HH:=Lib.hid (And.intro (n.below hb1) (Keeps.below (X:=K) hb1))
  have HW1:=Lib.hid hw1
  clear hb1 hw1 n n1 hp0 hp1 hu
  go_enter Tryz.func65,Tryz.ntmps65
  go_wp2_with fail
  rw [← HW1.out]
  refine (HD.out _).mono ?_
  rintro e w3 ⟨rfl,rfl⟩
  clear HD
  go_wp2_with fail
  go_ret
  exact ⟨rfl,HH.out⟩
theorem nil_retain {v:Value} (h:NilH w v) (m:Int):Calls Tryz.prog 65 #[v,.int .i64 m] w fun e w' => e=.returned (.int .i64 1)∧Below w.heap.size w w':=by
 obtain ⟨w1,hw1⟩:∃ w1,w1=((w.alloc (.cells #[v] 89 (0,0))).alloc (.cells #[.int .i64 m] 3 (0,0))):=⟨_,rfl⟩
 have hb1:Below w.heap.size w w1:=by rw [hw1];exact (((Below.refl _ _).alloc (by first | exact Nat.le_refl _ | (simp only [alloc_size];omega)) _).alloc (by first | exact Nat.le_refl _ | (simp only [alloc_size];omega)) _)
 have HD:=Lib.hid (fun u => (h.below hb1).does u)
 have HB1:=Lib.hid hb1
 have HW1:=Lib.hid hw1
 have hv:∃ a,v=.pointer a:=by
  rcases h with h | ⟨b,_,h,_⟩
  · exact ⟨_,h⟩
  · exact ⟨_,h⟩
 obtain ⟨a,rfl⟩:=hv
 clear hb1 hw1 h
 go_enter Tryz.func65,Tryz.ntmps65
 go_wp2_with fail
 rw [← HW1.out]
 refine (HD.out _).mono ?_
 rintro e w3 ⟨rfl,rfl⟩
 clear HD
 go_wp2_with fail
 go_ret
 exact ⟨rfl,HB1.out⟩
end
theorem enters_hwrite:Go.Proofs.Enters Tryz.prog 114:=enters_of Tryz.func114 (by kernel_rfl) rfl
section
variable {w0 w w':World} {P S K:Nat→Prop} {jh bd j jx s:Nat} {o:Hs}
theorem ho_write (n:HE w0 w K jh bd j jx o) (he:LEnv w0) (y:Sp.Span) (h1:y.service.size≤maxLen) (h2:y.host.size≤maxLen) (h3:y.note.size≤maxLen) (ok:o.up=true→Few o.d o.h s o.x∧0≤o.refused∧o.refused≤1000000) :
  Calls Tryz.prog 62 #[.pointer (some ⟨jh,0,none⟩),spV y] w fun e w' => e=.returned (.int .i64 (HoR o (appP o.d o.h y).1 (wroteO o y)).1)∧HE w0 w' K jh bd j jx (HoR o (appP o.d o.h y).1 (wroteO o y)).2∧Keeps K w w':=by
 obtain ⟨w1,hw1⟩:∃ w1,w1=((w.alloc (.cells #[.pointer (some ⟨jh,0,none⟩)] 89 (0,0))).alloc (.cells (spRow y).toArray 47 (0,0))):=⟨_,rfl⟩
 have hb1:Below w.heap.size w w1:=by rw [hw1];exact (((Below.refl _ _).alloc (by first | exact Nat.le_refl _ | (simp only [alloc_size];omega)) _).alloc (by first | exact Nat.le_refl _ | (simp only [alloc_size];omega)) _)
 have hp0:Blk w1 w.heap.size 89 #[.pointer (some ⟨jh,0,none⟩)]:=by
  have:=Blk.alloc_new w 89 #[.pointer (some ⟨jh,0,none⟩)]
  rw [hw1]
  exact (by simpa using this:Blk (w.alloc (.cells #[.pointer (some ⟨jh,0,none⟩)] 89 (0,0))) w.heap.size 89 #[.pointer (some ⟨jh,0,none⟩)]).below ((Below.refl _ _).alloc (by first | exact Nat.le_refl _ | (simp only [alloc_size];omega)) _)
 have hp1:Blk w1 (w.heap.size+1) 47 (spRow y).toArray:=by
  have:=Blk.alloc_new (w.alloc (.cells #[.pointer (some ⟨jh,0,none⟩)] 89 (0,0))) 47 (spRow y).toArray
  rw [hw1]
  exact (by simpa using this:Blk ((w.alloc (.cells #[.pointer (some ⟨jh,0,none⟩)] 89 (0,0))).alloc (.cells (spRow y).toArray 47 (0,0))) (w.heap.size+1) 47 (spRow y).toArray)
 have n1:=n.add hb1
 by_cases hu:o.up=true
 case pos =>
  rw [HoR.up hu]
  have hd:=ho_does n1 hu enters_hwrite (T:=fun r o2 K2 w2 => r=(appP o.d o.h y).1∧o2=(wroteO o y)∧K2=Also K w w1∧Keeps (Also K w w1) w1 w2) (by
   refine (ho_write1 n1 hu he (ok hu).1 ⟨hp0,.inr ⟨by omega,hp0.lt⟩⟩ y h1 h2 h3 ⟨hp1,.inr ⟨by omega,hp1.lt⟩⟩ (ok hu).2).mono ?_
   rintro e w2 ⟨rfl,hn,hk⟩
   exact ⟨_,_,_,rfl,hn,rfl,rfl,rfl,hk⟩)
  have HD:=Lib.hid hd
  have HB1:=Lib.hid hb1
  have HW1:=Lib.hid hw1
  clear hd hb1 hw1 n n1 hp0 hp1 hu
  unfold spV spRow at *
  go_enter Tryz.func62,Tryz.ntmps62
  go_wp2_with fail
  rw [← HW1.out]
  refine HD.out.mono ?_
  rintro e w3 ⟨r,o2,K2,w2,rfl,⟨rfl,rfl,rfl,hk2⟩,hn3,hk3⟩
  have HH:=Lib.hid (And.intro (hn3.drop fun k e => (.inl e:Also K w w1 k)) ((Keeps.below HB1.out).trans ((hk2.trans hk3).mono fun k e => (.inl e:Also K w w1 k))))
  clear hk2 hn3 hk3 HD
  go_wp2_with fail
  go_ret
  exact ⟨rfl,HH.out⟩
 case neg =>
  rw [Bool.not_eq_true] at hu
  rw [HoR.no hu]
  have HD:=Lib.hid (fun v => ho_does_no n1 hu v)
  have HH:=Lib.hid (And.intro (n.below hb1) (Keeps.below (X:=K) hb1))
  have HW1:=Lib.hid hw1
  clear hb1 hw1 n n1 hp0 hp1 hu
  unfold spV spRow at *
  go_enter Tryz.func62,Tryz.ntmps62
  go_wp2_with fail
  rw [← HW1.out]
  refine (HD.out _).mono ?_
  rintro e w3 ⟨rfl,rfl⟩
  clear HD
  go_wp2_with fail
  go_ret
  exact ⟨rfl,HH.out⟩
theorem nil_write {v:Value} (h:NilH w v) (y:Sp.Span):Calls Tryz.prog 62 #[v,spV y] w fun e w' => e=.returned (.int .i64 1)∧Below w.heap.size w w':=by
 obtain ⟨w1,hw1⟩:∃ w1,w1=((w.alloc (.cells #[v] 89 (0,0))).alloc (.cells (spRow y).toArray 47 (0,0))):=⟨_,rfl⟩
 have hb1:Below w.heap.size w w1:=by rw [hw1];exact (((Below.refl _ _).alloc (by first | exact Nat.le_refl _ | (simp only [alloc_size];omega)) _).alloc (by first | exact Nat.le_refl _ | (simp only [alloc_size];omega)) _)
 have HD:=Lib.hid (fun u => (h.below hb1).does u)
 have HB1:=Lib.hid hb1
 have HW1:=Lib.hid hw1
 have hv:∃ a,v=.pointer a:=by
  rcases h with h | ⟨b,_,h,_⟩
  · exact ⟨_,h⟩
  · exact ⟨_,h⟩
 obtain ⟨a,rfl⟩:=hv
 clear hb1 hw1 h
 unfold spV spRow at *
 go_enter Tryz.func62,Tryz.ntmps62
 go_wp2_with fail
 rw [← HW1.out]
 refine (HD.out _).mono ?_
 rintro e w3 ⟨rfl,rfl⟩
 clear HD
 go_wp2_with fail
 go_ret
 exact ⟨rfl,HB1.out⟩
end
theorem enters_hcrash:Go.Proofs.Enters Tryz.prog 119:=enters_of Tryz.func119 (by kernel_rfl) rfl
section
variable {w0 w w':World} {P S K:Nat→Prop} {jh bd j jx s:Nat} {o:Hs}
theorem ho_crash (n:HE w0 w K jh bd j jx o) (kv:Value) (keep:List Int) (hk:KeepR w (fun k => w0.heap.size≤k) kv keep) (hkl:keep.length≤1000000)  :
  Calls Tryz.prog 68 #[.pointer (some ⟨jh,0,none⟩),kv] w fun e w' => e=.returned (.int .i64 (HoR o (o.d.crash keep).1 { o with d:=(o.d.crash keep).2 }).1)∧HE w0 w' K jh bd j jx (HoR o (o.d.crash keep).1 { o with d:=(o.d.crash keep).2 }).2∧Keeps K w w':=by
 obtain ⟨kx,kc,hkv,_⟩:=id hk
 subst hkv
 obtain ⟨w1,hw1⟩:∃ w1,w1=((w.alloc (.cells #[.pointer (some ⟨jh,0,none⟩)] 89 (0,0))).alloc (.cells #[.slice kx keep.length kc] 79 (0,0))):=⟨_,rfl⟩
 have hb1:Below w.heap.size w w1:=by rw [hw1];exact (((Below.refl _ _).alloc (by first | exact Nat.le_refl _ | (simp only [alloc_size];omega)) _).alloc (by first | exact Nat.le_refl _ | (simp only [alloc_size];omega)) _)
 have hp0:Blk w1 w.heap.size 89 #[.pointer (some ⟨jh,0,none⟩)]:=by
  have:=Blk.alloc_new w 89 #[.pointer (some ⟨jh,0,none⟩)]
  rw [hw1]
  exact (by simpa using this:Blk (w.alloc (.cells #[.pointer (some ⟨jh,0,none⟩)] 89 (0,0))) w.heap.size 89 #[.pointer (some ⟨jh,0,none⟩)]).below ((Below.refl _ _).alloc (by first | exact Nat.le_refl _ | (simp only [alloc_size];omega)) _)
 have hp1:Blk w1 (w.heap.size+1) 79 #[.slice kx keep.length kc]:=by
  have:=Blk.alloc_new (w.alloc (.cells #[.pointer (some ⟨jh,0,none⟩)] 89 (0,0))) 79 #[.slice kx keep.length kc]
  rw [hw1]
  exact (by simpa using this:Blk ((w.alloc (.cells #[.pointer (some ⟨jh,0,none⟩)] 89 (0,0))).alloc (.cells #[.slice kx keep.length kc] 79 (0,0))) (w.heap.size+1) 79 #[.slice kx keep.length kc])
 have n1:=n.add hb1
 by_cases hu:o.up=true
 case pos =>
  rw [HoR.up hu]
  have hd:=ho_does n1 hu enters_hcrash (T:=fun r o2 K2 w2 => r=(o.d.crash keep).1∧o2={ o with d:=(o.d.crash keep).2 }∧K2=Also K w w1∧Keeps (Also K w w1) w1 w2) (by
   refine (ho_crash1 n1 hu ⟨hp0,.inr ⟨by omega,hp0.lt⟩⟩ ⟨hp1,.inr ⟨by omega,hp1.lt⟩⟩ (hk.chg (T:=fun _ => False) (Chg.of_below hb1) (fun _ e => e.elim)) hkl).mono ?_
   rintro e w2 ⟨rfl,hn,hk⟩
   exact ⟨_,_,_,rfl,hn,rfl,rfl,rfl,hk⟩)
  have HD:=Lib.hid hd
  have HB1:=Lib.hid hb1
  have HW1:=Lib.hid hw1
  clear hd hb1 hw1 n n1 hp0 hp1 hu
  go_enter Tryz.func68,Tryz.ntmps68
  go_wp2_with fail
  rw [← HW1.out]
  refine HD.out.mono ?_
  rintro e w3 ⟨r,o2,K2,w2,rfl,⟨rfl,rfl,rfl,hk2⟩,hn3,hk3⟩
  have HH:=Lib.hid (And.intro (hn3.drop fun k e => (.inl e:Also K w w1 k)) ((Keeps.below HB1.out).trans ((hk2.trans hk3).mono fun k e => (.inl e:Also K w w1 k))))
  clear hk2 hn3 hk3 HD
  go_wp2_with fail
  go_ret
  exact ⟨rfl,HH.out⟩
 case neg =>
  rw [Bool.not_eq_true] at hu
  rw [HoR.no hu]
  have HD:=Lib.hid (fun v => ho_does_no n1 hu v)
  have HH:=Lib.hid (And.intro (n.below hb1) (Keeps.below (X:=K) hb1))
  have HW1:=Lib.hid hw1
  clear hb1 hw1 n n1 hp0 hp1 hu
  go_enter Tryz.func68,Tryz.ntmps68
  go_wp2_with fail
  rw [← HW1.out]
  refine (HD.out _).mono ?_
  rintro e w3 ⟨rfl,rfl⟩
  clear HD
  go_wp2_with fail
  go_ret
  exact ⟨rfl,HH.out⟩
theorem nil_crash {v:Value} (h:NilH w v) (kx:Option Addr) (kl kc:Nat):Calls Tryz.prog 68 #[v,.slice kx kl kc] w fun e w' => e=.returned (.int .i64 1)∧Below w.heap.size w w':=by
 obtain ⟨w1,hw1⟩:∃ w1,w1=((w.alloc (.cells #[v] 89 (0,0))).alloc (.cells #[.slice kx kl kc] 79 (0,0))):=⟨_,rfl⟩
 have hb1:Below w.heap.size w w1:=by rw [hw1];exact (((Below.refl _ _).alloc (by first | exact Nat.le_refl _ | (simp only [alloc_size];omega)) _).alloc (by first | exact Nat.le_refl _ | (simp only [alloc_size];omega)) _)
 have HD:=Lib.hid (fun u => (h.below hb1).does u)
 have HB1:=Lib.hid hb1
 have HW1:=Lib.hid hw1
 have hv:∃ a,v=.pointer a:=by
  rcases h with h | ⟨b,_,h,_⟩
  · exact ⟨_,h⟩
  · exact ⟨_,h⟩
 obtain ⟨a,rfl⟩:=hv
 clear hb1 hw1 h
 go_enter Tryz.func68,Tryz.ntmps68
 go_wp2_with fail
 rw [← HW1.out]
 refine (HD.out _).mono ?_
 rintro e w3 ⟨rfl,rfl⟩
 clear HD
 go_wp2_with fail
 go_ret
 exact ⟨rfl,HB1.out⟩
end
theorem enters_hfail:Go.Proofs.Enters Tryz.prog 121:=enters_of Tryz.func121 (by kernel_rfl) rfl
section
variable {w0 w w':World} {P S K:Nat→Prop} {jh bd j jx s:Nat} {o:Hs}
theorem ho_fail (n:HE w0 w K jh bd j jx o) (m:Int) (kv:Value) (keep:List Int) (hm:m≤9223372036854775807) (hk:KeepR w (fun k => w0.heap.size≤k) kv keep) (hkl:keep.length≤1000000)  :
  Calls Tryz.prog 69 #[.pointer (some ⟨jh,0,none⟩),.int .i64 m,kv] w fun e w' => e=.returned (.int .i64 (HoR o (o.d.failAt m keep).1 { o with d:=(o.d.failAt m keep).2 }).1)∧HE w0 w' K jh bd j jx (HoR o (o.d.failAt m keep).1 { o with d:=(o.d.failAt m keep).2 }).2∧Keeps K w w':=by
 obtain ⟨kx,kc,hkv,_⟩:=id hk
 subst hkv
 obtain ⟨w1,hw1⟩:∃ w1,w1=(((w.alloc (.cells #[.pointer (some ⟨jh,0,none⟩)] 89 (0,0))).alloc (.cells #[.int .i64 m] 3 (0,0))).alloc (.cells #[.slice kx keep.length kc] 79 (0,0))):=⟨_,rfl⟩
 have hb1:Below w.heap.size w w1:=by rw [hw1];exact ((((Below.refl _ _).alloc (by first | exact Nat.le_refl _ | (simp only [alloc_size];omega)) _).alloc (by first | exact Nat.le_refl _ | (simp only [alloc_size];omega)) _).alloc (by first | exact Nat.le_refl _ | (simp only [alloc_size];omega)) _)
 have hp0:Blk w1 w.heap.size 89 #[.pointer (some ⟨jh,0,none⟩)]:=by
  have:=Blk.alloc_new w 89 #[.pointer (some ⟨jh,0,none⟩)]
  rw [hw1]
  exact (by simpa using this:Blk (w.alloc (.cells #[.pointer (some ⟨jh,0,none⟩)] 89 (0,0))) w.heap.size 89 #[.pointer (some ⟨jh,0,none⟩)]).below (((Below.refl _ _).alloc (by first | exact Nat.le_refl _ | (simp only [alloc_size];omega)) _).alloc (by first | exact Nat.le_refl _ | (simp only [alloc_size];omega)) _)
 have hp1:Blk w1 (w.heap.size+1) 3 #[.int .i64 m]:=by
  have:=Blk.alloc_new (w.alloc (.cells #[.pointer (some ⟨jh,0,none⟩)] 89 (0,0))) 3 #[.int .i64 m]
  rw [hw1]
  exact (by simpa using this:Blk ((w.alloc (.cells #[.pointer (some ⟨jh,0,none⟩)] 89 (0,0))).alloc (.cells #[.int .i64 m] 3 (0,0))) (w.heap.size+1) 3 #[.int .i64 m]).below ((Below.refl _ _).alloc (by first | exact Nat.le_refl _ | (simp only [alloc_size];omega)) _)
 have hp2:Blk w1 (w.heap.size+1+1) 79 #[.slice kx keep.length kc]:=by
  have:=Blk.alloc_new ((w.alloc (.cells #[.pointer (some ⟨jh,0,none⟩)] 89 (0,0))).alloc (.cells #[.int .i64 m] 3 (0,0))) 79 #[.slice kx keep.length kc]
  rw [hw1]
  exact (by simpa using this:Blk (((w.alloc (.cells #[.pointer (some ⟨jh,0,none⟩)] 89 (0,0))).alloc (.cells #[.int .i64 m] 3 (0,0))).alloc (.cells #[.slice kx keep.length kc] 79 (0,0))) (w.heap.size+1+1) 79 #[.slice kx keep.length kc])
 have n1:=n.add hb1
 by_cases hu:o.up=true
 case pos =>
  rw [HoR.up hu]
  have hd:=ho_does n1 hu enters_hfail (T:=fun r o2 K2 w2 => r=(o.d.failAt m keep).1∧o2={ o with d:=(o.d.failAt m keep).2 }∧K2=Also K w w1∧Keeps (Also K w w1) w1 w2) (by
   refine (ho_fail1 n1 hu ⟨hp0,.inr ⟨by omega,hp0.lt⟩⟩ ⟨hp1,.inr ⟨by omega,hp1.lt⟩⟩ ⟨hp2,.inr ⟨by omega,hp2.lt⟩⟩ hm (hk.chg (T:=fun _ => False) (Chg.of_below hb1) (fun _ e => e.elim)) hkl).mono ?_
   rintro e w2 ⟨rfl,hn,hk⟩
   exact ⟨_,_,_,rfl,hn,rfl,rfl,rfl,hk⟩)
  have HD:=Lib.hid hd
  have HB1:=Lib.hid hb1
  have HW1:=Lib.hid hw1
  clear hd hb1 hw1 n n1 hp0 hp1 hp2 hu
  go_enter Tryz.func69,Tryz.ntmps69
  go_wp2_with fail
  rw [← HW1.out]
  refine HD.out.mono ?_
  rintro e w3 ⟨r,o2,K2,w2,rfl,⟨rfl,rfl,rfl,hk2⟩,hn3,hk3⟩
  have HH:=Lib.hid (And.intro (hn3.drop fun k e => (.inl e:Also K w w1 k)) ((Keeps.below HB1.out).trans ((hk2.trans hk3).mono fun k e => (.inl e:Also K w w1 k))))
  clear hk2 hn3 hk3 HD
  go_wp2_with fail
  go_ret
  exact ⟨rfl,HH.out⟩
 case neg =>
  rw [Bool.not_eq_true] at hu
  rw [HoR.no hu]
  have HD:=Lib.hid (fun v => ho_does_no n1 hu v)
  have HH:=Lib.hid (And.intro (n.below hb1) (Keeps.below (X:=K) hb1))
  have HW1:=Lib.hid hw1
  clear hb1 hw1 n n1 hp0 hp1 hp2 hu
  go_enter Tryz.func69,Tryz.ntmps69
  go_wp2_with fail
  rw [← HW1.out]
  refine (HD.out _).mono ?_
  rintro e w3 ⟨rfl,rfl⟩
  clear HD
  go_wp2_with fail
  go_ret
  exact ⟨rfl,HH.out⟩
theorem nil_fail {v:Value} (h:NilH w v) (m:Int) (kx:Option Addr) (kl kc:Nat):Calls Tryz.prog 69 #[v,.int .i64 m,.slice kx kl kc] w fun e w' => e=.returned (.int .i64 1)∧Below w.heap.size w w':=by
 obtain ⟨w1,hw1⟩:∃ w1,w1=(((w.alloc (.cells #[v] 89 (0,0))).alloc (.cells #[.int .i64 m] 3 (0,0))).alloc (.cells #[.slice kx kl kc] 79 (0,0))):=⟨_,rfl⟩
 have hb1:Below w.heap.size w w1:=by rw [hw1];exact ((((Below.refl _ _).alloc (by first | exact Nat.le_refl _ | (simp only [alloc_size];omega)) _).alloc (by first | exact Nat.le_refl _ | (simp only [alloc_size];omega)) _).alloc (by first | exact Nat.le_refl _ | (simp only [alloc_size];omega)) _)
 have HD:=Lib.hid (fun u => (h.below hb1).does u)
 have HB1:=Lib.hid hb1
 have HW1:=Lib.hid hw1
 have hv:∃ a,v=.pointer a:=by
  rcases h with h | ⟨b,_,h,_⟩
  · exact ⟨_,h⟩
  · exact ⟨_,h⟩
 obtain ⟨a,rfl⟩:=hv
 clear hb1 hw1 h
 go_enter Tryz.func69,Tryz.ntmps69
 go_wp2_with fail
 rw [← HW1.out]
 refine (HD.out _).mono ?_
 rintro e w3 ⟨rfl,rfl⟩
 clear HD
 go_wp2_with fail
 go_ret
 exact ⟨rfl,HB1.out⟩
end
end Go.Proofs.YtdacanghbepjpaaGreatDoor
namespace Go.Proofs.YtdacanghbepjpaaGreatDoor
set_option linter.unusedSimpArgs false
set_option linter.unusedVariables false
set_option maxRecDepth 100000
open Go.RowKit Go.Maps
open Dsk
structure Ml where
 frm:Int
 to:Int
 data:ByteArray
def mlRow (m:Ml):List Value:=[.int .i64 m.frm,.int .i64 m.to,.string m.data]
def mlV (m:Ml):Value:=.agg (mlRow m).toArray
theorem mlRow_len (m:Ml):(mlRow m).length=3:=rfl
theorem mlRow_one (m:Ml):∀ u∈mlRow m,u.oneCell'=true:=fun u hu => by
 simp only [mlRow,List.mem_cons,List.not_mem_nil,or_false] at hu
 rcases hu with rfl | rfl | rfl <;> rfl
theorem under_mails:Tryz.prog.underlying 96=some (.slice 100):=by kernel_rfl
theorem Tryz.info_mail:(Tryz.prog.info? 100).map (fun i => (i.zero,i.size,i.bytes))=some (some (.agg #[.int .i64 0,.int .i64 0,.string ⟨#[]⟩]),3,32):=by kernel_rfl
abbrev OwnMl (w:World) (B:Nat) (v:Value) (l:List Ml):Prop:=OwnRow mlRow 3 100 w B v l
theorem ownRow_mono {α:Type} {row:α→List Value} {z:Nat} {e:TypeId} {w:World} {B B':Nat} {v:Value} {l:List α} (h:OwnRow row z e w B v l) (hB:B'≤B):OwnRow row z e w B' v l:=by
 obtain ⟨h1,h2⟩:=h
 refine ⟨h1,?_⟩
 rcases h2 with h2 | ⟨g,cap,cur,e1,e2,h3⟩
 · exact .inl h2
 · exact .inr ⟨g,cap,cur,e1,Nat.le_trans hB e2,h3⟩
def KU (K:Nat→Prop) (u:Value):Nat→Prop:=fun k => K k∨u.ownBlock=some k
def OffB (K:Nat→Prop) (b:Nat):Nat→Prop:=fun k => K k∧k≠b
noncomputable def sentO (o:Hs):List Ml:=if (stepC o.now o.d o.h o.x).1.1=noB then [] else [⟨o.id,-1,(stepC o.now o.d o.h o.x).1.1⟩]
noncomputable def stepO (o:Hs):Hs:={ o with d:=(stepC o.now o.d o.h o.x).2.2,x:=(stepC o.now o.d o.h o.x).2.1 }
section
variable {w0 w w':World} {P S K:Nat→Prop} {jh bd j jx b1 b2 s:Nat} {o:Hs} {t t1 t2:TypeId}
theorem HE.own {w1 w2:World} {u:Value} {B:Nat} {ms:List Ml} (n:HE w0 w K jh bd j jx o) (hb:Below w.heap.size w w1) (ho:OwnMl w1 B u ms) (hB:w.heap.size≤B) (hlt:∀ k,u.ownBlock=some k→k<w1.heap.size) (hc:Chg (fun k => k=b2) w1 w2) (h2:K b2) (h2w:w0.heap.size≤b2) (h2l:b2<w.heap.size) :
  HE w0 w2 (KU K u) jh bd j jx o∧OwnMl w2 B u ms:=by
 have hu:∀ k,u.ownBlock=some k→B≤k:=fun k hk => (OwnRow.lt ho k hk).1
 have n1:HE w0 w1 (KU K u) jh bd j jx o:=(n.add hb).drop fun k e => e.elim .inl fun e => .inr ⟨Nat.le_trans hB (hu k e),hlt k e⟩
 refine ⟨n1.row hc fun k e _ => ⟨.inl (e ▸ h2),e ▸ h2w⟩,OwnRow.chg ho hc fun k hk e => ?_⟩
 have:=hu k hk
 omega
theorem ho_step1 (n:HE w0 w K jh bd j jx o) (hu:o.up=true) (he:LEnv w0) (f:Few o.d o.h s o.x) (hnow:NowB o.now o.x.sent) (k1:Bx w K b1 t1 #[.pointer (some ⟨jh,0,none⟩)]) (k2:Bx w K b2 t2 #[.slice none 0 0]) (h2w:w0.heap.size≤b2) (h12:b1≠b2) :
  Calls Tryz.prog 113 #[.pointer (some ⟨b1,0,none⟩),.pointer (some ⟨b2,0,none⟩)] w fun e w2 => e=.returned (.int .i64 (stepC o.now o.d o.h o.x).1.2)∧∃ u,HE w0 w2 (KU K u) jh bd j jx (stepO o)∧OwnMl w2 w.heap.size u (sentO o)∧w2.cell? ⟨b2,0,none⟩=some u∧Keeps (OffB K b2) w w2:=by
 unfold stepO sentO
 obtain ⟨w1,hw1⟩:∃ y,y=w.drew:=⟨_,rfl⟩
 have HB1:=Lib.hid (show Below w.heap.size w w1 by rw [hw1];exact (Below.refl _ _).drew)
 have HN:=Lib.hid (n.below HB1.out)
 have HC:=Lib.hid (HN.out.step hu he f o.now hnow)
 have K1:=Lib.hid (k1.below HB1.out)
 have K2:=Lib.hid (k2.below HB1.out)
 have HL2:=Lib.hid k2.blk.lt
 have HW2:=Lib.hid h2w
 have HB12:=Lib.hid h12
 have hcel:∀ (W:World) (o':Hs),HE w0 W K jh bd j jx o'→o'.up=true→W.cell? ⟨jh,5,none⟩=some (.pointer (some ⟨jx,0,none⟩)):=fun W o' h e => by
  have:=h.cells.2.2.2.2.2
  rw [e] at this
  exact this
 have hT:w1.cell? ⟨b1,0,none⟩=some (.pointer (some ⟨jh,0,none⟩))∧w1.cell? ⟨jh,5,none⟩=some (.pointer (some ⟨jx,0,none⟩))∧w1.cell? ⟨jh,1,none⟩=some (.int .i64 o.now):=⟨K1.out.blk.cell 0,hcel w1 _ HN.out hu,HN.out.cells.2.1⟩
 have hS:True:=trivial
 obtain ⟨R,hR⟩:∃ R,R=stepC o.now o.d o.h o.x:=⟨_,rfl⟩
 rw [← hR] at HC ⊢
 obtain ⟨ms,hms⟩:∃ ms:List Ml,ms=(if R.1.1=noB then [] else [⟨o.id,-1,R.1.1⟩]):=⟨_,rfl⟩
 rw [← hms]
 have HMS:=Lib.hid hms
 clear hms
 have HUU:=Lib.hid hu
 clear n hR k1 k2 h2w h12 hu
 go_enter Tryz.func113,Tryz.ntmps113
 go_wp2_with fail
 refine wp_region_two (T:=fun W => W.cell? ⟨b1,0,none⟩=some (.pointer (some ⟨jh,0,none⟩))∧W.cell? ⟨jh,5,none⟩=some (.pointer (some ⟨jx,0,none⟩))∧W.cell? ⟨jh,1,none⟩=some (.int .i64 o.now)) (S:=fun _ => True) (n:=99) (by kernel_rfl) ?_
 rw [← hw1]
 clear hw1
 refine tk 0 6 hT hS ?_
 refine tk 1 7 hT hS ?_
 try simp only [xq]
 refine tk 2 8 hT hS ?_
 refine tk 3 9 hT hS ?_
 try simp only [xq]
 refine tk 4 10 hT hS ?_
 refine tk 5 11 hT hS ?_
 try simp only [xq]
 refine tk 6 12 hT hS ?_
 refine tk 7 13 hT hS ?_
 try simp only [xq]
 refine two_one 8 rfl (by kernel_rfl) ?_
 intro K0 hK0
 go_simp
 refine HC.out.mono ?_
 rintro e w2 ⟨rfl,hn2,hk2⟩
 have HN2:=Lib.hid hn2
 have HK2:=Lib.hid ((Keeps.below HB1.out).trans hk2)
 have hT3:w2.cell? ⟨b1,0,none⟩=some (.pointer (some ⟨jh,0,none⟩))∧w2.cell? ⟨jh,5,none⟩=some (.pointer (some ⟨jx,0,none⟩))∧w2.cell? ⟨jh,1,none⟩=some (.int .i64 o.now):=⟨(K1.out.keeps hk2).blk.cell 0,hcel w2 _ hn2 HUU.out,hn2.cells.2.1⟩
 have KB:=Lib.hid (K2.out.keeps hk2)
 have KA:=Lib.hid (K1.out.keeps hk2)
 refine hK0.out _ _ hT3 (fun _ _ => hS) ?_
 clear hK0 K0
 try simp only [xq]
 clear hT hk2 hn2 HC
 have hT:=hT3
 clear hT3
 refine tk 9 5 hT hS ?_
 refine tk 10 15 hT hS ?_
 try simp only [xq]
 refine tk 11 16 hT hS ?_
 refine tk 12 3 hT hS ?_
 try simp only [xq]
 refine tk 13 4 hT hS ?_
 try simp only [xq]
 refine two_done (by kernel_rfl) ?_ _
 clear hT
 obtain ⟨⟨bt,r⟩,x2,d2⟩:=R
 simp only at HN2 HK2 KB KA HMS ⊢
 by_cases hb:bt=noB
 case pos =>
  have HH:=Lib.hid (show ∃ u,HE w0 w2 (KU K u) jh bd j jx { o with d:=d2,x:=x2 }∧OwnMl w2 w.heap.size u ms∧w2.cell? ⟨b2,0,none⟩=some u∧Keeps (OffB K b2) w w2 from by
   rw [HMS.out,if_pos hb]
   exact ⟨.slice none 0 0,HN2.out.drop (fun k (e:KU K (.slice none 0 0) k) => Or.elim e id fun e => (by cases e)),OwnRow.nil _ _,KB.out.blk.cell 0,HK2.out.mono fun k e => e.1⟩)
  subst hb
  have hno:=noB_is
  clear HMS
  go_wp2_with fail
  go_ret
  exact ⟨rfl,HH.out⟩
 case neg =>
  have hms2:ms=[⟨o.id,-1,bt⟩]:=by rw [HMS.out,if_neg hb]
  have HMS2:=Lib.hid hms2
  clear hms2
  have hem:bt.toList.isEmpty=false:=by
   cases hq:bt.toList.isEmpty with
   | true => exact absurd (noB_of hq) hb
   | false => rfl
  obtain ⟨x0,hx0⟩:∃ y,y=w2.drew:=⟨_,rfl⟩
  have HBX:=Lib.hid (show Below w2.heap.size w2 x0 by rw [hx0];exact (Below.refl _ _).drew)
  obtain ⟨hid',hhid⟩:∃ i,i=o.id:=⟨_,rfl⟩
  have HTT:=Lib.hid (fun (W:World) (hW:Below w2.heap.size w2 W) => show W.cell? ⟨b1,0,none⟩=some (.pointer (some ⟨jh,0,none⟩))∧W.cell? ⟨jh,0,none⟩=some (.int .i64 hid') from ⟨(KA.out.below hW).blk.cell 0,by rw [hhid];exact (HN2.out.below hW).cells.1⟩)
  have HSS:=Lib.hid (fun (W:World) (hW:Below w2.heap.size w2 W) => show W.cell? ⟨b2,0,none⟩=some (.slice none 0 0) from (KB.out.below hW).blk.cell 0)
  have hT:=HTT.out x0 HBX.out
  have hS:=HSS.out x0 HBX.out
  have HHI:=Lib.hid hhid
  clear hb hhid
  go_wp2_with fail
  refine wp_region_two (T:=fun W => W.cell? ⟨b1,0,none⟩=some (.pointer (some ⟨jh,0,none⟩))∧W.cell? ⟨jh,0,none⟩=some (.int .i64 hid')) (S:=fun W => W.cell? ⟨b2,0,none⟩=some (.slice none 0 0)) (n:=9) (by kernel_rfl) ?_
  rw [← hx0]
  clear hx0
  refine two_take 0 (some 19) (v:=?_) rfl rfl (by kernel_rfl) (by kernel_rfl) (by kernel_rfl) (by kernel_rfl) (by decide) (by kernel_rfl) (fun _ _ _ h => h) (Or.inl ⟨by rfl,?hy0⟩) hT hS ?_
  case hy0 => (intro w' hS';(try unfold S8 at hS');(try unfold T8 at hS');go_simp;(try with_reducible rfl))
  try simp only [xq]
  refine tk 1 20 hT hS ?_
  refine tk 2 21 hT hS ?_
  try simp only [xq]
  refine tk 3 22 hT hS ?_
  refine tk 4 23 hT hS ?_
  try simp only [xq]
  refine tk 5 24 hT hS ?_
  refine tk 6 25 hT hS ?_
  try simp only [xq]
  refine two_one 7 rfl (by kernel_rfl) ?_
  intro K0 hK0
  go_simp
  obtain ⟨z0,hz0⟩:∃ y,y=x0.alloc (.cells #[.int .i64 hid',.int .i64 (-1),.string bt] 100 (0,0)):=⟨_,rfl⟩
  rw [← hz0]
  have hbz0:Below x0.heap.size x0 z0:=by rw [hz0];exact (Below.refl _ _).alloc (Nat.le_refl _) _
  have HA:=Lib.hid (show Blk z0 x0.heap.size 100 #[.int .i64 hid',.int .i64 (-1),.string bt] by rw [hz0];exact Blk.alloc_new x0 _ _)
  have HZ0:=Lib.hid (HBX.out.trans (hbz0.mono HBX.out.size))
  have hT1:=HTT.out z0 HZ0.out
  have hS1:=HSS.out z0 HZ0.out
  refine hK0.out _ _ hT1 (fun _ _ => hS1) ?_
  clear hz0 hbz0 hK0 K0 hT hS
  have hT:=hT1
  have hS:=hS1
  clear hT1 hS1
  try simp only [xq]
  refine two_one 8 rfl (by kernel_rfl) ?_
  intro K0 hK0
  refine step_append_rows rfl (.tmp 19) (.tmp 26) (by rfl) mlRow_len (by omega) under_mails Tryz.info_mail rfl (by omega) (OwnRow.nil (row:=mlRow) (z:=3) (e:=100) z0 w2.heap.size) (by rfl) (m:=[⟨hid',-1,bt⟩]) (by rfl) (RdRow.one HA.out rfl) (fun a _ => mlRow_one a) (by simp) (by simp) HZ0.out.size ?_
  intro u1 z1 hown hgr hb
  obtain ⟨ux,uc,hux⟩:=OwnRow.shape hown
  simp only [List.nil_append,List.length_singleton] at hux
  subst hux
  have hb1:Below z0.heap.size z0 z1:=(chg_of_grown hgr).below (Nat.le_refl _) (fun k _ e => by cases e)
  have HZ1:=Lib.hid (HZ0.out.trans (hb1.mono HZ0.out.size))
  have HU1:=Lib.hid (show OwnMl z1 w2.heap.size (.slice ux 1 uc) [⟨hid',-1,bt⟩] from hown)
  have hT1:=HTT.out z1 HZ1.out
  have hS1:=HSS.out z1 HZ1.out
  refine hK0.out _ _ hT1 (fun _ _ => hS1) ?_
  clear hown hgr hb hb1 hK0 K0 hT hS
  have hT:=hT1
  have hS:=hS1
  clear hT1 hS1
  try simp only [xq]
  have f2:=(KB.out.below HZ1.out).blk.free 0
  refine two_one 9 rfl (by kernel_rfl) ?_
  intro K0 hK0
  go_simp
  obtain ⟨z2,hz2⟩:∃ y,y=z1.setCell ⟨b2,0,none⟩ (.slice ux 1 uc):=⟨_,rfl⟩
  rw [← hz2]
  have hc2:Chg (fun k => k=b2) z1 z2:=by rw [hz2];exact (Chg.refl (fun k => k=b2) z1).setCell (p:=⟨b2,0,none⟩) (fun _ => rfl) _
  have hk2:=(KB.out.below HZ1.out).blk.set 0 (.slice ux 1 uc)
  rw [← hz2] at hk2
  obtain ⟨g1,g2⟩:=HN2.out.own HZ1.out HU1.out (Nat.le_refl _) (fun k hk => (OwnRow.lt HU1.out k hk).2) hc2 KB.out.kept HW2.out KB.out.blk.lt
  have HH:=Lib.hid (show ∃ u,HE w0 z2 (KU K u) jh bd j jx { o with d:=d2,x:=x2 }∧OwnMl z2 w.heap.size u ms∧z2.cell? ⟨b2,0,none⟩=some u∧Keeps (OffB K b2) w z2 from by
   rw [HMS2.out]
   have g3:=ownRow_mono g2 HK2.out.size
   rw [HHI.out] at g3
   exact ⟨_,g1,g3,hk2.cell 0,(HK2.out.mono fun k e => e.1).trans ((Keeps.below HZ1.out).trans (Chg.mono hc2 fun k _ e e2 => e2.2 e))⟩)
  have hT1:z2.cell? ⟨b1,0,none⟩=some (.pointer (some ⟨jh,0,none⟩))∧z2.cell? ⟨jh,0,none⟩=some (.int .i64 hid'):=⟨((KA.out.below HZ1.out).blk.chg hc2 HB12.out).cell 0,by rw [HHI.out];exact g1.cells.1⟩
  refine hK0.out _ _ hT1 (fun _ e => absurd rfl e) ?_
  clear hK0 K0 hT hS g1 g2 hk2 hc2 hz2 f2
  try simp only [xq]
  refine two_done (by kernel_rfl) ?_ _
  clear hT1
  go_wp2_with fail
  go_ret
  exact ⟨rfl,HH.out⟩
end
end Go.Proofs.YtdacanghbepjpaaGreatDoor
