/- The law's acts on a host, one by one: walked. Two hosts in memory, side by side. The laws on a host: which acts are beyond: walked. What the laws on hosts need beside: which steps may be; a host over them: plainly, and walked. -/
import Derived.Test.YtdacanghbepjpaaGreatDoorQ4
import Derived.Test.YtdacanghbepjpaaGreatDoorQ2
import Derived.Test.YtdacanghbepjpaaGreatDoorM14
namespace Go.Proofs.YtdacanghbepjpaaGreatDoor
set_option linter.unusedSimpArgs false
set_option linter.unusedVariables false
set_option maxRecDepth 100000
open Go.RowKit Go.Maps
open Dsk
def DoesP (w0 w:World) (K:Nat→Prop) (jh:Nat) (R:(List Ml×Int)×Hs) (e:Ending) (w':World):Prop :=
 ∃ u bd j jx,e=.returned (.tuple #[u,.int .i64 R.1.2])∧OwnMl w' w.heap.size u R.1.1∧HE w0 w' (KU K u) jh bd j jx R.2∧Keeps K w w'
theorem ku_nil {w0 w:World} {K:Nat→Prop} {jh bd j jx:Nat} {o:Hs} (n:HE w0 w K jh bd j jx o):HE w0 w (KU K (.slice none 0 0)) jh bd j jx o:=n.drop fun k (e:KU K (.slice none 0 0) k) => Or.elim e id fun e => (by cases e)
section
variable {w0 w w':World} {P S K:Nat→Prop} {jh bd j jx s B k:Nat} {o:Hs}
variable {nd nn zt zi zp za zd ah af an:Int} {zs zh zn adt:ByteArray} {kx:Option Addr} {kl kc:Nat} {keep:List Int} {own:Bool}
theorem does_1 (n:HE w0 w K jh bd j jx o) (he:LEnv w0) (ok:o.up=true→Few o.d o.h s o.x∧NowB o.now o.x.sent∧0≤o.refused∧o.refused≤1000000) (hnow:0≤o.now∧o.now≤2000000000) (ha:OActOk w B ⟨1,nd,nn,⟨zt,zi,zp,zs,zh,za,zd,zn⟩,.slice kx kl kc,keep,own,ah,af,an,adt⟩) (hB:B≤w0.heap.size) (hkl:keep.length≤1000000) :
  Calls Tryz.prog 45 #[.pointer (some ⟨jh,0,none⟩),.agg #[.int .i64 1,.int .i64 nd,.int .i64 nn,.int .i64 zt,.int .i64 zi,.int .i64 zp,.string zs,.string zh,.int .i64 za,.int .i64 zd,.string zn,.slice kx kl kc,.bool own,.int .i64 ah,.int .i64 af,.int .i64 an,.string adt],.int .i64 o.id] w (DoesP w0 w K jh (doesO ⟨1,nd,nn,⟨zt,zi,zp,zs,zh,za,zd,zn⟩,.slice kx kl kc,keep,own,ah,af,an,adt⟩ o)):=by
 obtain ⟨q,hq⟩:∃ q,q=w.heap.size:=⟨_,rfl⟩
 obtain ⟨w1,hw1⟩:∃ y,y=w.alloc (.cells #[.int .i64 1,.int .i64 nd,.int .i64 nn,.int .i64 zt,.int .i64 zi,.int .i64 zp,.string zs,.string zh,.int .i64 za,.int .i64 zd,.string zn,.slice kx kl kc,.bool own,.int .i64 ah,.int .i64 af,.int .i64 an,.string adt] 95 (0,0)):=⟨_,rfl⟩
 have hb1:Below w.heap.size w w1:=by rw [hw1];exact (Below.refl _ _).alloc (Nat.le_refl _) _
 have n1:=n.below hb1
 have hc:=ho_write n1 he ⟨zt,zi,zp,zs,zh,za,zd,zn⟩ ha.s.service ha.s.host ha.s.note (fun e => ⟨(ok e).1,(ok e).2.2⟩)
 have hD:doesO ⟨1,nd,nn,⟨zt,zi,zp,zs,zh,za,zd,zn⟩,.slice kx kl kc,keep,own,ah,af,an,adt⟩ o=(([],(HoR o (appP o.d o.h ⟨zt,zi,zp,zs,zh,za,zd,zn⟩).1 (wroteO o ⟨zt,zi,zp,zs,zh,za,zd,zn⟩)).1),(HoR o (appP o.d o.h ⟨zt,zi,zp,zs,zh,za,zd,zn⟩).1 (wroteO o ⟨zt,zi,zp,zs,zh,za,zd,zn⟩)).2):=by
  unfold doesO
  simp
 rw [hD]
 obtain ⟨R,hR⟩:∃ R,R=HoR o (appP o.d o.h ⟨zt,zi,zp,zs,zh,za,zd,zn⟩).1 (wroteO o ⟨zt,zi,zp,zs,zh,za,zd,zn⟩):=⟨_,rfl⟩
 rw [← hR] at hc ⊢
 have HC:=Lib.hid hc
 have HB1:=Lib.hid hb1
 have HW1:=Lib.hid hw1
 have HQ:=Lib.hid hq
 clear hc hR hD hb1 hw1 hq n n1 ha ok hnow
 unfold spV at HC
 simp only at HC
 go_enter Tryz.func45,Tryz.ntmps45
 go_wp2_with fail
 try rw [← HW1.out]
 refine HC.out.mono ?_
 rintro e w2 ⟨rfl,hn2,hk2⟩
 have HH:=Lib.hid (And.intro (ku_nil hn2) ((Keeps.below HB1.out).trans hk2))
 clear hn2 hk2 HC
 go_wp2_with fail
 refine bodyPost_ret (v:=.tuple #[.slice none 0 0,.int .i64 R.1]) (by simp [results,Tryz.results45,go_sem]) rfl ?_
 exact ⟨.slice none 0 0,bd,j,jx,rfl,OwnRow.nil _ _,HH.out⟩
theorem does_2 (n:HE w0 w K jh bd j jx o) (he:LEnv w0) (ok:o.up=true→Few o.d o.h s o.x∧NowB o.now o.x.sent∧0≤o.refused∧o.refused≤1000000) (hnow:0≤o.now∧o.now≤2000000000) (ha:OActOk w B ⟨2,nd,nn,⟨zt,zi,zp,zs,zh,za,zd,zn⟩,.slice kx kl kc,keep,own,ah,af,an,adt⟩) (hB:B≤w0.heap.size) (hkl:keep.length≤1000000) :
  Calls Tryz.prog 45 #[.pointer (some ⟨jh,0,none⟩),.agg #[.int .i64 2,.int .i64 nd,.int .i64 nn,.int .i64 zt,.int .i64 zi,.int .i64 zp,.string zs,.string zh,.int .i64 za,.int .i64 zd,.string zn,.slice kx kl kc,.bool own,.int .i64 ah,.int .i64 af,.int .i64 an,.string adt],.int .i64 o.id] w (DoesP w0 w K jh (doesO ⟨2,nd,nn,⟨zt,zi,zp,zs,zh,za,zd,zn⟩,.slice kx kl kc,keep,own,ah,af,an,adt⟩ o)):=by
 obtain ⟨q,hq⟩:∃ q,q=w.heap.size:=⟨_,rfl⟩
 obtain ⟨w1,hw1⟩:∃ y,y=w.alloc (.cells #[.int .i64 2,.int .i64 nd,.int .i64 nn,.int .i64 zt,.int .i64 zi,.int .i64 zp,.string zs,.string zh,.int .i64 za,.int .i64 zd,.string zn,.slice kx kl kc,.bool own,.int .i64 ah,.int .i64 af,.int .i64 an,.string adt] 95 (0,0)):=⟨_,rfl⟩
 have hb1:Below w.heap.size w w1:=by rw [hw1];exact (Below.refl _ _).alloc (Nat.le_refl _) _
 have n1:=n.below hb1
 have hc:=ho_sync n1 he (fun e => (ok e).1)
 have hD:doesO ⟨2,nd,nn,⟨zt,zi,zp,zs,zh,za,zd,zn⟩,.slice kx kl kc,keep,own,ah,af,an,adt⟩ o=(([],(HoR o (syncP o.d o.h).1 { o with d:=(syncP o.d o.h).2.2,h:=(syncP o.d o.h).2.1 }).1),(HoR o (syncP o.d o.h).1 { o with d:=(syncP o.d o.h).2.2,h:=(syncP o.d o.h).2.1 }).2):=by
  unfold doesO
  simp
 rw [hD]
 obtain ⟨R,hR⟩:∃ R,R=HoR o (syncP o.d o.h).1 { o with d:=(syncP o.d o.h).2.2,h:=(syncP o.d o.h).2.1 }:=⟨_,rfl⟩
 rw [← hR] at hc ⊢
 have HC:=Lib.hid hc
 have HB1:=Lib.hid hb1
 have HW1:=Lib.hid hw1
 have HQ:=Lib.hid hq
 clear hc hR hD hb1 hw1 hq n n1 ha ok hnow
 go_enter Tryz.func45,Tryz.ntmps45
 go_wp2_with fail
 try rw [← HW1.out]
 refine HC.out.mono ?_
 rintro e w2 ⟨rfl,hn2,hk2⟩
 have HH:=Lib.hid (And.intro (ku_nil hn2) ((Keeps.below HB1.out).trans hk2))
 clear hn2 hk2 HC
 go_wp2_with fail
 refine bodyPost_ret (v:=.tuple #[.slice none 0 0,.int .i64 R.1]) (by simp [results,Tryz.results45,go_sem]) rfl ?_
 exact ⟨.slice none 0 0,bd,j,jx,rfl,OwnRow.nil _ _,HH.out⟩
theorem does_3 (n:HE w0 w K jh bd j jx o) (he:LEnv w0) (ok:o.up=true→Few o.d o.h s o.x∧NowB o.now o.x.sent∧0≤o.refused∧o.refused≤1000000) (hnow:0≤o.now∧o.now≤2000000000) (ha:OActOk w B ⟨3,nd,nn,⟨zt,zi,zp,zs,zh,za,zd,zn⟩,.slice kx kl kc,keep,own,ah,af,an,adt⟩) (hB:B≤w0.heap.size) (hkl:keep.length≤1000000) :
  Calls Tryz.prog 45 #[.pointer (some ⟨jh,0,none⟩),.agg #[.int .i64 3,.int .i64 nd,.int .i64 nn,.int .i64 zt,.int .i64 zi,.int .i64 zp,.string zs,.string zh,.int .i64 za,.int .i64 zd,.string zn,.slice kx kl kc,.bool own,.int .i64 ah,.int .i64 af,.int .i64 an,.string adt],.int .i64 o.id] w (DoesP w0 w K jh (doesO ⟨3,nd,nn,⟨zt,zi,zp,zs,zh,za,zd,zn⟩,.slice kx kl kc,keep,own,ah,af,an,adt⟩ o)):=by
 obtain ⟨q,hq⟩:∃ q,q=w.heap.size:=⟨_,rfl⟩
 obtain ⟨w1,hw1⟩:∃ y,y=w.alloc (.cells #[.int .i64 3,.int .i64 nd,.int .i64 nn,.int .i64 zt,.int .i64 zi,.int .i64 zp,.string zs,.string zh,.int .i64 za,.int .i64 zd,.string zn,.slice kx kl kc,.bool own,.int .i64 ah,.int .i64 af,.int .i64 an,.string adt] 95 (0,0)):=⟨_,rfl⟩
 have hb1:Below w.heap.size w w1:=by rw [hw1];exact (Below.refl _ _).alloc (Nat.le_refl _) _
 have n1:=n.below hb1
 have hc:=ho_rotate n1 he (fun e => (ok e).1)
 have hD:doesO ⟨3,nd,nn,⟨zt,zi,zp,zs,zh,za,zd,zn⟩,.slice kx kl kc,keep,own,ah,af,an,adt⟩ o=(([],(HoR o (rotP o.d o.h).1 { o with d:=(rotP o.d o.h).2.2,h:=(rotP o.d o.h).2.1 }).1),(HoR o (rotP o.d o.h).1 { o with d:=(rotP o.d o.h).2.2,h:=(rotP o.d o.h).2.1 }).2):=by
  unfold doesO
  simp
 rw [hD]
 obtain ⟨R,hR⟩:∃ R,R=HoR o (rotP o.d o.h).1 { o with d:=(rotP o.d o.h).2.2,h:=(rotP o.d o.h).2.1 }:=⟨_,rfl⟩
 rw [← hR] at hc ⊢
 have HC:=Lib.hid hc
 have HB1:=Lib.hid hb1
 have HW1:=Lib.hid hw1
 have HQ:=Lib.hid hq
 clear hc hR hD hb1 hw1 hq n n1 ha ok hnow
 go_enter Tryz.func45,Tryz.ntmps45
 go_wp2_with fail
 try rw [← HW1.out]
 refine HC.out.mono ?_
 rintro e w2 ⟨rfl,hn2,hk2⟩
 have HH:=Lib.hid (And.intro (ku_nil hn2) ((Keeps.below HB1.out).trans hk2))
 clear hn2 hk2 HC
 go_wp2_with fail
 refine bodyPost_ret (v:=.tuple #[.slice none 0 0,.int .i64 R.1]) (by simp [results,Tryz.results45,go_sem]) rfl ?_
 exact ⟨.slice none 0 0,bd,j,jx,rfl,OwnRow.nil _ _,HH.out⟩
theorem does_4 (n:HE w0 w K jh bd j jx o) (he:LEnv w0) (ok:o.up=true→Few o.d o.h s o.x∧NowB o.now o.x.sent∧0≤o.refused∧o.refused≤1000000) (hnow:0≤o.now∧o.now≤2000000000) (ha:OActOk w B ⟨4,nd,nn,⟨zt,zi,zp,zs,zh,za,zd,zn⟩,.slice kx kl kc,keep,own,ah,af,an,adt⟩) (hB:B≤w0.heap.size) (hkl:keep.length≤1000000) :
  Calls Tryz.prog 45 #[.pointer (some ⟨jh,0,none⟩),.agg #[.int .i64 4,.int .i64 nd,.int .i64 nn,.int .i64 zt,.int .i64 zi,.int .i64 zp,.string zs,.string zh,.int .i64 za,.int .i64 zd,.string zn,.slice kx kl kc,.bool own,.int .i64 ah,.int .i64 af,.int .i64 an,.string adt],.int .i64 o.id] w (DoesP w0 w K jh (doesO ⟨4,nd,nn,⟨zt,zi,zp,zs,zh,za,zd,zn⟩,.slice kx kl kc,keep,own,ah,af,an,adt⟩ o)):=by
 obtain ⟨q,hq⟩:∃ q,q=w.heap.size:=⟨_,rfl⟩
 obtain ⟨w1,hw1⟩:∃ y,y=w.alloc (.cells #[.int .i64 4,.int .i64 nd,.int .i64 nn,.int .i64 zt,.int .i64 zi,.int .i64 zp,.string zs,.string zh,.int .i64 za,.int .i64 zd,.string zn,.slice kx kl kc,.bool own,.int .i64 ah,.int .i64 af,.int .i64 an,.string adt] 95 (0,0)):=⟨_,rfl⟩
 have hb1:Below w.heap.size w w1:=by rw [hw1];exact (Below.refl _ _).alloc (Nat.le_refl _) _
 have n1:=n.below hb1
 have hc:=ho_retain n1 he nn (fun e => (ok e).1)
 have hD:doesO ⟨4,nd,nn,⟨zt,zi,zp,zs,zh,za,zd,zn⟩,.slice kx kl kc,keep,own,ah,af,an,adt⟩ o=(([],(HoR o (retP nn o.d o.h).1 { o with d:=(retP nn o.d o.h).2.2,h:=(retP nn o.d o.h).2.1 }).1),(HoR o (retP nn o.d o.h).1 { o with d:=(retP nn o.d o.h).2.2,h:=(retP nn o.d o.h).2.1 }).2):=by
  unfold doesO
  simp
 rw [hD]
 obtain ⟨R,hR⟩:∃ R,R=HoR o (retP nn o.d o.h).1 { o with d:=(retP nn o.d o.h).2.2,h:=(retP nn o.d o.h).2.1 }:=⟨_,rfl⟩
 rw [← hR] at hc ⊢
 have HC:=Lib.hid hc
 have HB1:=Lib.hid hb1
 have HW1:=Lib.hid hw1
 have HQ:=Lib.hid hq
 clear hc hR hD hb1 hw1 hq n n1 ha ok hnow
 go_enter Tryz.func45,Tryz.ntmps45
 go_wp2_with fail
 try rw [← HW1.out]
 refine HC.out.mono ?_
 rintro e w2 ⟨rfl,hn2,hk2⟩
 have HH:=Lib.hid (And.intro (ku_nil hn2) ((Keeps.below HB1.out).trans hk2))
 clear hn2 hk2 HC
 go_wp2_with fail
 refine bodyPost_ret (v:=.tuple #[.slice none 0 0,.int .i64 R.1]) (by simp [results,Tryz.results45,go_sem]) rfl ?_
 exact ⟨.slice none 0 0,bd,j,jx,rfl,OwnRow.nil _ _,HH.out⟩
theorem does_6 (n:HE w0 w K jh bd j jx o) (he:LEnv w0) (ok:o.up=true→Few o.d o.h s o.x∧NowB o.now o.x.sent∧0≤o.refused∧o.refused≤1000000) (hnow:0≤o.now∧o.now≤2000000000) (ha:OActOk w B ⟨6,nd,nn,⟨zt,zi,zp,zs,zh,za,zd,zn⟩,.slice kx kl kc,keep,own,ah,af,an,adt⟩) (hB:B≤w0.heap.size) (hkl:keep.length≤1000000) :
  Calls Tryz.prog 45 #[.pointer (some ⟨jh,0,none⟩),.agg #[.int .i64 6,.int .i64 nd,.int .i64 nn,.int .i64 zt,.int .i64 zi,.int .i64 zp,.string zs,.string zh,.int .i64 za,.int .i64 zd,.string zn,.slice kx kl kc,.bool own,.int .i64 ah,.int .i64 af,.int .i64 an,.string adt],.int .i64 o.id] w (DoesP w0 w K jh (doesO ⟨6,nd,nn,⟨zt,zi,zp,zs,zh,za,zd,zn⟩,.slice kx kl kc,keep,own,ah,af,an,adt⟩ o)):=by
 obtain ⟨q,hq⟩:∃ q,q=w.heap.size:=⟨_,rfl⟩
 obtain ⟨w1,hw1⟩:∃ y,y=w.alloc (.cells #[.int .i64 6,.int .i64 nd,.int .i64 nn,.int .i64 zt,.int .i64 zi,.int .i64 zp,.string zs,.string zh,.int .i64 za,.int .i64 zd,.string zn,.slice kx kl kc,.bool own,.int .i64 ah,.int .i64 af,.int .i64 an,.string adt] 95 (0,0)):=⟨_,rfl⟩
 have hb1:Below w.heap.size w w1:=by rw [hw1];exact (Below.refl _ _).alloc (Nat.le_refl _) _
 have n1:=n.below hb1
 have hc:=ho_tick n1 hnow
 have hD:doesO ⟨6,nd,nn,⟨zt,zi,zp,zs,zh,za,zd,zn⟩,.slice kx kl kc,keep,own,ah,af,an,adt⟩ o=(([],(tickO o).1),(tickO o).2):=by
  unfold doesO
  simp
 rw [hD]
 obtain ⟨R,hR⟩:∃ R,R=tickO o:=⟨_,rfl⟩
 rw [← hR] at hc ⊢
 have HC:=Lib.hid hc
 have HB1:=Lib.hid hb1
 have HW1:=Lib.hid hw1
 have HQ:=Lib.hid hq
 clear hc hR hD hb1 hw1 hq n n1 ha ok hnow
 go_enter Tryz.func45,Tryz.ntmps45
 go_wp2_with fail
 try rw [← HW1.out]
 refine HC.out.mono ?_
 rintro e w2 ⟨rfl,hn2,hk2⟩
 have HH:=Lib.hid (And.intro (ku_nil hn2) ((Keeps.below HB1.out).trans hk2))
 clear hn2 hk2 HC
 go_wp2_with fail
 refine bodyPost_ret (v:=.tuple #[.slice none 0 0,.int .i64 R.1]) (by simp [results,Tryz.results45,go_sem]) rfl ?_
 exact ⟨.slice none 0 0,bd,j,jx,rfl,OwnRow.nil _ _,HH.out⟩
theorem does_15 (n:HE w0 w K jh bd j jx o) (he:LEnv w0) (ok:o.up=true→Few o.d o.h s o.x∧NowB o.now o.x.sent∧0≤o.refused∧o.refused≤1000000) (hnow:0≤o.now∧o.now≤2000000000) (ha:OActOk w B ⟨15,nd,nn,⟨zt,zi,zp,zs,zh,za,zd,zn⟩,.slice kx kl kc,keep,own,ah,af,an,adt⟩) (hB:B≤w0.heap.size) (hkl:keep.length≤1000000) :
  Calls Tryz.prog 45 #[.pointer (some ⟨jh,0,none⟩),.agg #[.int .i64 15,.int .i64 nd,.int .i64 nn,.int .i64 zt,.int .i64 zi,.int .i64 zp,.string zs,.string zh,.int .i64 za,.int .i64 zd,.string zn,.slice kx kl kc,.bool own,.int .i64 ah,.int .i64 af,.int .i64 an,.string adt],.int .i64 o.id] w (DoesP w0 w K jh (doesO ⟨15,nd,nn,⟨zt,zi,zp,zs,zh,za,zd,zn⟩,.slice kx kl kc,keep,own,ah,af,an,adt⟩ o)):=by
 obtain ⟨q,hq⟩:∃ q,q=w.heap.size:=⟨_,rfl⟩
 obtain ⟨w1,hw1⟩:∃ y,y=w.alloc (.cells #[.int .i64 15,.int .i64 nd,.int .i64 nn,.int .i64 zt,.int .i64 zi,.int .i64 zp,.string zs,.string zh,.int .i64 za,.int .i64 zd,.string zn,.slice kx kl kc,.bool own,.int .i64 ah,.int .i64 af,.int .i64 an,.string adt] 95 (0,0)):=⟨_,rfl⟩
 have hb1:Below w.heap.size w w1:=by rw [hw1];exact (Below.refl _ _).alloc (Nat.le_refl _) _
 have n1:=n.below hb1
 have hc:=ho_crash n1 (.slice kx kl kc) keep ((ha.kv.chg (T:=fun _ => False) (Chg.of_below hb1) (fun _ e => e.elim)).mono fun q hq => Nat.le_trans hB hq) hkl
 have hD:doesO ⟨15,nd,nn,⟨zt,zi,zp,zs,zh,za,zd,zn⟩,.slice kx kl kc,keep,own,ah,af,an,adt⟩ o=(([],(HoR o (o.d.crash keep).1 { o with d:=(o.d.crash keep).2 }).1),(HoR o (o.d.crash keep).1 { o with d:=(o.d.crash keep).2 }).2):=by
  unfold doesO
  simp
 rw [hD]
 obtain ⟨R,hR⟩:∃ R,R=HoR o (o.d.crash keep).1 { o with d:=(o.d.crash keep).2 }:=⟨_,rfl⟩
 rw [← hR] at hc ⊢
 have HC:=Lib.hid hc
 have HB1:=Lib.hid hb1
 have HW1:=Lib.hid hw1
 have HQ:=Lib.hid hq
 clear hc hR hD hb1 hw1 hq n n1 ha ok hnow
 go_enter Tryz.func45,Tryz.ntmps45
 go_wp2_with fail
 try rw [← HW1.out]
 refine HC.out.mono ?_
 rintro e w2 ⟨rfl,hn2,hk2⟩
 have HH:=Lib.hid (And.intro (ku_nil hn2) ((Keeps.below HB1.out).trans hk2))
 clear hn2 hk2 HC
 go_wp2_with fail
 refine bodyPost_ret (v:=.tuple #[.slice none 0 0,.int .i64 R.1]) (by simp [results,Tryz.results45,go_sem]) rfl ?_
 exact ⟨.slice none 0 0,bd,j,jx,rfl,OwnRow.nil _ _,HH.out⟩
theorem does_16 (n:HE w0 w K jh bd j jx o) (he:LEnv w0) (ok:o.up=true→Few o.d o.h s o.x∧NowB o.now o.x.sent∧0≤o.refused∧o.refused≤1000000) (hnow:0≤o.now∧o.now≤2000000000) (ha:OActOk w B ⟨16,nd,nn,⟨zt,zi,zp,zs,zh,za,zd,zn⟩,.slice kx kl kc,keep,own,ah,af,an,adt⟩) (hB:B≤w0.heap.size) (hkl:keep.length≤1000000) :
  Calls Tryz.prog 45 #[.pointer (some ⟨jh,0,none⟩),.agg #[.int .i64 16,.int .i64 nd,.int .i64 nn,.int .i64 zt,.int .i64 zi,.int .i64 zp,.string zs,.string zh,.int .i64 za,.int .i64 zd,.string zn,.slice kx kl kc,.bool own,.int .i64 ah,.int .i64 af,.int .i64 an,.string adt],.int .i64 o.id] w (DoesP w0 w K jh (doesO ⟨16,nd,nn,⟨zt,zi,zp,zs,zh,za,zd,zn⟩,.slice kx kl kc,keep,own,ah,af,an,adt⟩ o)):=by
 obtain ⟨q,hq⟩:∃ q,q=w.heap.size:=⟨_,rfl⟩
 obtain ⟨w1,hw1⟩:∃ y,y=w.alloc (.cells #[.int .i64 16,.int .i64 nd,.int .i64 nn,.int .i64 zt,.int .i64 zi,.int .i64 zp,.string zs,.string zh,.int .i64 za,.int .i64 zd,.string zn,.slice kx kl kc,.bool own,.int .i64 ah,.int .i64 af,.int .i64 an,.string adt] 95 (0,0)):=⟨_,rfl⟩
 have hb1:Below w.heap.size w w1:=by rw [hw1];exact (Below.refl _ _).alloc (Nat.le_refl _) _
 have n1:=n.below hb1
 have hc:=ho_fail n1 nn (.slice kx kl kc) keep ha.n.2 ((ha.kv.chg (T:=fun _ => False) (Chg.of_below hb1) (fun _ e => e.elim)).mono fun q hq => Nat.le_trans hB hq) hkl
 have hD:doesO ⟨16,nd,nn,⟨zt,zi,zp,zs,zh,za,zd,zn⟩,.slice kx kl kc,keep,own,ah,af,an,adt⟩ o=(([],(HoR o (o.d.failAt nn keep).1 { o with d:=(o.d.failAt nn keep).2 }).1),(HoR o (o.d.failAt nn keep).1 { o with d:=(o.d.failAt nn keep).2 }).2):=by
  unfold doesO
  simp
 rw [hD]
 obtain ⟨R,hR⟩:∃ R,R=HoR o (o.d.failAt nn keep).1 { o with d:=(o.d.failAt nn keep).2 }:=⟨_,rfl⟩
 rw [← hR] at hc ⊢
 have HC:=Lib.hid hc
 have HB1:=Lib.hid hb1
 have HW1:=Lib.hid hw1
 have HQ:=Lib.hid hq
 clear hc hR hD hb1 hw1 hq n n1 ha ok hnow
 go_enter Tryz.func45,Tryz.ntmps45
 go_wp2_with fail
 try rw [← HW1.out]
 refine HC.out.mono ?_
 rintro e w2 ⟨rfl,hn2,hk2⟩
 have HH:=Lib.hid (And.intro (ku_nil hn2) ((Keeps.below HB1.out).trans hk2))
 clear hn2 hk2 HC
 go_wp2_with fail
 refine bodyPost_ret (v:=.tuple #[.slice none 0 0,.int .i64 R.1]) (by simp [results,Tryz.results45,go_sem]) rfl ?_
 exact ⟨.slice none 0 0,bd,j,jx,rfl,OwnRow.nil _ _,HH.out⟩
theorem does_5 (n:HE w0 w K jh bd j jx o) (he:LEnv w0) (ok:o.up=true→Few o.d o.h s o.x∧NowB o.now o.x.sent∧0≤o.refused∧o.refused≤1000000) (hnow:0≤o.now∧o.now≤2000000000) (ha:OActOk w B ⟨5,nd,nn,⟨zt,zi,zp,zs,zh,za,zd,zn⟩,.slice kx kl kc,keep,own,ah,af,an,adt⟩) (hB:B≤w0.heap.size) (hkl:keep.length≤1000000) :
  Calls Tryz.prog 45 #[.pointer (some ⟨jh,0,none⟩),.agg #[.int .i64 5,.int .i64 nd,.int .i64 nn,.int .i64 zt,.int .i64 zi,.int .i64 zp,.string zs,.string zh,.int .i64 za,.int .i64 zd,.string zn,.slice kx kl kc,.bool own,.int .i64 ah,.int .i64 af,.int .i64 an,.string adt],.int .i64 o.id] w (DoesP w0 w K jh (doesO ⟨5,nd,nn,⟨zt,zi,zp,zs,zh,za,zd,zn⟩,.slice kx kl kc,keep,own,ah,af,an,adt⟩ o)):=by
 obtain ⟨q,hq⟩:∃ q,q=w.heap.size:=⟨_,rfl⟩
 obtain ⟨w1,hw1⟩:∃ y,y=w.alloc (.cells #[.int .i64 5,.int .i64 nd,.int .i64 nn,.int .i64 zt,.int .i64 zi,.int .i64 zp,.string zs,.string zh,.int .i64 za,.int .i64 zd,.string zn,.slice kx kl kc,.bool own,.int .i64 ah,.int .i64 af,.int .i64 an,.string adt] 95 (0,0)):=⟨_,rfl⟩
 have hb1:Below w.heap.size w w1:=by rw [hw1];exact (Below.refl _ _).alloc (Nat.le_refl _) _
 have n1:=n.below hb1
 have hc:=ho_step n1 he (fun e => ⟨(ok e).1,(ok e).2.1⟩) n1.base.size
 have hD:doesO ⟨5,nd,nn,⟨zt,zi,zp,zs,zh,za,zd,zn⟩,.slice kx kl kc,keep,own,ah,af,an,adt⟩ o=stepR o:=by
  unfold doesO
  simp
 rw [hD]
 obtain ⟨R,hR⟩:∃ R,R=stepR o:=⟨_,rfl⟩
 rw [← hR] at hc ⊢
 have HC:=Lib.hid hc
 have HB1:=Lib.hid hb1
 have HW1:=Lib.hid hw1
 clear hc hR hD hb1 hw1 hq n n1 ha ok hnow
 go_enter Tryz.func45,Tryz.ntmps45
 go_wp2_with fail
 try rw [← HW1.out]
 refine HC.out.mono ?_
 rintro e w2 ⟨u,rfl,hu2,hn2,hk2⟩
 obtain ⟨ux,uc,hux⟩:=OwnRow.shape hu2
 subst hux
 have HH:=Lib.hid (And.intro (ownRow_mono hu2 HB1.out.size) (And.intro hn2 ((Keeps.below HB1.out).trans hk2)))
 clear hu2 hn2 hk2 HC
 go_wp2_with fail
 refine bodyPost_ret (v:=.tuple #[.slice ux R.1.1.length uc,.int .i64 R.1.2]) (by simp [results,Tryz.results45,go_sem]) rfl ?_
 exact ⟨_,bd,j,jx,rfl,HH.out⟩
theorem does_7 (n:HE w0 w K jh bd j jx o) (he:LEnv w0) (ok:o.up=true→Few o.d o.h s o.x∧NowB o.now o.x.sent∧0≤o.refused∧o.refused≤1000000) (hnow:0≤o.now∧o.now≤2000000000) (ha:OActOk w B ⟨7,nd,nn,⟨zt,zi,zp,zs,zh,za,zd,zn⟩,.slice kx kl kc,keep,own,ah,af,an,adt⟩) (hB:B≤w0.heap.size) (hkl:keep.length≤1000000) :
  Calls Tryz.prog 45 #[.pointer (some ⟨jh,0,none⟩),.agg #[.int .i64 7,.int .i64 nd,.int .i64 nn,.int .i64 zt,.int .i64 zi,.int .i64 zp,.string zs,.string zh,.int .i64 za,.int .i64 zd,.string zn,.slice kx kl kc,.bool own,.int .i64 ah,.int .i64 af,.int .i64 an,.string adt],.int .i64 o.id] w (DoesP w0 w K jh (doesO ⟨7,nd,nn,⟨zt,zi,zp,zs,zh,za,zd,zn⟩,.slice kx kl kc,keep,own,ah,af,an,adt⟩ o)):=by
 obtain ⟨q,hq⟩:∃ q,q=w.heap.size:=⟨_,rfl⟩
 obtain ⟨w1,hw1⟩:∃ y,y=w.alloc (.cells #[.int .i64 7,.int .i64 nd,.int .i64 nn,.int .i64 zt,.int .i64 zi,.int .i64 zp,.string zs,.string zh,.int .i64 za,.int .i64 zd,.string zn,.slice kx kl kc,.bool own,.int .i64 ah,.int .i64 af,.int .i64 an,.string adt] 95 (0,0)):=⟨_,rfl⟩
 have hb1:Below w.heap.size w w1:=by rw [hw1];exact (Below.refl _ _).alloc (Nat.le_refl _) _
 have n1:=n.below hb1
 obtain ⟨M,hM⟩:∃ M,M=mailO ⟨7,nd,nn,⟨zt,zi,zp,zs,zh,za,zd,zn⟩,.slice kx kl kc,keep,own,ah,af,an,adt⟩ o.id:=⟨_,rfl⟩
 have hml:=mail_any ⟨7,nd,nn,⟨zt,zi,zp,zs,zh,za,zd,zn⟩,.slice kx kl kc,keep,own,ah,af,an,adt⟩ o.id w1 kl kx kc rfl
 have hms:M.data.size≤maxLen:=by rw [hM];exact mail_size _ _ ha.data
 have hD:doesO ⟨7,nd,nn,⟨zt,zi,zp,zs,zh,za,zd,zn⟩,.slice kx kl kc,keep,own,ah,af,an,adt⟩ o=(([],(HoR o (takeO M o).1 (takeO M o).2).1),(HoR o (takeO M o).1 (takeO M o).2).2):=by
  unfold doesO
  simp [← hM]
 rw [← hM] at hml
 rw [hD]
 unfold oactC at hml
 have HML:=Lib.hid hml
 have HC:=Lib.hid (fun (W:World) (hW:Below w1.heap.size w1 W) => ho_take (n1.below hW) M hms (fun e => (ok e).1))
 obtain ⟨R,hR⟩:∃ R,R=HoR o (takeO M o).1 (takeO M o).2:=⟨_,rfl⟩
 rw [← hR] at HC ⊢
 have HB1:=Lib.hid hb1
 have HW1:=Lib.hid hw1
 have HQ:=Lib.hid hq
 have hk1:Blk w1 q 95 #[.int .i64 7,.int .i64 nd,.int .i64 nn,.int .i64 zt,.int .i64 zi,.int .i64 zp,.string zs,.string zh,.int .i64 za,.int .i64 zd,.string zn,.slice kx kl kc,.bool own,.int .i64 ah,.int .i64 af,.int .i64 an,.string adt]:=by rw [hw1,hq];exact Blk.alloc_new w _ _
 clear hR hD hb1 hw1 hq n n1 ha ok hnow hml hms hM
 obtain ⟨mf,mt,md⟩:=M
 unfold mlV mlRow at HML HC
 simp only at HML HC
 go_enter Tryz.func45,Tryz.ntmps45
 go_wp2_with fail
 try rw [← HW1.out]
 refine HML.out.mono ?_
 rintro e w2 ⟨rfl,hb2⟩
 have HC2:=Lib.hid (HC.out w2 hb2)
 have HB2:=Lib.hid (HB1.out.trans (hb2.mono HB1.out.size))
 clear hb2 HC HML hk1
 go_wp2_with fail
 refine HC2.out.mono ?_
 rintro e w3 ⟨rfl,hn2,hk2⟩
 have HH:=Lib.hid (And.intro (ku_nil hn2) ((Keeps.below HB2.out).trans hk2))
 clear hn2 hk2 HC2
 go_wp2_with fail
 refine bodyPost_ret (v:=.tuple #[.slice none 0 0,.int .i64 R.1]) (by simp [results,Tryz.results45,go_sem]) rfl ?_
 exact ⟨.slice none 0 0,bd,j,jx,rfl,OwnRow.nil _ _,HH.out⟩
end
theorem does_any {w0 w:World} {K:Nat→Prop} {jh bd j jx B c k:Nat} {o:Hs} (a:OAct) (n:HE w0 w K jh bd j jx o) (he:LEnv w0) (b:HoB o c k) (hk:k≤790) (hc:250*(k+2)≤c) (ha:OActOk w B a) (hB:B≤w0.heap.size) (hkl:a.keep.length≤1000000)
  (hm:a.kind=1∨a.kind=2∨a.kind=3∨a.kind=4∨a.kind=5∨a.kind=6∨a.kind=7∨a.kind=15∨a.kind=16) :
  Calls Tryz.prog 45 #[.pointer (some ⟨jh,0,none⟩),.agg (oactC a).toArray,.int .i64 o.id] w (DoesP w0 w K jh (doesO a o)):=by
 obtain ⟨s,ok⟩:∃ s,(o.up=true→Few o.d o.h s o.x∧NowB o.now o.x.sent∧0≤o.refused∧o.refused≤1000000):=by
  by_cases hu:o.up=true
  · obtain ⟨s,h⟩:=b.few (by omega) hc hu
    exact ⟨s,fun _ => h⟩
  · exact ⟨0,fun e => absurd e hu⟩
 have hnow:0≤o.now∧o.now≤2000000000:=by have:=b.now;omega
 obtain ⟨kx,kc,hkv,_⟩:=id ha.kv
 obtain ⟨kd,nd,nn,⟨zt,zi,zp,zs,zh,za,zd,zn⟩,kv,keep,own,ah,af,an,adt⟩:=a
 simp only at hkv hm hkl
 subst hkv
 rcases hm with rfl | rfl | rfl | rfl | rfl | rfl | rfl | rfl | rfl
 · exact does_1 n he ok hnow ha hB hkl
 · exact does_2 n he ok hnow ha hB hkl
 · exact does_3 n he ok hnow ha hB hkl
 · exact does_4 n he ok hnow ha hB hkl
 · exact does_5 n he ok hnow ha hB hkl
 · exact does_6 n he ok hnow ha hB hkl
 · exact does_7 n he ok hnow ha hB hkl
 · exact does_15 n he ok hnow ha hB hkl
 · exact does_16 n he ok hnow ha hB hkl
def DoesR (a:OAct) (o:Hs) (R:(List Ml×Int)×Hs):Prop :=
 (a.kind≠17∧R=doesO a o)∨(a.kind=17∧o.up=true∧R=(([],250),o))∨(a.kind=17∧o.up=false∧∃ o' l t dr d3,Again o o' l t dr d3∧R=(([],0),o'))
def MayK (k:Int):Prop:=k=1∨k=2∨k=3∨k=4∨k=5∨k=6∨k=7∨k=15∨k=16∨k=17
set_option maxHeartbeats 2000000 in
theorem does_restart {w0 w:World} {K:Nat→Prop} {jh bd j jx:Nat} {o:Hs} (a:OAct) (n:HE w0 w K jh bd j jx o) (hid:Po.HostOk o.id) (he:LEnv w0) (R:(List Ml×Int)×Hs) (hR:DoesR a o R) (hk:a.kind=17) (kx:Option Addr) (kl kc:Nat) (hkv:a.kv=.slice kx kl kc) :
  Calls Tryz.prog 45 #[.pointer (some ⟨jh,0,none⟩),.agg (oactC a).toArray,.int .i64 o.id] w (DoesP w0 w K jh R):=by
 obtain ⟨kd,nd,nn,⟨zt,zi,zp,zs,zh,za,zd,zn⟩,kv,keep,own,ah,af,an,adt⟩:=a
 simp only at hk hkv
 subst hk hkv
 obtain ⟨q,hq⟩:∃ q,q=w.heap.size:=⟨_,rfl⟩
 obtain ⟨w1,hw1⟩:∃ y,y=w.alloc (.cells #[.int .i64 17,.int .i64 nd,.int .i64 nn,.int .i64 zt,.int .i64 zi,.int .i64 zp,.string zs,.string zh,.int .i64 za,.int .i64 zd,.string zn,.slice kx kl kc,.bool own,.int .i64 ah,.int .i64 af,.int .i64 an,.string adt] 95 (0,0)):=⟨_,rfl⟩
 have hb1:Below w.heap.size w w1:=by rw [hw1];exact (Below.refl _ _).alloc (Nat.le_refl _) _
 have n1:=n.below hb1
 have hc:Calls Tryz.prog 48 #[.pointer (some ⟨jh,0,none⟩)] w1 fun e w' => e=.returned (.int .i64 R.1.2)∧∃ bd j jx,HE w0 w' K jh bd j jx R.2∧Keeps K w1 w':=by
  rcases hR with ⟨e,_⟩ | ⟨_,hu,rfl⟩ | ⟨_,hu,o',l,t,dr,d3,A,rfl⟩
  · exact absurd rfl e
  · refine (ho_restart_up n1 hu).mono ?_
    rintro e w2 ⟨rfl,rfl⟩
    exact ⟨rfl,_,_,_,n1,Chg.refl _ _⟩
  · refine (ho_restart n1 he hu A.off A.start A.on A.files A.next A.opened A.dOff A.load hid).mono ?_
    rintro e w2 ⟨rfl,j2,jx2,h2,hk2⟩
    rw [← A.is] at h2
    exact ⟨rfl,_,_,_,h2,hk2⟩
 have hm:R.1.1=[]:=by
  rcases hR with ⟨e,_⟩ | ⟨_,hu,rfl⟩ | ⟨_,hu,o',l,t,dr,d3,A,rfl⟩
  · exact absurd rfl e
  · rfl
  · rfl
 have HC:=Lib.hid hc
 have HB1:=Lib.hid hb1
 have HW1:=Lib.hid hw1
 have HM:=Lib.hid hm
 clear hc hR hb1 hw1 hq n n1 hm hid
 unfold oactC
 simp only
 go_enter Tryz.func45,Tryz.ntmps45
 go_wp2_with fail
 try rw [← HW1.out]
 refine HC.out.mono ?_
 rintro e w2 ⟨rfl,bd2,j2,jx2,hn2,hk2⟩
 have HH:=Lib.hid (And.intro (ku_nil hn2) ((Keeps.below HB1.out).trans hk2))
 clear hn2 hk2 HC
 go_wp2_with fail
 refine bodyPost_ret (v:=.tuple #[.slice none 0 0,.int .i64 R.1.2]) (by simp [results,Tryz.results45,go_sem]) rfl ?_
 exact ⟨.slice none 0 0,_,_,_,rfl,by rw [HM.out];exact OwnRow.nil _ _,HH.out⟩
theorem does_all {w0 w:World} {K:Nat→Prop} {jh bd j jx B c k:Nat} {o:Hs} (a:OAct) (n:HE w0 w K jh bd j jx o) (he:LEnv w0) (b:HoB o c k) (hk:k≤790) (hc:250*(k+2)≤c) (ha:OActOk w B a) (hB:B≤w0.heap.size) (hkl:a.keep.length≤1000000)
  (hm:MayK a.kind) {R:(List Ml×Int)×Hs} (hR:DoesR a o R) :
  Calls Tryz.prog 45 #[.pointer (some ⟨jh,0,none⟩),.agg (oactC a).toArray,.int .i64 o.id] w (DoesP w0 w K jh R):=by
 by_cases h17:a.kind=17
 · obtain ⟨kx,kc,hkv,_⟩:=id ha.kv
   exact does_restart a n b.id he R hR h17 kx _ kc hkv
 · rcases hR with ⟨_,rfl⟩ | ⟨e,_⟩ | ⟨e,_⟩
   · unfold MayK at hm
     exact does_any a n he b hk hc ha hB hkl (by omega)
   · exact absurd e h17
   · exact absurd e h17
theorem HoB.later {o:Hs} {c k:Nat} (b:HoB o c k):HoB o c (k+1):=by
 have h1:=b.now
 have h2:=b.ref
 refine ⟨⟨by omega,by omega⟩,⟨by omega,by omega⟩,b.id,?_⟩
 rcases b.st with ⟨hu,⟨s,i⟩,h3,h4⟩ | ⟨hu,d,h,s,x,i⟩
 · exact .inl ⟨hu,⟨s,i.later⟩,h3,h4⟩
 · exact .inr ⟨hu,d,h,s,x,i.later⟩
theorem HoB.all {o:Hs} {c k:Nat} {a:OAct} (b:HoB o c k) (hk:k≤790) (hc:250*(k+2)≤c) (ha:a.keep.length≤1000):∃ R,DoesR a o R∧HoB R.2 c (k+1)∧R.2.id=o.id:=by
 by_cases h17:a.kind=17
 · rcases b.st with ⟨hu,⟨s,i⟩,h3,h4⟩ | ⟨hu,d,h,s,x,i⟩
   · exact ⟨(([],250),o),.inr (.inl ⟨h17,hu,rfl⟩),b.later,rfl⟩
   · obtain ⟨o',l,t,dr,d3,s3,A,b',_,_,e,_⟩:=i.begins (by omega) hc b.now b.ref b.id
     exact ⟨(([],0),o'),.inr (.inr ⟨h17,hu,o',l,t,dr,d3,A,rfl⟩),b',e⟩
 · have hid:(doesO a o).2.id=o.id:=by
    rcases b.st with ⟨hu,⟨s,i⟩,h3,h4⟩ | ⟨hu,_⟩
    · exact (does_up (a:=a) hk hc hu i ha).2.2
    · exact (does_down (a:=a) hu).2.2.1
   exact ⟨doesO a o,.inl ⟨h17,rfl⟩,b.does hk hc ha,hid⟩
end Go.Proofs.YtdacanghbepjpaaGreatDoor
namespace Go.Proofs.YtdacanghbepjpaaGreatDoor
set_option linter.unusedSimpArgs false
set_option linter.unusedVariables false
set_option maxRecDepth 100000
open Go.RowKit Go.Maps
open Dsk
structure HX (w0:World) (P:Nat→Prop) (W:World) (jh bd j jx:Nat) (o:Hs):Prop where
 hn:HN w0 P W bd j jx o
 blk:Blk W jh 122 (hsV o bd j jx)
 out:¬ P jh
 new:w0.heap.size≤jh
def H2 (w0 W:World) (K:Nat→Prop) (jh bd j jx:Nat) (o:Hs) (jh' bd' j' jx':Nat) (o':Hs):Prop :=
 ∃ P P',HX w0 P W jh bd j jx o∧HX w0 P' W jh' bd' j' jx' o'∧(∀ k,P k→¬ P' k)∧¬ P jh'∧¬ P' jh∧jh≠jh'∧∀ k,K k→¬ P k∧¬ P' k∧k≠jh∧k≠jh'∧k<W.heap.size
section
variable {w0 w w':World} {K:Nat→Prop} {jh bd j jx jh' bd' j' jx':Nat} {o o2 o':Hs}
theorem H2.symm (h:H2 w0 w K jh bd j jx o jh' bd' j' jx' o'):H2 w0 w K jh' bd' j' jx' o' jh bd j jx o:=by
 obtain ⟨P,P',h1,h2,h3,h4,h5,h6,h7⟩:=h
 exact ⟨P',P,h2,h1,fun k e e2 => h3 k e2 e,h5,h4,fun e => h6 e.symm,fun k e => ⟨(h7 k e).2.1,(h7 k e).1,(h7 k e).2.2.2.1,(h7 k e).2.2.1,(h7 k e).2.2.2.2⟩⟩
theorem H2.base (h:H2 w0 w K jh bd j jx o jh' bd' j' jx' o'):Below w0.heap.size w0 w:=by
 obtain ⟨P,P',h1,_⟩:=h
 exact h1.hn.base
theorem H2.below (h:H2 w0 w K jh bd j jx o jh' bd' j' jx' o') (y:Below w.heap.size w w'):H2 w0 w' K jh bd j jx o jh' bd' j' jx' o':=by
 obtain ⟨P,P',h1,h2,h3,h4,h5,h6,h7⟩:=h
 exact ⟨P,P',⟨h1.hn.below y,h1.blk.below y,h1.out,h1.new⟩,⟨h2.hn.below y,h2.blk.below y,h2.out,h2.new⟩,h3,h4,h5,h6,fun k e => ⟨(h7 k e).1,(h7 k e).2.1,(h7 k e).2.2.1,(h7 k e).2.2.2.1,Nat.lt_of_lt_of_le (h7 k e).2.2.2.2 y.size⟩⟩
theorem H2.add (h:H2 w0 w K jh bd j jx o jh' bd' j' jx' o') (y:Below w.heap.size w w'):H2 w0 w' (Also K w w') jh bd j jx o jh' bd' j' jx' o':=by
 obtain ⟨P,P',h1,h2,h3,h4,h5,h6,h7⟩:=h
 refine ⟨P,P',⟨h1.hn.below y,h1.blk.below y,h1.out,h1.new⟩,⟨h2.hn.below y,h2.blk.below y,h2.out,h2.new⟩,h3,h4,h5,h6,fun k e => ?_⟩
 rcases e with e | e
 · exact ⟨(h7 k e).1,(h7 k e).2.1,(h7 k e).2.2.1,(h7 k e).2.2.2.1,Nat.lt_of_lt_of_le (h7 k e).2.2.2.2 y.size⟩
 · have q1:=h1.blk.lt
   have q2:=h2.blk.lt
   exact ⟨fun e2 => by have:=h1.hn.lt k e2;omega,fun e2 => by have:=h2.hn.lt k e2;omega,by omega,by omega,e.2⟩
theorem H2.drop {K2:Nat→Prop} (h:H2 w0 w K jh bd j jx o jh' bd' j' jx' o') (hK:∀ k,K2 k→K k):H2 w0 w K2 jh bd j jx o jh' bd' j' jx' o':=by
 obtain ⟨P,P',h1,h2,h3,h4,h5,h6,h7⟩:=h
 exact ⟨P,P',h1,h2,h3,h4,h5,h6,fun k e => h7 k (hK k e)⟩
theorem H2.one (h:H2 w0 w K jh bd j jx o jh' bd' j' jx' o'):HE w0 w K jh bd j jx o:=by
 obtain ⟨P,P',h1,h2,h3,h4,h5,h6,h7⟩:=h
 exact ⟨P,h1.hn,h1.blk,h1.out,h1.new,fun k e => ⟨(h7 k e).1,(h7 k e).2.2.2.2,(h7 k e).2.2.1⟩⟩
theorem H2.does (h:H2 w0 w K jh bd j jx o jh' bd' j' jx' o') {c:FuncId} {args:Array Value} {R:(List Ml×Int)×Hs} (f:∀ K2,HE w0 w K2 jh bd j jx o→Calls Tryz.prog c args w (DoesP w0 w K2 jh R)) :
  Calls Tryz.prog c args w fun e w' => ∃ u bd j jx,e=.returned (.tuple #[u,.int .i64 R.1.2])∧OwnMl w' w.heap.size u R.1.1∧H2 w0 w' (KU K u) jh bd j jx R.2 jh' bd' j' jx' o'∧Keeps K w w':=by
 obtain ⟨P,P',h1,h2,h3,h4,h5,h6,h7⟩:=h
 refine (f (fun k => k<w.heap.size∧¬ P k∧k≠jh) ⟨P,h1.hn,h1.blk,h1.out,h1.new,fun k e => ⟨e.2.1,e.1,e.2.2⟩⟩).mono ?_
 rintro e w' ⟨u,bd2,j2,jx2,rfl,hu,⟨P2,n2,b2,q1,q2,q3⟩,hk⟩
 have hz:=hk.size
 have hc:Chg (fun k => (P k∨k=jh)∧w0.heap.size≤k) w w':=⟨hk.os,hk.tape,hk.output,hk.size,fun i hi hs => by
  by_cases hb:w0.heap.size≤i
  · exact hk.block i hi fun e => e ⟨hi,fun e2 => hs ⟨.inl e2,hb⟩,fun e2 => hs ⟨.inr e2,hb⟩⟩
  · have e1:=h1.hn.base.block i (by omega)
    have e2:=n2.base.block i (by omega)
    rw [e2,e1]⟩
 have hP2:∀ k,k<w.heap.size→P2 k→P k:=fun k hk9 e => by
  refine Classical.byContradiction fun hp => ?_
  by_cases hkj:k=jh
  · exact q1 (hkj ▸ e)
  · exact (q3 k (.inl ⟨hk9,hp,hkj⟩)).1 e
 have j'lt:=h2.blk.lt
 refine ⟨u,bd2,j2,jx2,rfl,hu,⟨P2,P',⟨n2,b2,q1,q2⟩,⟨h2.hn.other hc fun k _ e => ⟨e.2,e.1.elim (h3 k) fun e => e ▸ h5⟩,h2.blk.chg hc fun e => e.1.elim h4 fun e => h6 e.symm,h2.out,h2.new⟩,fun k e e2 => h3 k (hP2 k (h2.hn.lt k e2) e) e2,fun e => h4 (hP2 _ j'lt e),h5,h6,fun k e => ?_⟩,Chg.mono hc fun k _ e e2 => e.1.elim (h7 k e2).1 (h7 k e2).2.2.1⟩
 rcases e with e | e
 · obtain ⟨g1,g2,g3,g4,g5⟩:=h7 k e
   exact ⟨fun e2 => g1 (hP2 k g5 e2),g2,g3,g4,by omega⟩
 · have:=OwnRow.lt hu k e
   have j9:=h1.blk.lt
   exact ⟨(q3 k (.inr e)).1,fun e2 => by have:=h2.hn.lt k e2;omega,by omega,by omega,this.2⟩
theorem HE.pair {w1:World} (n:HE w0 w K jh bd j jx o) (y:Below w.heap.size w w1) (n2:HE w0 w1 (fun k => k<w.heap.size) jh' bd' j' jx' o'):H2 w0 w1 K jh bd j jx o jh' bd' j' jx' o':=by
 obtain ⟨P,a1,a2,a3,a4,a5⟩:=n
 obtain ⟨P',b1,b2,b3,b4,b5⟩:=n2
 have hlt:=a2.lt
 have hz:=y.size
 refine ⟨P,P',⟨a1.below y,a2.below y,a3,a4⟩,⟨b1,b2,b3,b4⟩,fun k e => (b5 k (a1.lt k e)).1,fun e => ?_,(b5 jh hlt).1,(b5 jh hlt).2.2,fun k e => ⟨(a5 k e).1,(b5 k (a5 k e).2.1).1,(a5 k e).2.2,(b5 k (a5 k e).2.1).2.2,by have:=(a5 k e).2.1;omega⟩⟩
 have:=a1.lt _ e
 exact (b5 jh' this).2.2 rfl
end
end Go.Proofs.YtdacanghbepjpaaGreatDoor
namespace Go.Proofs.YtdacanghbepjpaaGreatDoor
set_option linter.unusedSimpArgs false
set_option linter.unusedVariables false
set_option maxRecDepth 100000
open Go.RowKit Go.Maps
open Dsk
def KeepsTo (l:List OAct) (k:Nat):Prop:=∀ (i:Nat) (hi:i<l.length),i<k→l[i].keep.length≤20
set_option maxHeartbeats 4000000 in
theorem beyond_oacts (v:Value) (l:List OAct) (w:World) {B:Nat} (h:RdOA w B v l) (hm:l.length≤maxLen) (m:Nat) (hm2:m≤1000) :
  Calls Tryz.prog 41 #[v,.int .i64 m] w fun e w' => (∃ b:Nat,e=.returned (.bool (b == 1))∧(b≠1→l.length≤m∧∀ (i:Nat) (hi:i<l.length),l[i].keep.length≤20))∧Below w.heap.size w w':=by
 obtain ⟨n,hn⟩:∃ n,n=l.length:=⟨_,rfl⟩
 obtain ⟨x,c,hv,hel⟩:=id h
 rw [← hn] at hm hv
 subst hv
 unfold maxLen at hm
 have HR:=Lib.hid (fun (W:World) (hW:Below w.heap.size w W) => h.below hW)
 have HN:=Lib.hid hn
 clear hel h hn
 by_cases hnm:m<n
 case pos =>
  have h1:(m:Int)<n:=by omega
  go_enter Tryz.func41,Tryz.ntmps41
  go_wp2_with fail
  go_ret
  exact ⟨⟨1,rfl,fun e => absurd rfl e⟩,Below.refl _ _⟩
 case neg =>
 have h1:¬ (m:Int)<n:=by omega
 go_enter Tryz.func41,Tryz.ntmps41
 go_wp2_with fail
 go_loopw [5] (fun v5 wr => ∃ (k:Nat),v5=.int .i64 k∧k≤n∧Below w.heap.size w wr∧KeepsTo l k) (fun v5 _ => n-(intOf v5).toNat)
 case atStart => exact ⟨0,rfl,Nat.zero_le _,Below.refl _ _,fun i hi h0 => absurd h0 (Nat.not_lt_zero i)⟩
 case round =>
  obtain ⟨k,rfl,hk,hbw,hkt⟩:=hrel
  have HKT:=Lib.hid hkt
  clear hkt
  have HBW:=Lib.hid hbw
  by_cases hlt:k<n
  case pos =>
   have hlt2:(k:Int)<n:=by omega
   obtain ⟨x9,c9,hv9,hel⟩:=HR.out wr hbw
   rw [← HN.out] at hv9
   obtain ⟨rfl,rfl⟩:x=x9∧c=c9:=by injection hv9 with e1 e2 e3;exact ⟨e1,e3⟩
   clear hv9 hbw
   obtain ⟨ho,b,off,rfl,hb,hc⟩:=hel k (by rw [← HN.out];exact hlt)
   obtain ⟨a,ha⟩:∃ a,a=l[k]'(by rw [← HN.out];exact hlt):=⟨_,rfl⟩
   rw [← ha] at ho hc
   obtain ⟨c0,c1,c2,c3,c4,c5,c6,c7,c8,c9,c10,c11,c12,c13,c14,c15,c16⟩:=oact_load (b:=b) (off:=off+k*17) (a:=a) (fun i hi => by rw [Nat.add_assoc];exact hc i hi)
   have g13:=ho.data
   have g11:=ho.keep
   obtain ⟨kx,kc,hkv,_⟩:=id ho.kv
   have HKL:=Lib.hid (show a.keep.length=(l[k]'(by rw [← HN.out];exact hlt)).keep.length by rw [ha])
   have HS3:=Lib.hid ho.s
   have HBB:=Lib.hid hb
   clear hel hc ho ha hb
   obtain ⟨kd,nd,nn,⟨zt,zi,zp,zs,zh,za,zd,zn⟩,kv,keep,own,ah,af,an,adt⟩:=a
   simp only at *
   obtain ⟨kl,hkl⟩:∃ kl,kl=keep.length:=⟨_,rfl⟩
   rw [← hkl] at hkv g11 HKL
   subst hkv
   clear hkl
   unfold maxLen at g13 g11
   obtain ⟨q,hq⟩:∃ q,q=wr.heap.size:=⟨_,rfl⟩
   obtain ⟨w1,hw1⟩:∃ w1,w1=wr.alloc (.cells #[.int .i64 zt,.int .i64 zi,.int .i64 zp,.string zs,.string zh,.int .i64 za,.int .i64 zd,.string zn] 47 (0,0)):=⟨_,rfl⟩
   have hb1:Below wr.heap.size wr w1:=by rw [hw1];exact (Below.refl _ _).alloc (Nat.le_refl _) _
   have hk1:Blk w1 q 47 #[.int .i64 zt,.int .i64 zi,.int .i64 zp,.string zs,.string zh,.int .i64 za,.int .i64 zd,.string zn]:=by rw [hw1,hq];exact Blk.alloc_new wr _ _
   have HBY:=Lib.hid (beyond_span q zs zh zn HS3.out.service HS3.out.host HS3.out.note w1 (hk1.cell 3) (hk1.cell 4) (hk1.cell 7))
   have d16:w1.cell? ⟨b,off+k*17+16,none⟩=some (.string adt):=(hb1.cell (p:=⟨b,_,none⟩) HBB.out).trans c16
   have d11:w1.cell? ⟨b,off+k*17+11,none⟩=some (.slice kx kl kc):=(hb1.cell (p:=⟨b,_,none⟩) HBB.out).trans c11
   have HB1:=Lib.hid (HBW.out.trans (hb1.mono HBW.out.size))
   have HW1:=Lib.hid hw1
   have HQ:=Lib.hid hq
   clear hb1 hk1 hw1 hq
   go_wp2_with fail
   rw [← HW1.out,← HQ.out]
   refine HBY.out.mono ?_
   rintro e w2 ⟨⟨r,rfl⟩,rfl⟩
   by_cases hr:r=1
   · subst hr
     go_wp2_with fail
     go_ret
     exact ⟨⟨1,rfl,fun e => absurd rfl e⟩,HB1.out⟩
   · have hrb:(r == 1)=false:=beq_eq_false_iff_ne.2 hr
     by_cases h200:200<adt.size
     · have h201:(200:Int)<adt.size:=by omega
       go_wp2_with fail
       go_ret
       exact ⟨⟨1,rfl,fun e => absurd rfl e⟩,HB1.out⟩
     · have h201:¬ (200:Int)<adt.size:=by omega
       by_cases h20:20<kl
       · have h21:(20:Int)<kl:=by omega
         go_wp2_with fail
         go_ret
         exact ⟨⟨1,rfl,fun e => absurd rfl e⟩,HB1.out⟩
       · have h21:¬ (20:Int)<kl:=by omega
         have HKT2:=Lib.hid (show KeepsTo l (k+1) from fun i hi h0 => by
          by_cases hik:i=k
          · subst hik;have:=HKL.out;omega
          · exact HKT.out i hi (by omega))
         go_wp2_with fail
         go_roundw
         case rel => exact ⟨k+1,by go_num,by omega,HB1.out,HKT2.out⟩
         case measure => simp [intOf];omega
  case neg =>
   have hlt2:¬ (k:Int)<n:=by omega
   clear hbw
   go_wp2_with fail
   go_ret
   exact ⟨⟨0,rfl,fun _ => ⟨by rw [← HN.out];omega,fun i hi => HKT.out i hi (by rw [← HN.out] at hi;omega)⟩⟩,HBW.out⟩
end Go.Proofs.YtdacanghbepjpaaGreatDoor
namespace Go.Proofs.YtdacanghbepjpaaGreatDoor
set_option linter.unusedSimpArgs false
set_option linter.unusedVariables false
set_option maxRecDepth 100000
open Go.RowKit Go.Maps
open Dsk
def mayB (k:Int):Bool:=k == 1 || k == 2 || k == 3 || k == 4 || k == 5 || k == 6 || k == 7 || k == 15 || k == 16 || k == 17
theorem mayB_iff (k:Int):mayB k=true↔MayK k:=by
 unfold mayB MayK
 simp [or_assoc]
theorem mayK_any (k:Int) (w:World):Calls Tryz.prog 44 #[.int .i64 k] w fun e w' => e=.returned (.bool (mayB k))∧w=w':=by
 by_cases h:MayK k
 · rw [(mayB_iff k).2 h]
   unfold MayK at h
   rcases h with rfl | rfl | rfl | rfl | rfl | rfl | rfl | rfl | rfl | rfl
   all_goals
    go_enter Tryz.func44,Tryz.ntmps44
    go_wp2_with fail
    go_ret
    exact ⟨rfl,rfl⟩
 · have e:mayB k=false:=by
    cases hq:mayB k
    · rfl
    · exact absurd ((mayB_iff k).1 hq) h
   rw [e]
   unfold MayK at h
   have t1:(k == 1)=false:=beq_eq_false_iff_ne.2 (by omega)
   have t2:(k == 2)=false:=beq_eq_false_iff_ne.2 (by omega)
   have t3:(k == 3)=false:=beq_eq_false_iff_ne.2 (by omega)
   have t4:(k == 4)=false:=beq_eq_false_iff_ne.2 (by omega)
   have t5:(k == 5)=false:=beq_eq_false_iff_ne.2 (by omega)
   have t6:(k == 6)=false:=beq_eq_false_iff_ne.2 (by omega)
   have t7:(k == 7)=false:=beq_eq_false_iff_ne.2 (by omega)
   have t15:(k == 15)=false:=beq_eq_false_iff_ne.2 (by omega)
   have t16:(k == 16)=false:=beq_eq_false_iff_ne.2 (by omega)
   have t17:(k == 17)=false:=beq_eq_false_iff_ne.2 (by omega)
   clear h e
   go_enter Tryz.func44,Tryz.ntmps44
   go_wp2_with fail
   go_ret
   exact ⟨rfl,rfl⟩
section
variable {o:Hs} {c k s:Nat} {a:OAct}
theorem sure_act (b:HoB o c k) (hk:k≤790) (hc:250*(k+2)≤c) (hu:o.up=true) (i:HoI o.d o.h s o.x o.id c k) (ha:a.keep.length≤1000) :
  ∃ R,DoesR a o R∧R.2.id=o.id∧HoB R.2 c (k+1)∧o.now≤R.2.now ∧
   ((R.2.up=true∧∃ s',HoI R.2.d R.2.h s' R.2.x R.2.id c (k+1)∧HoM o.h s o.x R.2.h s' R.2.x)∨(R.2.up=false∧HoD o.d o.h s o.x R.2.d R.2.id c (k+1))):=by
 by_cases h17:a.kind=17
 · exact ⟨(([],250),o),.inr (.inl ⟨h17,hu,rfl⟩),rfl,b.later,Int.le_refl _,.inl ⟨hu,s,i.later,HoM.refl _ _ _⟩⟩
 · obtain ⟨g1,g2,g3⟩:=does_up (a:=a) hk hc hu i ha
   have hst:0≤o.x.sent∧o.x.sent≤o.now:=by
    rcases b.st with ⟨_,_,h3,h4⟩ | ⟨e,_⟩
    · exact ⟨h3,h4⟩
    · rw [hu] at e;cases e
   have q:=does_sent (a:=a) hu hst.1 hst.2
   refine ⟨doesO a o,.inl ⟨h17,rfl⟩,g3,b.does hk hc ha,q.2.2.1,?_⟩
   rw [g2,g3]
   rcases g1 with ⟨e,s',i',m⟩ | ⟨e,i'⟩
   · exact .inl ⟨by rw [e];rfl,s',i',m⟩
   · exact .inr ⟨by rw [e];rfl,i'⟩
end
end Go.Proofs.YtdacanghbepjpaaGreatDoor
