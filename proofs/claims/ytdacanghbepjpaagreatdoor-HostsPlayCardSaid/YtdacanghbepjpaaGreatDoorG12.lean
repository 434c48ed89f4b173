/- The law's acts on a host, one by one: walked. Two hosts in memory, side by side. The laws on a host: which acts are beyond: walked. -/
import Derived.Test.YtdacanghbepjpaaGreatDoorG11
import Derived.Test.YtdacanghbepjpaaGreatDoorG10
import Derived.Test.YtdacanghbepjpaaGreatDoorG8
import Derived.Test.YtdacanghbepjpaaGreatDoorG9
set_option linter.unusedSimpArgs false
set_option linter.unusedVariables false
set_option maxRecDepth 100000
namespace Go.Proofs.YtdacanghbepjpaaGreatDoor
open Go.RowKit Go.Maps
open Dsk
def DoesP (w0 w:World) (K:Nat→Prop) (jh:Nat) (R:(List Ml×Int)×Hs) (e:Ending) (w':World):Prop :=
 ∃ u bd j jx,e=.returned (.tuple #[u,.int .i64 R.1.2])∧OwnMl w' w.heap.size u R.1.1∧HE w0 w' (KU K u) jh bd j jx R.2∧Keeps K w w'
theorem ku_nil {w0 w:World} {K:Nat→Prop} {jh bd j jx:Nat} {o:Hs} (n:HE w0 w K jh bd j jx o):HE w0 w (KU K (.slice none 0 0)) jh bd j jx o:=n.drop fun k (e:KU K (.slice none 0 0) k) => Or.elim e id fun e => (by cases e)
section
variable {w0 w w':World} {P S K:Nat→Prop} {jh bd j jx s B k:Nat} {o:Hs}
variable {nd nn zt zi zp za zd ah af an:Int} {zs zh zn adt:ByteArray} {kx:Option Addr} {kl kc:Nat} {keep:List Int} {own:Bool}
theorem does_1 (n:HE w0 w K jh bd j jx o) (he:LEnv w0) (ok:o.up=true→Few o.d o.h s o.x∧NowB o.now o.x.sent∧0≤o.refused∧o.refused≤1000000) (hnow:0≤o.now∧o.now≤2000000000) (ha:OActOk w B ⟨1,nd,nn,⟨zt,zi,zp,zs,zh,za,zd,zn⟩,.slice kx kl kc,keep,own,ah,af,an,adt⟩) (hB:B≤w0.heap.size) (hkl:keep.length≤1000000) :
  Calls Tryz.prog 45 #[.pointer (some ⟨jh,0,none⟩),.agg #[.int .i64 1,.int .i64 nd,.int .i64 nn,.int .i64 zt,.int .i64 zi,.int .i64 zp,.string zs,.string zh,.int .i64 za,.int .i64 zd,.string zn,.slice kx kl kc,.bool own,.int .i64 ah,.int .i64 af,.int .i64 an,.string adt],.int .i64 o.id] w (DoesP w0 w K jh (doesO ⟨1,nd,nn,⟨zt,zi,zp,zs,zh,za,zd,zn⟩,.slice kx kl kc,keep,own,ah,af,an,adt⟩ o)):=by
 obtain ⟨q,hq⟩:∃ q,q=w.heap.size:=⟨_,rfl⟩
 obtain ⟨w1,hw1⟩:∃ y,y=w.alloc (.cells #[.int .i64 1,.int .i64 nd,.int .i64 nn,.int .i64 zt,.int .i64 zi,.int .i64 zp,.string zs,.string zh,.int .i64 za,.int .i64 zd,.string zn,.slice kx kl kc,.bool own,.int .i64 ah,.int .i64 af,.int .i64 an,.string adt] 95 (0,0)):=⟨_,rfl⟩
 have hb1:=Zb hw1
 have n1:=n.below hb1
 have hc:=ho_write n1 he ⟨zt,zi,zp,zs,zh,za,zd,zn⟩ ha.s.service ha.s.host ha.s.note (fun e => ⟨(ok e).1,(ok e).2.2⟩)
 have hD:doesO ⟨1,nd,nn,⟨zt,zi,zp,zs,zh,za,zd,zn⟩,.slice kx kl kc,keep,own,ah,af,an,adt⟩ o=(([],(HoR o (appP o.d o.h ⟨zt,zi,zp,zs,zh,za,zd,zn⟩).1 (wroteO o ⟨zt,zi,zp,zs,zh,za,zd,zn⟩)).1),(HoR o (appP o.d o.h ⟨zt,zi,zp,zs,zh,za,zd,zn⟩).1 (wroteO o ⟨zt,zi,zp,zs,zh,za,zd,zn⟩)).2):=by
  unfold doesO
  simp
 rw [hD]
 obtain ⟨R,hR⟩:∃ R,R=HoR o (appP o.d o.h ⟨zt,zi,zp,zs,zh,za,zd,zn⟩).1 (wroteO o ⟨zt,zi,zp,zs,zh,za,zd,zn⟩):=⟨_,rfl⟩
 rw [← hR] at hc ⊢
 have HC:=Zh hc
 have HB1:=Zh hb1
 have HW1:=Zh hw1
 have HQ:=Zh hq
 clear hc hR hD hb1 hw1 hq n n1 ha ok hnow
 unfold spV at HC
 simp only at HC
 go_enter Tryz.func45,Tryz.ntmps45
 go_wp2_with fail
 try rw [← HW1.out]
 refine HC.out.mono ?_
 rintro e w2 ⟨rfl,hn2,hk2⟩
 have HH:=Zh (And.intro (ku_nil hn2) ((Keeps.below HB1.out).trans hk2))
 clear hn2 hk2 HC
 go_wp2_with fail
 refine bodyPost_ret (v:=.tuple #[.slice none 0 0,.int .i64 R.1]) (by simp [results,Tryz.results45,go_sem]) rfl ?_
 exact ⟨.slice none 0 0,bd,j,jx,rfl,OwnRow.nil _ _,HH.out⟩
theorem does_2 (n:HE w0 w K jh bd j jx o) (he:LEnv w0) (ok:o.up=true→Few o.d o.h s o.x∧NowB o.now o.x.sent∧0≤o.refused∧o.refused≤1000000) (hnow:0≤o.now∧o.now≤2000000000) (ha:OActOk w B ⟨2,nd,nn,⟨zt,zi,zp,zs,zh,za,zd,zn⟩,.slice kx kl kc,keep,own,ah,af,an,adt⟩) (hB:B≤w0.heap.size) (hkl:keep.length≤1000000) :
  Calls Tryz.prog 45 #[.pointer (some ⟨jh,0,none⟩),.agg #[.int .i64 2,.int .i64 nd,.int .i64 nn,.int .i64 zt,.int .i64 zi,.int .i64 zp,.string zs,.string zh,.int .i64 za,.int .i64 zd,.string zn,.slice kx kl kc,.bool own,.int .i64 ah,.int .i64 af,.int .i64 an,.string adt],.int .i64 o.id] w (DoesP w0 w K jh (doesO ⟨2,nd,nn,⟨zt,zi,zp,zs,zh,za,zd,zn⟩,.slice kx kl kc,keep,own,ah,af,an,adt⟩ o)):=by
 obtain ⟨q,hq⟩:∃ q,q=w.heap.size:=⟨_,rfl⟩
 obtain ⟨w1,hw1⟩:∃ y,y=w.alloc (.cells #[.int .i64 2,.int .i64 nd,.int .i64 nn,.int .i64 zt,.int .i64 zi,.int .i64 zp,.string zs,.string zh,.int .i64 za,.int .i64 zd,.string zn,.slice kx kl kc,.bool own,.int .i64 ah,.int .i64 af,.int .i64 an,.string adt] 95 (0,0)):=⟨_,rfl⟩
 have hb1:=Zb hw1
 have n1:=n.below hb1
 have hc:=ho_sync n1 he (fun e => (ok e).1)
 have hD:doesO ⟨2,nd,nn,⟨zt,zi,zp,zs,zh,za,zd,zn⟩,.slice kx kl kc,keep,own,ah,af,an,adt⟩ o=(([],(HoR o (syncP o.d o.h).1 { o with d:=(syncP o.d o.h).2.2,h:=(syncP o.d o.h).2.1 }).1),(HoR o (syncP o.d o.h).1 { o with d:=(syncP o.d o.h).2.2,h:=(syncP o.d o.h).2.1 }).2):=by
  unfold doesO
  simp
 rw [hD]
 obtain ⟨R,hR⟩:∃ R,R=HoR o (syncP o.d o.h).1 { o with d:=(syncP o.d o.h).2.2,h:=(syncP o.d o.h).2.1 }:=⟨_,rfl⟩
 rw [← hR] at hc ⊢
 have HC:=Zh hc
 have HB1:=Zh hb1
 have HW1:=Zh hw1
 have HQ:=Zh hq
 clear hc hR hD hb1 hw1 hq n n1 ha ok hnow
 go_enter Tryz.func45,Tryz.ntmps45
 go_wp2_with fail
 try rw [← HW1.out]
 refine HC.out.mono ?_
 rintro e w2 ⟨rfl,hn2,hk2⟩
 have HH:=Zh (And.intro (ku_nil hn2) ((Keeps.below HB1.out).trans hk2))
 clear hn2 hk2 HC
 go_wp2_with fail
 refine bodyPost_ret (v:=.tuple #[.slice none 0 0,.int .i64 R.1]) (by simp [results,Tryz.results45,go_sem]) rfl ?_
 exact ⟨.slice none 0 0,bd,j,jx,rfl,OwnRow.nil _ _,HH.out⟩
theorem does_3 (n:HE w0 w K jh bd j jx o) (he:LEnv w0) (ok:o.up=true→Few o.d o.h s o.x∧NowB o.now o.x.sent∧0≤o.refused∧o.refused≤1000000) (hnow:0≤o.now∧o.now≤2000000000) (ha:OActOk w B ⟨3,nd,nn,⟨zt,zi,zp,zs,zh,za,zd,zn⟩,.slice kx kl kc,keep,own,ah,af,an,adt⟩) (hB:B≤w0.heap.size) (hkl:keep.length≤1000000) :
  Calls Tryz.prog 45 #[.pointer (some ⟨jh,0,none⟩),.agg #[.int .i64 3,.int .i64 nd,.int .i64 nn,.int .i64 zt,.int .i64 zi,.int .i64 zp,.string zs,.string zh,.int .i64 za,.int .i64 zd,.string zn,.slice kx kl kc,.bool own,.int .i64 ah,.int .i64 af,.int .i64 an,.string adt],.int .i64 o.id] w (DoesP w0 w K jh (doesO ⟨3,nd,nn,⟨zt,zi,zp,zs,zh,za,zd,zn⟩,.slice kx kl kc,keep,own,ah,af,an,adt⟩ o)):=by
 obtain ⟨q,hq⟩:∃ q,q=w.heap.size:=⟨_,rfl⟩
 obtain ⟨w1,hw1⟩:∃ y,y=w.alloc (.cells #[.int .i64 3,.int .i64 nd,.int .i64 nn,.int .i64 zt,.int .i64 zi,.int .i64 zp,.string zs,.string zh,.int .i64 za,.int .i64 zd,.string zn,.slice kx kl kc,.bool own,.int .i64 ah,.int .i64 af,.int .i64 an,.string adt] 95 (0,0)):=⟨_,rfl⟩
 have hb1:=Zb hw1
 have n1:=n.below hb1
 have hc:=ho_rotate n1 he (fun e => (ok e).1)
 have hD:doesO ⟨3,nd,nn,⟨zt,zi,zp,zs,zh,za,zd,zn⟩,.slice kx kl kc,keep,own,ah,af,an,adt⟩ o=(([],(HoR o (rotP o.d o.h).1 { o with d:=(rotP o.d o.h).2.2,h:=(rotP o.d o.h).2.1 }).1),(HoR o (rotP o.d o.h).1 { o with d:=(rotP o.d o.h).2.2,h:=(rotP o.d o.h).2.1 }).2):=by
  unfold doesO
  simp
 rw [hD]
 obtain ⟨R,hR⟩:∃ R,R=HoR o (rotP o.d o.h).1 { o with d:=(rotP o.d o.h).2.2,h:=(rotP o.d o.h).2.1 }:=⟨_,rfl⟩
 rw [← hR] at hc ⊢
 have HC:=Zh hc
 have HB1:=Zh hb1
 have HW1:=Zh hw1
 have HQ:=Zh hq
 clear hc hR hD hb1 hw1 hq n n1 ha ok hnow
 go_enter Tryz.func45,Tryz.ntmps45
 go_wp2_with fail
 try rw [← HW1.out]
 refine HC.out.mono ?_
 rintro e w2 ⟨rfl,hn2,hk2⟩
 have HH:=Zh (And.intro (ku_nil hn2) ((Keeps.below HB1.out).trans hk2))
 clear hn2 hk2 HC
 go_wp2_with fail
 refine bodyPost_ret (v:=.tuple #[.slice none 0 0,.int .i64 R.1]) (by simp [results,Tryz.results45,go_sem]) rfl ?_
 exact ⟨.slice none 0 0,bd,j,jx,rfl,OwnRow.nil _ _,HH.out⟩
theorem does_4 (n:HE w0 w K jh bd j jx o) (he:LEnv w0) (ok:o.up=true→Few o.d o.h s o.x∧NowB o.now o.x.sent∧0≤o.refused∧o.refused≤1000000) (hnow:0≤o.now∧o.now≤2000000000) (ha:OActOk w B ⟨4,nd,nn,⟨zt,zi,zp,zs,zh,za,zd,zn⟩,.slice kx kl kc,keep,own,ah,af,an,adt⟩) (hB:B≤w0.heap.size) (hkl:keep.length≤1000000) :
  Calls Tryz.prog 45 #[.pointer (some ⟨jh,0,none⟩),.agg #[.int .i64 4,.int .i64 nd,.int .i64 nn,.int .i64 zt,.int .i64 zi,.int .i64 zp,.string zs,.string zh,.int .i64 za,.int .i64 zd,.string zn,.slice kx kl kc,.bool own,.int .i64 ah,.int .i64 af,.int .i64 an,.string adt],.int .i64 o.id] w (DoesP w0 w K jh (doesO ⟨4,nd,nn,⟨zt,zi,zp,zs,zh,za,zd,zn⟩,.slice kx kl kc,keep,own,ah,af,an,adt⟩ o)):=by
 obtain ⟨q,hq⟩:∃ q,q=w.heap.size:=⟨_,rfl⟩
 obtain ⟨w1,hw1⟩:∃ y,y=w.alloc (.cells #[.int .i64 4,.int .i64 nd,.int .i64 nn,.int .i64 zt,.int .i64 zi,.int .i64 zp,.string zs,.string zh,.int .i64 za,.int .i64 zd,.string zn,.slice kx kl kc,.bool own,.int .i64 ah,.int .i64 af,.int .i64 an,.string adt] 95 (0,0)):=⟨_,rfl⟩
 have hb1:=Zb hw1
 have n1:=n.below hb1
 have hc:=ho_retain n1 he nn (fun e => (ok e).1)
 have hD:doesO ⟨4,nd,nn,⟨zt,zi,zp,zs,zh,za,zd,zn⟩,.slice kx kl kc,keep,own,ah,af,an,adt⟩ o=(([],(HoR o (retP nn o.d o.h).1 { o with d:=(retP nn o.d o.h).2.2,h:=(retP nn o.d o.h).2.1 }).1),(HoR o (retP nn o.d o.h).1 { o with d:=(retP nn o.d o.h).2.2,h:=(retP nn o.d o.h).2.1 }).2):=by
  unfold doesO
  simp
 rw [hD]
 obtain ⟨R,hR⟩:∃ R,R=HoR o (retP nn o.d o.h).1 { o with d:=(retP nn o.d o.h).2.2,h:=(retP nn o.d o.h).2.1 }:=⟨_,rfl⟩
 rw [← hR] at hc ⊢
 have HC:=Zh hc
 have HB1:=Zh hb1
 have HW1:=Zh hw1
 have HQ:=Zh hq
 clear hc hR hD hb1 hw1 hq n n1 ha ok hnow
 go_enter Tryz.func45,Tryz.ntmps45
 go_wp2_with fail
 try rw [← HW1.out]
 refine HC.out.mono ?_
 rintro e w2 ⟨rfl,hn2,hk2⟩
 have HH:=Zh (And.intro (ku_nil hn2) ((Keeps.below HB1.out).trans hk2))
 clear hn2 hk2 HC
 go_wp2_with fail
 refine bodyPost_ret (v:=.tuple #[.slice none 0 0,.int .i64 R.1]) (by simp [results,Tryz.results45,go_sem]) rfl ?_
 exact ⟨.slice none 0 0,bd,j,jx,rfl,OwnRow.nil _ _,HH.out⟩
theorem does_6 (n:HE w0 w K jh bd j jx o) (he:LEnv w0) (ok:o.up=true→Few o.d o.h s o.x∧NowB o.now o.x.sent∧0≤o.refused∧o.refused≤1000000) (hnow:0≤o.now∧o.now≤2000000000) (ha:OActOk w B ⟨6,nd,nn,⟨zt,zi,zp,zs,zh,za,zd,zn⟩,.slice kx kl kc,keep,own,ah,af,an,adt⟩) (hB:B≤w0.heap.size) (hkl:keep.length≤1000000) :
  Calls Tryz.prog 45 #[.pointer (some ⟨jh,0,none⟩),.agg #[.int .i64 6,.int .i64 nd,.int .i64 nn,.int .i64 zt,.int .i64 zi,.int .i64 zp,.string zs,.string zh,.int .i64 za,.int .i64 zd,.string zn,.slice kx kl kc,.bool own,.int .i64 ah,.int .i64 af,.int .i64 an,.string adt],.int .i64 o.id] w (DoesP w0 w K jh (doesO ⟨6,nd,nn,⟨zt,zi,zp,zs,zh,za,zd,zn⟩,.slice kx kl kc,keep,own,ah,af,an,adt⟩ o)):=by
 obtain ⟨q,hq⟩:∃ q,q=w.heap.size:=⟨_,rfl⟩
 obtain ⟨w1,hw1⟩:∃ y,y=w.alloc (.cells #[.int .i64 6,.int .i64 nd,.int .i64 nn,.int .i64 zt,.int .i64 zi,.int .i64 zp,.string zs,.string zh,.int .i64 za,.int .i64 zd,.string zn,.slice kx kl kc,.bool own,.int .i64 ah,.int .i64 af,.int .i64 an,.string adt] 95 (0,0)):=⟨_,rfl⟩
 have hb1:=Zb hw1
 have n1:=n.below hb1
 have hc:=ho_tick n1 hnow
 have hD:doesO ⟨6,nd,nn,⟨zt,zi,zp,zs,zh,za,zd,zn⟩,.slice kx kl kc,keep,own,ah,af,an,adt⟩ o=(([],(tickO o).1),(tickO o).2):=by
  unfold doesO
  simp
 rw [hD]
 obtain ⟨R,hR⟩:∃ R,R=tickO o:=⟨_,rfl⟩
 rw [← hR] at hc ⊢
 have HC:=Zh hc
 have HB1:=Zh hb1
 have HW1:=Zh hw1
 have HQ:=Zh hq
 clear hc hR hD hb1 hw1 hq n n1 ha ok hnow
 go_enter Tryz.func45,Tryz.ntmps45
 go_wp2_with fail
 try rw [← HW1.out]
 refine HC.out.mono ?_
 rintro e w2 ⟨rfl,hn2,hk2⟩
 have HH:=Zh (And.intro (ku_nil hn2) ((Keeps.below HB1.out).trans hk2))
 clear hn2 hk2 HC
 go_wp2_with fail
 refine bodyPost_ret (v:=.tuple #[.slice none 0 0,.int .i64 R.1]) (by simp [results,Tryz.results45,go_sem]) rfl ?_
 exact ⟨.slice none 0 0,bd,j,jx,rfl,OwnRow.nil _ _,HH.out⟩
theorem does_15 (n:HE w0 w K jh bd j jx o) (he:LEnv w0) (ok:o.up=true→Few o.d o.h s o.x∧NowB o.now o.x.sent∧0≤o.refused∧o.refused≤1000000) (hnow:0≤o.now∧o.now≤2000000000) (ha:OActOk w B ⟨15,nd,nn,⟨zt,zi,zp,zs,zh,za,zd,zn⟩,.slice kx kl kc,keep,own,ah,af,an,adt⟩) (hB:B≤w0.heap.size) (hkl:keep.length≤1000000) :
  Calls Tryz.prog 45 #[.pointer (some ⟨jh,0,none⟩),.agg #[.int .i64 15,.int .i64 nd,.int .i64 nn,.int .i64 zt,.int .i64 zi,.int .i64 zp,.string zs,.string zh,.int .i64 za,.int .i64 zd,.string zn,.slice kx kl kc,.bool own,.int .i64 ah,.int .i64 af,.int .i64 an,.string adt],.int .i64 o.id] w (DoesP w0 w K jh (doesO ⟨15,nd,nn,⟨zt,zi,zp,zs,zh,za,zd,zn⟩,.slice kx kl kc,keep,own,ah,af,an,adt⟩ o)):=by
 obtain ⟨q,hq⟩:∃ q,q=w.heap.size:=⟨_,rfl⟩
 obtain ⟨w1,hw1⟩:∃ y,y=w.alloc (.cells #[.int .i64 15,.int .i64 nd,.int .i64 nn,.int .i64 zt,.int .i64 zi,.int .i64 zp,.string zs,.string zh,.int .i64 za,.int .i64 zd,.string zn,.slice kx kl kc,.bool own,.int .i64 ah,.int .i64 af,.int .i64 an,.string adt] 95 (0,0)):=⟨_,rfl⟩
 have hb1:=Zb hw1
 have n1:=n.below hb1
 have hc:=ho_crash n1 (.slice kx kl kc) keep ((ha.kv.chg (T:=fun _ => False) (Chg.of_below hb1) (fun _ e => e.elim)).mono fun q hq => Nat.le_trans hB hq) hkl
 have hD:doesO ⟨15,nd,nn,⟨zt,zi,zp,zs,zh,za,zd,zn⟩,.slice kx kl kc,keep,own,ah,af,an,adt⟩ o=(([],(HoR o (o.d.crash keep).1 { o with d:=(o.d.crash keep).2 }).1),(HoR o (o.d.crash keep).1 { o with d:=(o.d.crash keep).2 }).2):=by
  unfold doesO
  simp
 rw [hD]
 obtain ⟨R,hR⟩:∃ R,R=HoR o (o.d.crash keep).1 { o with d:=(o.d.crash keep).2 }:=⟨_,rfl⟩
 rw [← hR] at hc ⊢
 have HC:=Zh hc
 have HB1:=Zh hb1
 have HW1:=Zh hw1
 have HQ:=Zh hq
 clear hc hR hD hb1 hw1 hq n n1 ha ok hnow
 go_enter Tryz.func45,Tryz.ntmps45
 go_wp2_with fail
 try rw [← HW1.out]
 refine HC.out.mono ?_
 rintro e w2 ⟨rfl,hn2,hk2⟩
 have HH:=Zh (And.intro (ku_nil hn2) ((Keeps.below HB1.out).trans hk2))
 clear hn2 hk2 HC
 go_wp2_with fail
 refine bodyPost_ret (v:=.tuple #[.slice none 0 0,.int .i64 R.1]) (by simp [results,Tryz.results45,go_sem]) rfl ?_
 exact ⟨.slice none 0 0,bd,j,jx,rfl,OwnRow.nil _ _,HH.out⟩
theorem does_16 (n:HE w0 w K jh bd j jx o) (he:LEnv w0) (ok:o.up=true→Few o.d o.h s o.x∧NowB o.now o.x.sent∧0≤o.refused∧o.refused≤1000000) (hnow:0≤o.now∧o.now≤2000000000) (ha:OActOk w B ⟨16,nd,nn,⟨zt,zi,zp,zs,zh,za,zd,zn⟩,.slice kx kl kc,keep,own,ah,af,an,adt⟩) (hB:B≤w0.heap.size) (hkl:keep.length≤1000000) :
  Calls Tryz.prog 45 #[.pointer (some ⟨jh,0,none⟩),.agg #[.int .i64 16,.int .i64 nd,.int .i64 nn,.int .i64 zt,.int .i64 zi,.int .i64 zp,.string zs,.string zh,.int .i64 za,.int .i64 zd,.string zn,.slice kx kl kc,.bool own,.int .i64 ah,.int .i64 af,.int .i64 an,.string adt],.int .i64 o.id] w (DoesP w0 w K jh (doesO ⟨16,nd,nn,⟨zt,zi,zp,zs,zh,za,zd,zn⟩,.slice kx kl kc,keep,own,ah,af,an,adt⟩ o)):=by
 obtain ⟨q,hq⟩:∃ q,q=w.heap.size:=⟨_,rfl⟩
 obtain ⟨w1,hw1⟩:∃ y,y=w.alloc (.cells #[.int .i64 16,.int .i64 nd,.int .i64 nn,.int .i64 zt,.int .i64 zi,.int .i64 zp,.string zs,.string zh,.int .i64 za,.int .i64 zd,.string zn,.slice kx kl kc,.bool own,.int .i64 ah,.int .i64 af,.int .i64 an,.string adt] 95 (0,0)):=⟨_,rfl⟩
 have hb1:=Zb hw1
 have n1:=n.below hb1
 have hc:=ho_fail n1 nn (.slice kx kl kc) keep ha.n.2 ((ha.kv.chg (T:=fun _ => False) (Chg.of_below hb1) (fun _ e => e.elim)).mono fun q hq => Nat.le_trans hB hq) hkl
 have hD:doesO ⟨16,nd,nn,⟨zt,zi,zp,zs,zh,za,zd,zn⟩,.slice kx kl kc,keep,own,ah,af,an,adt⟩ o=(([],(HoR o (o.d.failAt nn keep).1 { o with d:=(o.d.failAt nn keep).2 }).1),(HoR o (o.d.failAt nn keep).1 { o with d:=(o.d.failAt nn keep).2 }).2):=by
  unfold doesO
  simp
 rw [hD]
 obtain ⟨R,hR⟩:∃ R,R=HoR o (o.d.failAt nn keep).1 { o with d:=(o.d.failAt nn keep).2 }:=⟨_,rfl⟩
 rw [← hR] at hc ⊢
 have HC:=Zh hc
 have HB1:=Zh hb1
 have HW1:=Zh hw1
 have HQ:=Zh hq
 clear hc hR hD hb1 hw1 hq n n1 ha ok hnow
 go_enter Tryz.func45,Tryz.ntmps45
 go_wp2_with fail
 try rw [← HW1.out]
 refine HC.out.mono ?_
 rintro e w2 ⟨rfl,hn2,hk2⟩
 have HH:=Zh (And.intro (ku_nil hn2) ((Keeps.below HB1.out).trans hk2))
 clear hn2 hk2 HC
 go_wp2_with fail
 refine bodyPost_ret (v:=.tuple #[.slice none 0 0,.int .i64 R.1]) (by simp [results,Tryz.results45,go_sem]) rfl ?_
 exact ⟨.slice none 0 0,bd,j,jx,rfl,OwnRow.nil _ _,HH.out⟩
theorem does_5 (n:HE w0 w K jh bd j jx o) (he:LEnv w0) (ok:o.up=true→Few o.d o.h s o.x∧NowB o.now o.x.sent∧0≤o.refused∧o.refused≤1000000) (hnow:0≤o.now∧o.now≤2000000000) (ha:OActOk w B ⟨5,nd,nn,⟨zt,zi,zp,zs,zh,za,zd,zn⟩,.slice kx kl kc,keep,own,ah,af,an,adt⟩) (hB:B≤w0.heap.size) (hkl:keep.length≤1000000) :
  Calls Tryz.prog 45 #[.pointer (some ⟨jh,0,none⟩),.agg #[.int .i64 5,.int .i64 nd,.int .i64 nn,.int .i64 zt,.int .i64 zi,.int .i64 zp,.string zs,.string zh,.int .i64 za,.int .i64 zd,.string zn,.slice kx kl kc,.bool own,.int .i64 ah,.int .i64 af,.int .i64 an,.string adt],.int .i64 o.id] w (DoesP w0 w K jh (doesO ⟨5,nd,nn,⟨zt,zi,zp,zs,zh,za,zd,zn⟩,.slice kx kl kc,keep,own,ah,af,an,adt⟩ o)):=by
 obtain ⟨q,hq⟩:∃ q,q=w.heap.size:=⟨_,rfl⟩
 obtain ⟨w1,hw1⟩:∃ y,y=w.alloc (.cells #[.int .i64 5,.int .i64 nd,.int .i64 nn,.int .i64 zt,.int .i64 zi,.int .i64 zp,.string zs,.string zh,.int .i64 za,.int .i64 zd,.string zn,.slice kx kl kc,.bool own,.int .i64 ah,.int .i64 af,.int .i64 an,.string adt] 95 (0,0)):=⟨_,rfl⟩
 have hb1:=Zb hw1
 have n1:=n.below hb1
 have hc:=ho_step n1 he (fun e => ⟨(ok e).1,(ok e).2.1⟩) n1.base.size
 have hD:doesO ⟨5,nd,nn,⟨zt,zi,zp,zs,zh,za,zd,zn⟩,.slice kx kl kc,keep,own,ah,af,an,adt⟩ o=stepR o:=by
  unfold doesO
  simp
 rw [hD]
 obtain ⟨R,hR⟩:∃ R,R=stepR o:=⟨_,rfl⟩
 rw [← hR] at hc ⊢
 have HC:=Zh hc
 have HB1:=Zh hb1
 have HW1:=Zh hw1
 clear hc hR hD hb1 hw1 hq n n1 ha ok hnow
 go_enter Tryz.func45,Tryz.ntmps45
 go_wp2_with fail
 try rw [← HW1.out]
 refine HC.out.mono ?_
 rintro e w2 ⟨u,rfl,hu2,hn2,hk2⟩
 obtain ⟨ux,uc,hux⟩:=OwnRow.shape hu2
 subst hux
 have HH:=Zh (And.intro (ownRow_mono hu2 HB1.out.size) (And.intro hn2 ((Keeps.below HB1.out).trans hk2)))
 clear hu2 hn2 hk2 HC
 go_wp2_with fail
 refine bodyPost_ret (v:=.tuple #[.slice ux R.1.1.length uc,.int .i64 R.1.2]) (by simp [results,Tryz.results45,go_sem]) rfl ?_
 exact ⟨_,bd,j,jx,rfl,HH.out⟩
theorem does_7 (n:HE w0 w K jh bd j jx o) (he:LEnv w0) (ok:o.up=true→Few o.d o.h s o.x∧NowB o.now o.x.sent∧0≤o.refused∧o.refused≤1000000) (hnow:0≤o.now∧o.now≤2000000000) (ha:OActOk w B ⟨7,nd,nn,⟨zt,zi,zp,zs,zh,za,zd,zn⟩,.slice kx kl kc,keep,own,ah,af,an,adt⟩) (hB:B≤w0.heap.size) (hkl:keep.length≤1000000) :
  Calls Tryz.prog 45 #[.pointer (some ⟨jh,0,none⟩),.agg #[.int .i64 7,.int .i64 nd,.int .i64 nn,.int .i64 zt,.int .i64 zi,.int .i64 zp,.string zs,.string zh,.int .i64 za,.int .i64 zd,.string zn,.slice kx kl kc,.bool own,.int .i64 ah,.int .i64 af,.int .i64 an,.string adt],.int .i64 o.id] w (DoesP w0 w K jh (doesO ⟨7,nd,nn,⟨zt,zi,zp,zs,zh,za,zd,zn⟩,.slice kx kl kc,keep,own,ah,af,an,adt⟩ o)):=by
 obtain ⟨q,hq⟩:∃ q,q=w.heap.size:=⟨_,rfl⟩
 obtain ⟨w1,hw1⟩:∃ y,y=w.alloc (.cells #[.int .i64 7,.int .i64 nd,.int .i64 nn,.int .i64 zt,.int .i64 zi,.int .i64 zp,.string zs,.string zh,.int .i64 za,.int .i64 zd,.string zn,.slice kx kl kc,.bool own,.int .i64 ah,.int .i64 af,.int .i64 an,.string adt] 95 (0,0)):=⟨_,rfl⟩
 have hb1:=Zb hw1
 have n1:=n.below hb1
 obtain ⟨M,hM⟩:∃ M,M=mailO ⟨7,nd,nn,⟨zt,zi,zp,zs,zh,za,zd,zn⟩,.slice kx kl kc,keep,own,ah,af,an,adt⟩ o.id:=⟨_,rfl⟩
 have hml:=mail_any ⟨7,nd,nn,⟨zt,zi,zp,zs,zh,za,zd,zn⟩,.slice kx kl kc,keep,own,ah,af,an,adt⟩ o.id w1 kl kx kc rfl
 have hms:M.data.size≤maxLen:=by rw [hM];exact mail_size _ _ ha.data
 have hD:doesO ⟨7,nd,nn,⟨zt,zi,zp,zs,zh,za,zd,zn⟩,.slice kx kl kc,keep,own,ah,af,an,adt⟩ o=(([],(HoR o (takeO M o).1 (takeO M o).2).1),(HoR o (takeO M o).1 (takeO M o).2).2):=by
  unfold doesO
  simp [← hM]
 rw [← hM] at hml
 rw [hD]
 unfold oactC at hml
 have HML:=Zh hml
 have HC:=Zh (fun (W:World) (hW:Below w1.heap.size w1 W) => ho_take (n1.below hW) M hms (fun e => (ok e).1))
 obtain ⟨R,hR⟩:∃ R,R=HoR o (takeO M o).1 (takeO M o).2:=⟨_,rfl⟩
 rw [← hR] at HC ⊢
 have HB1:=Zh hb1
 have HW1:=Zh hw1
 have HQ:=Zh hq
 have hk1:=Zk hw1 hq
 clear hR hD hb1 hw1 hq n n1 ha ok hnow hml hms hM
 obtain ⟨mf,mt,md⟩:=M
 unfold mlV mlRow at HML HC
 simp only at HML HC
 go_enter Tryz.func45,Tryz.ntmps45
 go_wp2_with fail
 try rw [← HW1.out]
 refine HML.out.mono ?_
 rintro e w2 ⟨rfl,hb2⟩
 have HC2:=Zh (HC.out w2 hb2)
 have HB2:=Zh (HB1.out.trans (hb2.mono HB1.out.size))
 clear hb2 HC HML hk1
 go_wp2_with fail
 refine HC2.out.mono ?_
 rintro e w3 ⟨rfl,hn2,hk2⟩
 have HH:=Zh (And.intro (ku_nil hn2) ((Keeps.below HB2.out).trans hk2))
 clear hn2 hk2 HC2
 go_wp2_with fail
 refine bodyPost_ret (v:=.tuple #[.slice none 0 0,.int .i64 R.1]) (by simp [results,Tryz.results45,go_sem]) rfl ?_
 exact ⟨.slice none 0 0,bd,j,jx,rfl,OwnRow.nil _ _,HH.out⟩
end
theorem does_any {w0 w:World} {K:Nat→Prop} {jh bd j jx B c k:Nat} {o:Hs} (a:OAct) (n:HE w0 w K jh bd j jx o) (he:LEnv w0) (b:HoB o c k) (hk:k≤790) (hc:250*(k+2)≤c) (ha:OActOk w B a) (hB:B≤w0.heap.size) (hkl:a.keep.length≤1000000)
  (hm:a.kind=1∨a.kind=2∨a.kind=3∨a.kind=4∨a.kind=5∨a.kind=6∨a.kind=7∨a.kind=15∨a.kind=16) :
  Calls Tryz.prog 45 #[.pointer (some ⟨jh,0,none⟩),.agg (oactC a).toArray,.int .i64 o.id] w (DoesP w0 w K jh (doesO a o)):=by
 obtain ⟨s,ok⟩:∃ s,(o.up=true→Few o.d o.h s o.x∧NowB o.now o.x.sent∧0≤o.refused∧o.refused≤1000000):=by
  by_cases hu:o.up=true
  · obtain ⟨s,h⟩:=b.few (by omega) hc hu
    exact ⟨s,fun _ => h⟩
  exact ⟨0,fun e => absurd e hu⟩
 have hnow:0≤o.now∧o.now≤2000000000:=by have:=b.now;omega
 obtain ⟨kx,kc,hkv,_⟩:=id ha.kv
 obtain ⟨kd,nd,nn,⟨zt,zi,zp,zs,zh,za,zd,zn⟩,kv,keep,own,ah,af,an,adt⟩:=a
 simp only at hkv hm hkl
 subst hkv
 rcases hm with rfl | rfl | rfl | rfl | rfl | rfl | rfl | rfl | rfl
 · exact does_1 n he ok hnow ha hB hkl
 · exact does_2 n he ok hnow ha hB hkl
 · exact does_3 n he ok hnow ha hB hkl
 · exact does_4 n he ok hnow ha hB hkl
 · exact does_5 n he ok hnow ha hB hkl
 · exact does_6 n he ok hnow ha hB hkl
 · exact does_7 n he ok hnow ha hB hkl
 · exact does_15 n he ok hnow ha hB hkl
 exact does_16 n he ok hnow ha hB hkl
def DoesR (a:OAct) (o:Hs) (R:(List Ml×Int)×Hs):Prop :=
 (a.kind≠17∧R=doesO a o)∨(a.kind=17∧o.up=true∧R=(([],250),o))∨(a.kind=17∧o.up=false∧∃ o' l t dr d3,Again o o' l t dr d3∧R=(([],0),o'))
def MayK (k:Int):Prop:=k=1∨k=2∨k=3∨k=4∨k=5∨k=6∨k=7∨k=15∨k=16∨k=17
set_option maxHeartbeats 2000000 in
theorem does_restart {w0 w:World} {K:Nat→Prop} {jh bd j jx:Nat} {o:Hs} (a:OAct) (n:HE w0 w K jh bd j jx o) (hid:Po.HostOk o.id) (he:LEnv w0) (R:(List Ml×Int)×Hs) (hR:DoesR a o R) (hk:a.kind=17) (kx:Option Addr) (kl kc:Nat) (hkv:a.kv=.slice kx kl kc) :
  Calls Tryz.prog 45 #[.pointer (some ⟨jh,0,none⟩),.agg (oactC a).toArray,.int .i64 o.id] w (DoesP w0 w K jh R):=by
 obtain ⟨kd,nd,nn,⟨zt,zi,zp,zs,zh,za,zd,zn⟩,kv,keep,own,ah,af,an,adt⟩:=a
 simp only at hk hkv
 subst hk hkv
 obtain ⟨q,hq⟩:∃ q,q=w.heap.size:=⟨_,rfl⟩
 obtain ⟨w1,hw1⟩:∃ y,y=w.alloc (.cells #[.int .i64 17,.int .i64 nd,.int .i64 nn,.int .i64 zt,.int .i64 zi,.int .i64 zp,.string zs,.string zh,.int .i64 za,.int .i64 zd,.string zn,.slice kx kl kc,.bool own,.int .i64 ah,.int .i64 af,.int .i64 an,.string adt] 95 (0,0)):=⟨_,rfl⟩
 have hb1:=Zb hw1
 have n1:=n.below hb1
 have hc:Calls Tryz.prog 48 #[.pointer (some ⟨jh,0,none⟩)] w1 fun e w' => e=.returned (.int .i64 R.1.2)∧∃ bd j jx,HE w0 w' K jh bd j jx R.2∧Keeps K w1 w':=by
  rcases hR with ⟨e,_⟩ | ⟨_,hu,rfl⟩ | ⟨_,hu,o',l,t,dr,d3,A,rfl⟩
  · exact absurd rfl e
  · refine (ho_restart_up n1 hu).mono ?_
    rintro e w2 ⟨rfl,rfl⟩
    exact ⟨rfl,_,_,_,n1,Chg.refl _ _⟩
  refine (ho_restart n1 he hu A.off A.start A.on A.files A.next A.opened A.dOff A.load hid).mono ?_
  rintro e w2 ⟨rfl,j2,jx2,h2,hk2⟩
  rw [← A.is] at h2
  exact ⟨rfl,_,_,_,h2,hk2⟩
 have hm:R.1.1=[]:=by
  rcases hR with ⟨e,_⟩ | ⟨_,hu,rfl⟩ | ⟨_,hu,o',l,t,dr,d3,A,rfl⟩
  · exact absurd rfl e
  · rfl
  rfl
 have HC:=Zh hc
 have HB1:=Zh hb1
 have HW1:=Zh hw1
 have HM:=Zh hm
 clear hc hR hb1 hw1 hq n n1 hm hid
 unfold oactC
 simp only
 go_enter Tryz.func45,Tryz.ntmps45
 go_wp2_with fail
 try rw [← HW1.out]
 refine HC.out.mono ?_
 rintro e w2 ⟨rfl,bd2,j2,jx2,hn2,hk2⟩
 have HH:=Zh (And.intro (ku_nil hn2) ((Keeps.below HB1.out).trans hk2))
 clear hn2 hk2 HC
 go_wp2_with fail
 refine bodyPost_ret (v:=.tuple #[.slice none 0 0,.int .i64 R.1.2]) (by simp [results,Tryz.results45,go_sem]) rfl ?_
 exact ⟨.slice none 0 0,_,_,_,rfl,by rw [HM.out];exact OwnRow.nil _ _,HH.out⟩
theorem does_all {w0 w:World} {K:Nat→Prop} {jh bd j jx B c k:Nat} {o:Hs} (a:OAct) (n:HE w0 w K jh bd j jx o) (he:LEnv w0) (b:HoB o c k) (hk:k≤790) (hc:250*(k+2)≤c) (ha:OActOk w B a) (hB:B≤w0.heap.size) (hkl:a.keep.length≤1000000)
  (hm:MayK a.kind) {R:(List Ml×Int)×Hs} (hR:DoesR a o R) :
  Calls Tryz.prog 45 #[.pointer (some ⟨jh,0,none⟩),.agg (oactC a).toArray,.int .i64 o.id] w (DoesP w0 w K jh R):=by
 by_cases h17:a.kind=17
 · obtain ⟨kx,kc,hkv,_⟩:=id ha.kv
   exact does_restart a n b.id he R hR h17 kx _ kc hkv
 rcases hR with ⟨_,rfl⟩ | ⟨e,_⟩ | ⟨e,_⟩
 · unfold MayK at hm
   exact does_any a n he b hk hc ha hB hkl (by omega)
 · exact absurd e h17
 exact absurd e h17
theorem HoB.later {o:Hs} {c k:Nat} (b:HoB o c k):HoB o c (k+1):=by
 have h1:=b.now
 have h2:=b.ref
 refine ⟨⟨by omega,by omega⟩,⟨by omega,by omega⟩,b.id,?_⟩
 rcases b.st with ⟨hu,⟨s,i⟩,h3,h4⟩ | ⟨hu,d,h,s,x,i⟩
 · exact .inl ⟨hu,⟨s,i.later⟩,h3,h4⟩
 exact .inr ⟨hu,d,h,s,x,i.later⟩
theorem HoB.all {o:Hs} {c k:Nat} {a:OAct} (b:HoB o c k) (hk:k≤790) (hc:250*(k+2)≤c) (ha:a.keep.length≤1000):∃ R,DoesR a o R∧HoB R.2 c (k+1)∧R.2.id=o.id:=by
 by_cases h17:a.kind=17
 · rcases b.st with ⟨hu,⟨s,i⟩,h3,h4⟩ | ⟨hu,d,h,s,x,i⟩
   · exact ⟨(([],250),o),.inr (.inl ⟨h17,hu,rfl⟩),b.later,rfl⟩
   obtain ⟨o',l,t,dr,d3,s3,A,b',_,_,e,_⟩:=i.begins (by omega) hc b.now b.ref b.id
   exact ⟨(([],0),o'),.inr (.inr ⟨h17,hu,o',l,t,dr,d3,A,rfl⟩),b',e⟩
 have hid:(doesO a o).2.id=o.id:=by
  rcases b.st with ⟨hu,⟨s,i⟩,h3,h4⟩ | ⟨hu,_⟩
  · exact (does_up (a:=a) hk hc hu i ha).2.2
  exact (does_down (a:=a) hu).2.2.1
 exact ⟨doesO a o,.inl ⟨h17,rfl⟩,b.does hk hc ha,hid⟩
end Go.Proofs.YtdacanghbepjpaaGreatDoor
namespace Go.Proofs.YtdacanghbepjpaaGreatDoor
open Go.RowKit Go.Maps
open Dsk
structure HX (w0:World) (P:Nat→Prop) (W:World) (jh bd j jx:Nat) (o:Hs):Prop where
 hn:HN w0 P W bd j jx o
 blk:Blk W jh 122 (hsV o bd j jx)
 out:¬ P jh
 new:w0.heap.size≤jh
def H2 (w0 W:World) (K:Nat→Prop) (jh bd j jx:Nat) (o:Hs) (jh' bd' j' jx':Nat) (o':Hs):Prop :=
 ∃ P P',HX w0 P W jh bd j jx o∧HX w0 P' W jh' bd' j' jx' o'∧(∀ k,P k→¬ P' k)∧¬ P jh'∧¬ P' jh∧jh≠jh'∧∀ k,K k→¬ P k∧¬ P' k∧k≠jh∧k≠jh'∧k<W.heap.size
section
variable {w0 w w':World} {K:Nat→Prop} {jh bd j jx jh' bd' j' jx':Nat} {o o2 o':Hs}
end
end Go.Proofs.YtdacanghbepjpaaGreatDoor
namespace Go.Proofs.YtdacanghbepjpaaGreatDoor
open Go.RowKit Go.Maps
open Dsk
def KeepsTo (l:List OAct) (k:Nat):Prop:=∀ (i:Nat) (hi:i<l.length),i<k→l[i].keep.length≤20
set_option maxHeartbeats 4000000 in
theorem beyond_oacts (v:Value) (l:List OAct) (w:World) {B:Nat} (h:RdOA w B v l) (hm:l.length≤maxLen) (m:Nat) (hm2:m≤1000) :
  Calls Tryz.prog 41 #[v,.int .i64 m] w fun e w' => (∃ b:Nat,e=.returned (.bool (b == 1))∧(b≠1→l.length≤m∧∀ (i:Nat) (hi:i<l.length),l[i].keep.length≤20))∧Below w.heap.size w w':=by
 obtain ⟨n,hn⟩:∃ n,n=l.length:=⟨_,rfl⟩
 obtain ⟨x,c,hv,hel⟩:=id h
 rw [← hn] at hm hv
 subst hv
 unfold maxLen at hm
 have HR:=Zh (fun (W:World) (hW:Below w.heap.size w W) => h.below hW)
 have HN:=Zh hn
 clear hel h hn
 by_cases hnm:m<n
 case pos =>
  have h1:(m:Int)<n:=by omega
  go_enter Tryz.func41,Tryz.ntmps41
  go_wp2_with fail
  go_ret
  exact ⟨⟨1,rfl,fun e => absurd rfl e⟩,Below.refl _ _⟩
 case neg =>
 have h1:¬ (m:Int)<n:=by omega
 go_enter Tryz.func41,Tryz.ntmps41
 go_wp2_with fail
 go_loopw [5] (fun v5 wr => ∃ (k:Nat),v5=.int .i64 k∧k≤n∧Below w.heap.size w wr∧KeepsTo l k) (fun v5 _ => n-(intOf v5).toNat)
 case atStart => exact ⟨0,rfl,Nat.zero_le _,Below.refl _ _,fun i hi h0 => absurd h0 (Nat.not_lt_zero i)⟩
 case round =>
 obtain ⟨k,rfl,hk,hbw,hkt⟩:=hrel
 have HKT:=Zh hkt
 clear hkt
 have HBW:=Zh hbw
 by_cases hlt:k<n
 case pos =>
  have hlt2:(k:Int)<n:=by omega
  obtain ⟨x9,c9,hv9,hel⟩:=HR.out wr hbw
  rw [← HN.out] at hv9
  obtain ⟨rfl,rfl⟩:x=x9∧c=c9:=by injection hv9 with e1 e2 e3;exact ⟨e1,e3⟩
  clear hv9 hbw
  obtain ⟨ho,b,off,rfl,hb,hc⟩:=hel k (by rw [← HN.out];exact hlt)
  obtain ⟨a,ha⟩:∃ a,a=l[k]'(by rw [← HN.out];exact hlt):=⟨_,rfl⟩
  rw [← ha] at ho hc
  obtain ⟨c0,c1,c2,c3,c4,c5,c6,c7,c8,c9,c10,c11,c12,c13,c14,c15,c16⟩:=oact_load (b:=b) (off:=off+k*17) (a:=a) (fun i hi => by rw [Nat.add_assoc];exact hc i hi)
  have g13:=ho.data
  have g11:=ho.keep
  obtain ⟨kx,kc,hkv,_⟩:=id ho.kv
  have HKL:=Zh (show a.keep.length=(l[k]'(by rw [← HN.out];exact hlt)).keep.length by rw [ha])
  have HS3:=Zh ho.s
  have HBB:=Zh hb
  clear hel hc ho ha hb
  obtain ⟨kd,nd,nn,⟨zt,zi,zp,zs,zh,za,zd,zn⟩,kv,keep,own,ah,af,an,adt⟩:=a
  simp only at *
  obtain ⟨kl,hkl⟩:∃ kl,kl=keep.length:=⟨_,rfl⟩
  rw [← hkl] at hkv g11 HKL
  subst hkv
  clear hkl
  unfold maxLen at g13 g11
  obtain ⟨q,hq⟩:∃ q,q=wr.heap.size:=⟨_,rfl⟩
  obtain ⟨w1,hw1⟩:∃ w1,w1=wr.alloc (.cells #[.int .i64 zt,.int .i64 zi,.int .i64 zp,.string zs,.string zh,.int .i64 za,.int .i64 zd,.string zn] 47 (0,0)):=⟨_,rfl⟩
  have hb1:=Zb hw1
  have hk1:=Zk hw1 hq
  have HBY:=Zh (beyond_span q zs zh zn HS3.out.service HS3.out.host HS3.out.note w1 (hk1.cell 3) (hk1.cell 4) (hk1.cell 7))
  have d16:w1.cell? ⟨b,off+k*17+16,none⟩=some (.string adt):=(hb1.cell (p:=⟨b,_,none⟩) HBB.out).trans c16
  have d11:w1.cell? ⟨b,off+k*17+11,none⟩=some (.slice kx kl kc):=(hb1.cell (p:=⟨b,_,none⟩) HBB.out).trans c11
  have HB1:=Zh (HBW.out.trans (hb1.mono HBW.out.size))
  have HW1:=Zh hw1
  have HQ:=Zh hq
  clear hb1 hk1 hw1 hq
  go_wp2_with fail
  rw [← HW1.out,← HQ.out]
  refine HBY.out.mono ?_
  rintro e w2 ⟨⟨r,rfl⟩,rfl⟩
  by_cases hr:r=1
  · subst hr
    go_wp2_with fail
    go_ret
    exact ⟨⟨1,rfl,fun e => absurd rfl e⟩,HB1.out⟩
  have hrb:(r == 1)=false:=beq_eq_false_iff_ne.2 hr
  by_cases h200:200<adt.size
  · have h201:(200:Int)<adt.size:=by omega
    go_wp2_with fail
    go_ret
    exact ⟨⟨1,rfl,fun e => absurd rfl e⟩,HB1.out⟩
  have h201:¬ (200:Int)<adt.size:=by omega
  by_cases h20:20<kl
  · have h21:(20:Int)<kl:=by omega
    go_wp2_with fail
    go_ret
    exact ⟨⟨1,rfl,fun e => absurd rfl e⟩,HB1.out⟩
  have h21:¬ (20:Int)<kl:=by omega
  have HKT2:=Zh (show KeepsTo l (k+1) from fun i hi h0 => by
   by_cases hik:i=k
   · subst hik;have:=HKL.out;omega
   exact HKT.out i hi (by omega))
  go_wp2_with fail
  go_roundw
  case rel => exact ⟨k+1,by go_num,by omega,HB1.out,HKT2.out⟩
  case measure => simp [intOf];omega
 case neg =>
 have hlt2:¬ (k:Int)<n:=by omega
 clear hbw
 go_wp2_with fail
 go_ret
 exact ⟨⟨0,rfl,fun _ => ⟨by rw [← HN.out];omega,fun i hi => HKT.out i hi (by rw [← HN.out] at hi;omega)⟩⟩,HBW.out⟩
end Go.Proofs.YtdacanghbepjpaaGreatDoor
namespace Go.Proofs.YtdacanghbepjpaaGreatDoor
open Go.RowKit Go.Maps
open Dsk
def mayB (k:Int):Bool:=k == 1 || k == 2 || k == 3 || k == 4 || k == 5 || k == 6 || k == 7 || k == 15 || k == 16 || k == 17
theorem mayB_iff (k:Int):mayB k=true↔MayK k:=by
 unfold mayB MayK
 simp [or_assoc]
theorem mayK_any (k:Int) (w:World):Calls Tryz.prog 44 #[.int .i64 k] w fun e w' => e=.returned (.bool (mayB k))∧w=w':=by
 by_cases h:MayK k
 · rw [(mayB_iff k).2 h]
   unfold MayK at h
   rcases h with rfl | rfl | rfl | rfl | rfl | rfl | rfl | rfl | rfl | rfl
   all_goals
    go_enter Tryz.func44,Tryz.ntmps44
    go_wp2_with fail
    go_ret
    exact ⟨rfl,rfl⟩
 have e:mayB k=false:=by
  cases hq:mayB k
  · rfl
  exact absurd ((mayB_iff k).1 hq) h
 rw [e]
 unfold MayK at h
 have t1:(k == 1)=false:=beq_eq_false_iff_ne.2 (by omega)
 have t2:(k == 2)=false:=beq_eq_false_iff_ne.2 (by omega)
 have t3:(k == 3)=false:=beq_eq_false_iff_ne.2 (by omega)
 have t4:(k == 4)=false:=beq_eq_false_iff_ne.2 (by omega)
 have t5:(k == 5)=false:=beq_eq_false_iff_ne.2 (by omega)
 have t6:(k == 6)=false:=beq_eq_false_iff_ne.2 (by omega)
 have t7:(k == 7)=false:=beq_eq_false_iff_ne.2 (by omega)
 have t15:(k == 15)=false:=beq_eq_false_iff_ne.2 (by omega)
 have t16:(k == 16)=false:=beq_eq_false_iff_ne.2 (by omega)
 have t17:(k == 17)=false:=beq_eq_false_iff_ne.2 (by omega)
 clear h e
 go_enter Tryz.func44,Tryz.ntmps44
 go_wp2_with fail
 go_ret
 exact ⟨rfl,rfl⟩
section
variable {o:Hs} {c k s:Nat} {a:OAct}
end
end Go.Proofs.YtdacanghbepjpaaGreatDoor
namespace Go.Proofs.YtdacanghbepjpaaGreatDoor
open Dsk
def x0E:Dm:=⟨0,0,0,noB,0,0⟩
theorem hv_rest:∃ d1 h1 s1 d2 x2 d3 s3 d4 x4 d5 x5,
  appP (Dk.new 10000) ⟨0,false,[]⟩ (spanD 1)=(0,h1,d1)∧NodeC d1 h1 s1 x0E [spanD 1] 10000 1 ∧
  stepC 0 d1 h1 x0E=((noB,0),x2,d2)∧NodeC d2 h1 s1 x2 [spanD 1] 10000 2∧x2.sent=0 ∧
  syncP d2 h1=(0,h1,d3)∧NodeC d3 h1 s3 x2 [spanD 1] 10000 3 ∧
  stepC 0 d3 h1 x2=((batchB 0 0 [spanD 1],0),x4,d4)∧NodeC d4 h1 s3 x4 [spanD 1] 10000 4∧x4.sent=0 ∧
  takeC (Po.ackS 0 0 1) d4 x4=((true,0),x5,d5)∧NodeC d5 h1 s3 x5 [spanD 1] 10000 5∧x5.sent=0∧x5.next=1∧x5.gap=0∧x5.host=0 ∧
  firstOf h1.l=0∧sureOf h1.l s3=1∧nextOf h1.l=1:=by
 have n0:=NodeC.new 0 (by decide) (c:=10000) (by decide) (by decide)
 obtain ⟨a1,a2,s1,n1,su1⟩:=n0.app (by omega) (by omega) (spanD 1) (spanD_may (by omega))
 obtain ⟨⟨r1,h1,d1⟩,hR1⟩:∃ R,R=appP (Dk.new 10000) ⟨0,false,[]⟩ (spanD 1):=⟨_,rfl⟩
 rw [← hR1] at a1 a2 n1
 simp only at a1 a2 n1
 subst a1
 have hl:h1.l=lsE 1:=a2
 have hs0:sureOf h1.l s1=0:=by rw [a2];exact su1
 have hf:firstOf h1.l=0:=by rw [hl];exact first_lsE (by omega)
 obtain ⟨_,_,d2,x2,b1,n2,b2,b3,b4,b5,b6⟩:=n1.step0 (by omega) (by omega) rfl 0 0 (by rw [hf];rfl)
 rw [hs0] at b6
 rcases b6 with ⟨_,b6,b7⟩ | ⟨b6,_⟩
 case inr => omega
 rw [b6] at b1
 obtain ⟨c1,c2,s3,n3,c3⟩:=n2.sync
 obtain ⟨⟨r3,h3,d3⟩,hR3⟩:∃ R,R=syncP d2 h1:=⟨_,rfl⟩
 rw [← hR3] at c1 c2 n3
 simp only at c1 c2 n3
 subst c1 c2
 have hs1:sureOf h3.l s3=1:=c3
 obtain ⟨_,_,d4,x4,e1,n4,e2,e3,e4,e5,e6⟩:=n3.step0 (by omega) (by omega) b6 0 0 (by rw [hf,b3];rfl)
 rw [hs1] at e6
 rcases e6 with ⟨e6,_⟩ | ⟨_,e6,e7,e8⟩
 · omega
 have hpg:pageL h3.l s3 0=[spanD 1]:=by rw [e8.is_];rfl
 rw [hpg] at e6 e7
 have f1:x4.host=0:=e2.trans b2
 have f2:x4.next=0:=e3
 have f3:x4.many=1:=e7
 have hx2h:x2.host=0:=b2
 rw [hx2h] at e6
 have e6':x4.out=batchB 0 0 [spanD 1]:=e6
 have f4:x4.out≠noB:=by rw [e6'];exact batchB_ne _ _ _
 have f5:x4.gap=0:=by rw [e4,b4,b3];rfl
 have k1:Po.decAck (Po.ackS 0 0 1)=some (0,0,1):=Po.decAck_ack (h:=0) (f:=0) (n:=1) ⟨by decide,by decide,by decide,by decide⟩
 rcases n4.take (by omega) (by omega) (Po.ackS 0 0 1) with ⟨e,_⟩ | ⟨_,e,_⟩ | ⟨_,_,d5,g1,n5⟩
 · rw [k1] at e;cases e
 · exact absurd ⟨f4,by rw [k1,f1,f2,f3];rfl⟩ e
 rw [f2,f3] at g1 n5
 rw [e6'] at e1
 have hnx:nextOf h3.l=1:=n5.next
 refine ⟨d1,h3,s1,d2,x2,d3,s3,d4,x4,d5,_,hR1.symm,n1,b1,n2,b5,hR3.symm,n3,e1,n4,e5,g1,n5,e5,rfl,f5,f1,hf,hs1,hnx⟩
end Go.Proofs.YtdacanghbepjpaaGreatDoor
namespace Go.Proofs.YtdacanghbepjpaaGreatDoor
open Go.RowKit Go.Maps
open Dsk
set_option maxHeartbeats 2000000 in
theorem spanH_any (n:Int) (w:World):Calls Tryz.prog 102 #[.int .i64 n] w fun e w' => e=.returned (spV (spanD n))∧Below w.heap.size w w':=by
 go_enter Tryz.func102,Tryz.ntmps102
 go_wp2_with fail
 have k:=Blk.alloc_new w 47 #[.int .i64 3,.int .i64 n,.int .i64 0,.string ⟨#[97]⟩,.string ⟨#[104]⟩,.int .i64 10,.int .i64 0,.string ⟨#[]⟩]
 have k0:=k.cell 0
 have k1:=k.cell 1
 have k2:=k.cell 2
 have k3:=k.cell 3
 have k4:=k.cell 4
 have k5:=k.cell 5
 have k6:=k.cell 6
 have k7:=k.cell 7
 simp only [Zx] at k0 k1 k2 k3 k4 k5 k6 k7
 refine bodyPost_ret (v:=.agg #[.int .i64 3,.int .i64 n,.int .i64 0,.string ⟨#[97]⟩,.string ⟨#[104]⟩,.int .i64 10,.int .i64 0,.string ⟨#[]⟩]) (by simp [results,Tryz.results102,go_sem,k0,k1,k2,k3,k4,k5,k6,k7]) rfl ⟨rfl,?_⟩
 exact (Below.refl _ _).alloc (Nat.le_refl _) _
def oN (d:Dk) (h:Hl) (x:Dm):Hs:=⟨0,0,0,true,d,h,x⟩
theorem oN_settle {d:Dk} {h:Hl} {x:Dm} (hd:d.off=false):(oN d h x).settle=oN d h x:=by
 unfold Hs.settle oN
 simp only [hd,Bool.not_false,Bool.and_true]
section
variable {w0 w w':World} {K:Nat→Prop} {jh bd j jx s B:Nat} {d d':Dk} {h h':Hl} {x x':Dm} {y:Sp.Span}
theorem oN_write (n:HE w0 w K jh bd j jx (oN d h x)) (he:LEnv w0) (f:Few d h s x) (h1:y.service.size≤maxLen) (h2:y.host.size≤maxLen) (h3:y.note.size≤maxLen) (hR:appP d h y=(0,h',d')) (hd:d'.off=false) :
  Calls Tryz.prog 62 #[.pointer (some ⟨jh,0,none⟩),spV y] w fun e w' => e=.returned (.int .i64 0)∧HE w0 w' K jh bd j jx (oN d' h' x)∧Keeps K w w':=by
 have hc:=ho_write n he y h1 h2 h3 (fun _ => ⟨f,Int.le_refl _,by show (0:Int)≤1000000;decide⟩)
 have e1:(appP (oN d h x).d (oN d h x).h y).1=0:=by show (appP d h y).1=0;rw [hR]
 have e2:wroteO (oN d h x) y=oN d' h' x:=by
  unfold wroteO
  show (⟨0,0,if (appP d h y).1=0 then 0 else 0+1,true,(appP d h y).2.2,(appP d h y).2.1,x⟩:Hs)=_
  rw [hR];rfl
 rw [HoR.up rfl,e1,e2,oN_settle hd] at hc
 exact hc
theorem oN_sync (n:HE w0 w K jh bd j jx (oN d h x)) (he:LEnv w0) (f:Few d h s x) (hR:syncP d h=(0,h',d')) (hd:d'.off=false) :
  Calls Tryz.prog 63 #[.pointer (some ⟨jh,0,none⟩)] w fun e w' => e=.returned (.int .i64 0)∧HE w0 w' K jh bd j jx (oN d' h' x)∧Keeps K w w':=by
 have hc:=ho_sync n he (fun _ => f)
 have e1:(syncP (oN d h x).d (oN d h x).h).1=0:=by show (syncP d h).1=0;rw [hR]
 have e2:({ oN d h x with d:=(syncP (oN d h x).d (oN d h x).h).2.2,h:=(syncP (oN d h x).d (oN d h x).h).2.1 }:Hs)=oN d' h' x:=by
  show (⟨0,0,0,true,(syncP d h).2.2,(syncP d h).2.1,x⟩:Hs)=_
  rw [hR];rfl
 rw [HoR.up rfl,e1,e2,oN_settle hd] at hc
 exact hc
theorem oN_step {b:ByteArray} (n:HE w0 w K jh bd j jx (oN d h x)) (he:LEnv w0) (f:Few d h s x) (hs:x.sent=0) (hR:stepC 0 d h x=((b,0),x',d')) (hd:d'.off=false) :
  Calls Tryz.prog 61 #[.pointer (some ⟨jh,0,none⟩)] w fun e w' => ∃ u,e=.returned (.tuple #[u,.int .i64 0])∧OwnMl w' w.heap.size u (if b=noB then [] else [⟨0,-1,b⟩])∧HE w0 w' (KU K u) jh bd j jx (oN d' h x')∧Keeps K w w':=by
 have hc:=ho_step n he (fun _ => ⟨f,⟨by show (-4611686018427387904:Int)≤0∧(0:Int)≤4611686018427387903;decide,by show -4611686018427387904≤x.sent∧x.sent≤4611686018427387903;omega⟩⟩) n.base.size
 have e0:stepR (oN d h x)=((sentO (oN d h x),(stepC 0 d h x).1.2),(stepO (oN d h x)).settle):=if_pos rfl
 have e1:sentO (oN d h x)=(if b=noB then [] else [⟨0,-1,b⟩]):=by
  unfold sentO
  show (if (stepC 0 d h x).1.1=noB then [] else [(⟨0,-1,(stepC 0 d h x).1.1⟩:Ml)])=_
  rw [hR]
 have e2:stepO (oN d h x)=oN d' h x':=by
  unfold stepO
  show (⟨0,0,0,true,(stepC 0 d h x).2.2,h,(stepC 0 d h x).2.1⟩:Hs)=_
  rw [hR];rfl
 rw [e0,e1,e2,oN_settle hd,hR] at hc
 exact hc
theorem oN_take {m:Ml} (n:HE w0 w K jh bd j jx (oN d h x)) (f:Few d h s x) (hm:m.data.size≤maxLen) (hto:m.to=0) (hR:takeC m.data.data.toList d x=((true,0),x',d')) (hd:d'.off=false) :
  Calls Tryz.prog 67 #[.pointer (some ⟨jh,0,none⟩),mlV m] w fun e w' => e=.returned (.int .i64 0)∧HE w0 w' K jh bd j jx (oN d' h x')∧Keeps K w w':=by
 have hc:=ho_take n m hm (fun _ => f)
 have e2:takeO m (oN d h x)=(0,oN d' h x'):=by
  unfold takeO
  rw [if_pos (show m.to=(oN d h x).id from hto)]
  show (((takeC m.data.data.toList d x).1.2,⟨0,0,0,true,(takeC m.data.data.toList d x).2.2,h,(takeC m.data.data.toList d x).2.1⟩):Int×Hs)=_
  rw [hR];rfl
 rw [HoR.up rfl,e2,oN_settle hd] at hc
 exact hc
end
theorem NodeC.hoI {d:Dk} {h:Hl} {s k c:Nat} {x:Dm} {Ls:List Sp.Span} {id:Int} (n:NodeC d h s x Ls c k) (hh:x.host=id):HoI d h s x id c k:=⟨n.node,hh,by have:=n.next;have:=n.many;omega,n.tot,n.len,n.room⟩
def K0 (w:World):Nat→Prop:=fun k => k<w.heap.size
set_option maxHeartbeats 16000000 in
theorem lives_h (w:World) (he:LEnv w):Calls Tryz.prog 42 #[] w fun e w' => e=.returned (.bool true)∧Below w.heap.size w w':=by
 obtain ⟨d1,h1,s1,d2,x2,d3,s3,d4,x4,d5,x5,a1,n1,a2,n2,a2s,a3,n3,a4,n4,a4s,a5,n5,a5s,x5n,x5g,x5h,f0,f1,f2⟩:=hv_rest
 have hnew:=ho_new 0 ⟨by decide,by decide⟩ 10000 (by decide) (by decide) w (w0:=w) (Below.refl _ _)
 have hcst:((10000:Nat):Int)=10000:=rfl
 rw [hcst] at hnew
 have HNEW:=Zh hnew
 have HEV:=Zh he
 -- the crash,and a new beginning
 have i5:HoI d5 h1 s3 x5 0 10000 5:=n5.hoI x5h
 obtain ⟨cr,hcr⟩:=i5.crash []
 have HCR:=Zh cr
 obtain ⟨d6,hd6⟩:∃ d6,d6=(d5.crash []).2:=⟨_,rfl⟩
 rw [← hd6] at hcr
 rcases hcr with ⟨e,s',i',_⟩ | ⟨hoff6,iD⟩
 · exfalso
   obtain ⟨l',t',fl,st⟩:=i5.node.run.crash []
   rw [← hd6] at fl
   rw [fl.off] at e
   cases e
 obtain ⟨o7,l7,t7,dr7,d7,s7,A7,b7,i7,u7,id7,m7,now7,ref7,nx7,gp7⟩:=HoD.begins (o:=⟨0,0,0,false,d6,h1,x5⟩) iD (by omega) (by decide) ⟨by show (0:Int)≤0;decide,by show (0:Int)≤((5+1:Nat):Int);decide⟩ ⟨by show (0:Int)≤0;decide,by show (0:Int)≤((5+1:Nat):Int);decide⟩ ⟨by show (0:Int)≤0;decide,by show (0:Int)<4;decide⟩
 have F0:=Zh (n1.few (by omega) (by omega))
 have F1:=Zh ((NodeC.new 0 (by decide) (c:=10000) (by decide) (by decide)).few (by omega) (by omega))
 have F2:=Zh (n2.few (by omega) (by omega))
 have F3:=Zh (n3.few (by omega) (by omega))
 have F4:=Zh (n4.few (by omega) (by omega))
 have F5:=Zh (n5.few (by omega) (by omega))
 have OFF:=Zh (show d1.off=false∧d2.off=false∧d3.off=false∧d4.off=false∧d5.off=false from ⟨n1.node.off,n2.node.off,n3.node.off,n4.node.off,n5.node.off⟩)
 have PL:=Zh (And.intro a1 (And.intro a2 (And.intro a3 (And.intro a4 a5))))
 have SN:=Zh (And.intro a2s (And.intro a4s a5s))
 have FN:=Zh (And.intro f0 (And.intro f1 f2))
 have XN:=Zh (And.intro x5n x5g)
 have HA7:=Zh A7
 have HU7:=Zh (And.intro u7 (And.intro (nx7.trans x5n) (gp7.trans x5g)))
 have HD6:=Zh (And.intro hd6 hoff6)
 clear hnew hcst he a1 a2 a3 a4 a5 n1 n2 n3 n4 n5 a2s a4s a5s f0 f1 f2 x5n x5g x5h A7 b7 i7 u7 id7 m7 now7 ref7 nx7 gp7 iD i5 cr hd6 hoff6
 go_enter Tryz.func42,Tryz.ntmps42
 go_wp2_with fail
 refine HNEW.out.mono ?_
 rintro e w1 ⟨jh,rfl,bd,j,jx,hn1,_⟩
 have HN1:=Zh (show HE w w1 (K0 w) jh bd j jx (oN (Dk.new 10000) ⟨0,false,[]⟩ x0E) from hn1)
 clear hn1 HNEW
 go_wp2_with fail
 refine (spanH_any 1 w1).mono ?_
 rintro e w2 ⟨rfl,hb2⟩
 have hw:=oN_write (y:=spanD 1) (HN1.out.below hb2) HEV.out F1.out (by show (⟨#[97]⟩:ByteArray).size≤maxLen;decide) (by show (⟨#[104]⟩:ByteArray).size≤maxLen;decide) (by show (⟨#[]⟩:ByteArray).size≤maxLen;decide) PL.out.1 OFF.out.1
 unfold spV spanD at hw ⊢
 simp only at hw ⊢
 have HC:=Zh hw
 clear hb2 hw HN1
 go_wp2_with fail
 refine HC.out.mono ?_
 rintro e w3 ⟨rfl,hn3,_⟩
 have HC3:=Zh (oN_step hn3 HEV.out F0.out rfl PL.out.2.1 OFF.out.2.1)
 clear hn3 HC
 go_wp2_with fail
 refine HC3.out.mono ?_
 rintro e w4 ⟨u,rfl,hu4,hn4,_⟩
 simp only [if_true] at hu4
 obtain ⟨ux,uc,hux⟩:=OwnRow.shape hu4
 simp only [List.length_nil] at hux
 subst hux
 have HC4:=Zh (oN_sync (hn4.drop fun k e => .inl e) HEV.out F2.out PL.out.2.2.1 OFF.out.2.2.1 (K:=K0 w))
 clear hu4 hn4 HC3
 go_wp2_with fail
 refine HC4.out.mono ?_
 rintro e w5 ⟨rfl,hn5,_⟩
 have HC5:=Zh (oN_step hn5 HEV.out F3.out SN.out.1 PL.out.2.2.2.1 OFF.out.2.2.2.1)
 clear hn5 HC4
 go_wp2_with fail
 refine HC5.out.mono ?_
 rintro e w6 ⟨u,rfl,hu6,hn6,_⟩
 rw [if_neg (batchB_ne _ _ _)] at hu6
 obtain ⟨ux,uc,hux⟩:=OwnRow.shape hu6
 simp only [List.length_singleton] at hux
 subst hux
 have HU6:=Zh hu6
 have HN6:=Zh (show HE w w6 (K0 w) jh bd j jx (oN d4 h1 x4) from hn6.drop fun k e => .inl e)
 have HAK:=Zh (encAck_any 0 0 1 w6)
 unfold ackV at HAK
 clear hu6 hn6 HC5
 go_wp2_with fail
 refine HAK.out.mono ?_
 rintro e w7 ⟨rfl,hb7⟩
 have hrd:=OwnRow.rd mlRow_len (OwnRow.below HU6.out hb7)
 obtain ⟨y9,c9,hy9,_,hel⟩:=hrd
 simp only [List.length_singleton] at hy9
 obtain ⟨rfl,rfl⟩:ux=y9∧uc=c9:=by injection hy9 with e1 e2 e3;exact ⟨e1,e3⟩
 obtain ⟨b9,o9,rfl,hb9,hcel⟩:=hel 0 (by simp)
 have c1:w7.cell? ⟨b9,o9+1,none⟩=some (.int .i64 (-1)):=by
  have:=hcel 1 (.int .i64 (-1)) (by simp [mlRow])
  rw [Nat.zero_mul,Nat.add_zero] at this
  exact this
 have hea:(encAck 0 0 1).1=ackB 0 0 1:=encAck_of ⟨by decide,by decide,by decide,by decide⟩
 have htk:=oN_take (m:=⟨-1,0,(encAck 0 0 1).1⟩) (HN6.out.below hb7) F4.out (by rw [hea];exact ackB_size ⟨by decide,by decide,by decide,by decide⟩) rfl (by rw [hea];exact PL.out.2.2.2.2) OFF.out.2.2.2.2
 unfold mlV mlRow at htk
 have HC7:=Zh htk
 clear hb7 hy9 hel hcel hea htk HAK HN6 HU6
 go_wp2_with fail
 refine HC7.out.mono ?_
 rintro e w8 ⟨rfl,hn8,_⟩
 have hcu:=ho_cursor hn8
 have ecu:curO (oN d5 h1 x5)=curV 1 0:=by
  unfold curO
  rw [if_pos (show (oN d5 h1 x5).up=true from rfl)]
  show curV x5.next x5.gap=_
  rw [XN.out.1,XN.out.2]
 rw [ecu] at hcu
 unfold curV at hcu
 have HC8:=Zh hcu
 have HN8:=Zh hn8
 clear hn8 hcu ecu HC7 c1
 go_wp2_with fail
 refine HC8.out.mono ?_
 rintro e w9 ⟨rfl,hb9⟩
 have hlg:=ho_log_up (HN8.out.below hb9) rfl HEV.out F5.out
 have elg:firstOf (oN d5 h1 x5).h.l=0∧sureOf (oN d5 h1 x5).h.l s3=1∧nextOf (oN d5 h1 x5).h.l=1:=FN.out
 rw [elg.1,elg.2.1,elg.2.2] at hlg
 have HC9:=Zh hlg
 have HN9:=Zh (HN8.out.below hb9)
 clear hb9 hlg elg HC8 HN8
 go_wp2_with fail
 refine HC9.out.mono ?_
 rintro e w10 ⟨rfl,hb10⟩
 have hcr:=ho_crash (HN9.out.below hb10) (.slice none 0 0) [] ⟨none,0,rfl,fun _ => rfl,fun j hj => absurd hj (by simp)⟩ (by simp)
 have ecr:HoR (oN d5 h1 x5) ((oN d5 h1 x5).d.crash []).1 { oN d5 h1 x5 with d:=((oN d5 h1 x5).d.crash []).2 }=(0,⟨0,0,0,false,d6,h1,x5⟩):=by
  rw [HoR.up rfl]
  show ((d5.crash []).1,(⟨0,0,0,true && !(d5.crash []).2.off,(d5.crash []).2,h1,x5⟩:Hs))=_
  rw [HCR.out,← HD6.out.1,HD6.out.2]
  rfl
 rw [ecr] at hcr
 have HC10:=Zh hcr
 clear hb10 hcr ecr HC9 HN9
 go_wp2_with fail
 refine HC10.out.mono ?_
 rintro e w11 ⟨rfl,hn11,_⟩
 have HN11:=Zh hn11
 clear hn11 HC10
 go_wp2_with fail
 refine (spanH_any 2 w11).mono ?_
 rintro e w12 ⟨rfl,hb12⟩
 have hwr:=ho_write (s:=0) (HN11.out.below hb12) HEV.out (spanD 2) (by show (⟨#[97]⟩:ByteArray).size≤maxLen;decide) (by show (⟨#[104]⟩:ByteArray).size≤maxLen;decide) (by show (⟨#[]⟩:ByteArray).size≤maxLen;decide) (fun e => by cases e)
 rw [HoR.no rfl] at hwr
 unfold spV spanD at hwr ⊢
 simp only at hwr ⊢
 have HC12:=Zh hwr
 clear hb12 hwr HN11
 go_wp2_with fail
 refine HC12.out.mono ?_
 rintro e w13 ⟨rfl,hn13,_⟩
 have HC13:=Zh (ho_up hn13)
 have HN13:=Zh hn13
 clear hn13 HC12
 go_wp2_with fail
 refine HC13.out.mono ?_
 rintro e w14 ⟨rfl,rfl⟩
 have hrs:=ho_restart HN13.out HEV.out rfl HA7.out.off HA7.out.start HA7.out.on HA7.out.files HA7.out.next HA7.out.opened HA7.out.dOff HA7.out.load ⟨by show (0:Int)≤0;decide,by show (0:Int)<4;decide⟩
 rw [← HA7.out.is] at hrs
 have HC14:=Zh hrs
 clear hrs HC13 HN13
 go_wp2_with fail
 refine HC14.out.mono ?_
 rintro e w15 ⟨rfl,j2,jx2,hn15,_⟩
 have hcu:=ho_cursor hn15
 have ecu:curO o7=curV 1 0:=by
  unfold curO
  rw [if_pos HU7.out.1,HU7.out.2.1,HU7.out.2.2]
 rw [ecu] at hcu
 unfold curV at hcu
 have HC15:=Zh hcu
 have HN15:=Zh hn15
 clear hn15 hcu ecu HC14
 go_wp2_with fail
 refine HC15.out.mono ?_
 rintro e w16 ⟨rfl,hb16⟩
 have HN16:=Zh (HN15.out.below hb16)
 have HC16:=Zh (ho_restart_up (HN15.out.below hb16) HU7.out.1)
 clear hb16 HC15 HN15
 go_wp2_with fail
 refine HC16.out.mono ?_
 rintro e w17 ⟨rfl,rfl⟩
 have HBF:=Zh HN16.out.base
 clear HC16 HN16
 go_wp2_with fail
 go_ret
 exact ⟨rfl,HBF.out⟩
end Go.Proofs.YtdacanghbepjpaaGreatDoor
