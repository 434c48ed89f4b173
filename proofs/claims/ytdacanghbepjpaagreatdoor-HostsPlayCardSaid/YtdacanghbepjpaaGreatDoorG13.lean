/- A twin in memory (spoorlaw25's twin): what its cells hold, what an act leaves. A twin opens its log and its daemon, begins anew: walked. -/
import Derived.Test.YtdacanghbepjpaaGreatDoorG12
set_option linter.unusedSimpArgs false
set_option linter.unusedVariables false
set_option maxRecDepth 100000
namespace Go.Proofs.YtdacanghbepjpaaGreatDoor
open Go.RowKit Go.Maps
open Dsk
def twV (o:Hs) (bd:Nat) (pl px:Option Addr):Array Value:=#[.int .i64 o.id,.int .i64 o.now,.int .i64 o.refused,.pointer (some ⟨bd,0,none⟩),.pointer pl,.pointer px,.bool o.up]
def TE (w0 W:World) (K:Nat→Prop) (jh bd j jx:Nat) (o:Hs):Prop :=
 ∃ P pl px,HN w0 P W bd j jx o∧Blk W jh 115 (twV o bd pl px)∧(o.up=true→pl=some ⟨j,0,none⟩∧px=some ⟨jx,0,none⟩)∧¬ P jh∧w0.heap.size≤jh∧∀ k,K k→¬ P k∧k<W.heap.size∧k≠jh
section
variable {w0 w w' w2:World} {P P' S K:Nat→Prop} {jh bd j jx:Nat} {o o':Hs} {c:FuncId} {args:Array Value} {E:Ending}
theorem TE.cells (n:TE w0 w K jh bd j jx o):∃ pl px,(o.up=true→pl=some ⟨j,0,none⟩∧px=some ⟨jx,0,none⟩)∧w.cell? ⟨jh,0,none⟩=some (.int .i64 o.id)∧w.cell? ⟨jh,1,none⟩=some (.int .i64 o.now)∧w.cell? ⟨jh,2,none⟩=some (.int .i64 o.refused)∧w.cell? ⟨jh,3,none⟩=some (.pointer (some ⟨bd,0,none⟩))∧w.cell? ⟨jh,4,none⟩=some (.pointer pl)∧w.cell? ⟨jh,5,none⟩=some (.pointer px)∧w.cell? ⟨jh,6,none⟩=some (.bool o.up):=by
 obtain ⟨P,pl,px,n,hb,hpp,_⟩:=n
 exact ⟨pl,px,hpp,hb.cell 0,hb.cell 1,hb.cell 2,hb.cell 3,hb.cell 4,hb.cell 5,hb.cell 6⟩
theorem TE.below (n:TE w0 w K jh bd j jx o) (y:Below w.heap.size w w'):TE w0 w' K jh bd j jx o:=by
 obtain ⟨P,pl,px,n,hb,hpp,h1,h2,hK⟩:=n
 exact ⟨P,pl,px,n.below y,hb.below y,hpp,h1,h2,fun k e => ⟨(hK k e).1,Nat.lt_of_lt_of_le (hK k e).2.1 y.size,(hK k e).2.2⟩⟩
theorem TE.add (n:TE w0 w K jh bd j jx o) (y:Below w.heap.size w w'):TE w0 w' (Also K w w') jh bd j jx o:=by
 obtain ⟨P,pl,px,n,hb,hpp,h1,h2,hK⟩:=n
 refine ⟨P,pl,px,n.below y,hb.below y,hpp,h1,h2,fun k e => ?_⟩
 rcases e with e | e
 · exact ⟨(hK k e).1,Nat.lt_of_lt_of_le (hK k e).2.1 y.size,(hK k e).2.2⟩
 exact ⟨fun e2 => by have:=n.lt k e2;omega,e.2,by have:=hb.lt;omega⟩
theorem TE.drop {K2:Nat→Prop} (n:TE w0 w K jh bd j jx o) (hK2:∀ k,K2 k→K k):TE w0 w K2 jh bd j jx o:=by
 obtain ⟨P,pl,px,n,hb,hpp,h1,h2,hK⟩:=n
 exact ⟨P,pl,px,n,hb,hpp,h1,h2,fun k e => hK k (hK2 k e)⟩
theorem TE.acted {d':Dk} {h':Hl} {x':Dm} (hK:TE w0 w K jh bd j jx o) (hu:o.up=true)
  (f:∀ P,NA w0 P w bd j jx o.d o.h o.x→Calls Tryz.prog c args w fun e w' => e=E∧Acted w0 P w bd j jx d' h' x' w') :
  Calls Tryz.prog c args w fun e w' => e=E∧TE w0 w' K jh bd j jx { o with d:=d',h:=h',x:=x' }∧Keeps K w w':=by
 obtain ⟨P,pl,px,n,hb,hpp,h1,h2,hK⟩:=hK
 refine (f P (n.1 hu)).mono ?_
 rintro e w' ⟨rfl,P',g,n',hc⟩
 refine ⟨rfl,⟨P',pl,px,⟨fun _ => n',n'.disk⟩,hb.chg hc h1,hpp,g.not hb.lt h1,h2,fun k e => ⟨g.not (hK k e).2.1 (hK k e).1,Nat.lt_of_lt_of_le (hK k e).2.1 hc.size,(hK k e).2.2⟩⟩,Chg.mono hc fun k _ e e2 => (hK k e2).1 e⟩
theorem TE.app {s:Nat} (n:TE w0 w K jh bd j jx o) (hu:o.up=true) (he:LEnv w0) (f:Few o.d o.h s o.x) (y:Sp.Span) (h1:y.service.size≤maxLen) (h2:y.host.size≤maxLen) (h3:y.note.size≤maxLen) :
  Calls Tryz.prog 20 #[.pointer (some ⟨j,0,none⟩),spV y] w fun e w' => e=.returned (.int .i64 (appP o.d o.h y).1)∧TE w0 w' K jh bd j jx { o with d:=(appP o.d o.h y).2.2,h:=(appP o.d o.h y).2.1 }∧Keeps K w w' :=
 n.acted hu fun P na => na.app he f.node f.next y h1 h2 h3
theorem TE.sync {s:Nat} (n:TE w0 w K jh bd j jx o) (hu:o.up=true) (he:LEnv w0) (f:Few o.d o.h s o.x) :
  Calls Tryz.prog 22 #[.pointer (some ⟨j,0,none⟩)] w fun e w' => e=.returned (.int .i64 (syncP o.d o.h).1)∧TE w0 w' K jh bd j jx { o with d:=(syncP o.d o.h).2.2,h:=(syncP o.d o.h).2.1 }∧Keeps K w w' :=
 n.acted hu fun P na => na.sync he f.node f.next
theorem TE.rot {s:Nat} (n:TE w0 w K jh bd j jx o) (hu:o.up=true) (he:LEnv w0) (f:Few o.d o.h s o.x) :
  Calls Tryz.prog 89 #[.pointer (some ⟨j,0,none⟩)] w fun e w' => e=.returned (.int .i64 (rotP o.d o.h).1)∧TE w0 w' K jh bd j jx { o with d:=(rotP o.d o.h).2.2,h:=(rotP o.d o.h).2.1 }∧Keeps K w w' :=
 n.acted hu fun P na => na.rot he f.node f.next
theorem TE.ret {s:Nat} (n:TE w0 w K jh bd j jx o) (hu:o.up=true) (he:LEnv w0) (f:Few o.d o.h s o.x) (m:Int) :
  Calls Tryz.prog 90 #[.pointer (some ⟨j,0,none⟩),.int .i64 m] w fun e w' => e=.returned (.int .i64 (retP m o.d o.h).1)∧TE w0 w' K jh bd j jx { o with d:=(retP m o.d o.h).2.2,h:=(retP m o.d o.h).2.1 }∧Keeps K w w' :=
 n.acted hu fun P na => na.ret he f.node f.next m
theorem TE.step {s:Nat} (n:TE w0 w K jh bd j jx o) (hu:o.up=true) (he:LEnv w0) (f:Few o.d o.h s o.x) (now:Int) (ho:NowB now o.x.sent) :
  Calls Tryz.prog 14 #[.pointer (some ⟨jx,0,none⟩),.int .i64 now] w fun e w' => e=.returned (.tuple #[.string (stepC now o.d o.h o.x).1.1,.int .i64 (stepC now o.d o.h o.x).1.2])∧TE w0 w' K jh bd j jx { o with d:=(stepC now o.d o.h o.x).2.2,x:=(stepC now o.d o.h o.x).2.1 }∧Keeps K w w' :=
 n.acted hu fun P na => na.step he f.node f.next f.len f.room now ho
theorem TE.take {s:Nat} (n:TE w0 w K jh bd j jx o) (hu:o.up=true) (f:Few o.d o.h s o.x) (b:ByteArray) (hb:b.size≤maxLen) :
  Calls Tryz.prog 15 #[.pointer (some ⟨jx,0,none⟩),.string b] w fun e w' => e=.returned (.tuple #[.bool (takeC b.data.toList o.d o.x).1.1,.int .i64 (takeC b.data.toList o.d o.x).1.2])∧TE w0 w' K jh bd j jx { o with d:=(takeC b.data.toList o.d o.x).2.2,x:=(takeC b.data.toList o.d o.x).2.1 }∧Keeps K w w' :=
 n.acted hu fun P na => na.take f.node f.next b hb
theorem TE.crash (n:TE w0 w K jh bd j jx o) (hu:o.up=true) (kv:Value) (keep:List Int) (hk:KeepR w (fun k => w0.heap.size≤k) kv keep) (hkl:keep.length≤1000000) :
  Calls Tryz.prog 120 #[.pointer (some ⟨bd,0,none⟩),kv] w fun e w' => e=.returned (.int .i64 (o.d.crash keep).1)∧TE w0 w' K jh bd j jx { o with d:=(o.d.crash keep).2 }∧Keeps K w w' :=
 n.acted hu fun P na => na.crash kv keep hk hkl
theorem TE.failAt (n:TE w0 w K jh bd j jx o) (hu:o.up=true) (m:Int) (hm:m≤9223372036854775807) (kv:Value) (keep:List Int) (hk:KeepR w (fun k => w0.heap.size≤k) kv keep) (hkl:keep.length≤1000000) :
  Calls Tryz.prog 34 #[.pointer (some ⟨bd,0,none⟩),.int .i64 m,kv] w fun e w' => e=.returned (.int .i64 (o.d.failAt m keep).1)∧TE w0 w' K jh bd j jx { o with d:=(o.d.failAt m keep).2 }∧Keeps K w w' :=
 n.acted hu fun P na => na.failAt m hm kv keep hk hkl
theorem TE.isUp (n:TE w0 w K jh bd j jx o):Calls Tryz.prog 37 #[.pointer (some ⟨bd,0,none⟩)] w fun e w' => e=.returned (.bool (!o.d.off))∧w=w':=by
 obtain ⟨P,pl,px,n,_⟩:=n
 exact n.2.up
theorem TE.first {s:Nat} (n:TE w0 w K jh bd j jx o) (hu:o.up=true) (f:Few o.d o.h s o.x):Calls Tryz.prog 26 #[.pointer (some ⟨j,0,none⟩)] w fun e w' => e=.returned (.int .i64 (firstOf o.h.l:Nat))∧Below w.heap.size w w':=by
 obtain ⟨P,pl,px,n,_⟩:=n
 exact (n.1 hu).first f.node f.next
theorem TE.sure {s:Nat} (n:TE w0 w K jh bd j jx o) (hu:o.up=true) (he:LEnv w0) (f:Few o.d o.h s o.x):Calls Tryz.prog 27 #[.pointer (some ⟨j,0,none⟩)] w fun e w' => e=.returned (.int .i64 (sureOf o.h.l s:Nat))∧Below w.heap.size w w':=by
 obtain ⟨P,pl,px,n,_⟩:=n
 exact (n.1 hu).sure he f.node f.next
theorem TE.end_ {s:Nat} (n:TE w0 w K jh bd j jx o) (hu:o.up=true) (f:Few o.d o.h s o.x):Calls Tryz.prog 30 #[.pointer (some ⟨j,0,none⟩)] w fun e w' => e=.returned (.int .i64 (nextOf o.h.l:Nat))∧Below w.heap.size w w':=by
 obtain ⟨P,pl,px,n,_⟩:=n
 exact (n.1 hu).end_ f.node f.next
theorem TE.cursor (n:TE w0 w K jh bd j jx o) (hu:o.up=true):Calls Tryz.prog 16 #[.pointer (some ⟨jx,0,none⟩)] w fun e w' => e=.returned (curV o.x.next o.x.gap)∧Below w.heap.size w w':=by
 obtain ⟨P,pl,px,n,_⟩:=n
 exact (n.1 hu).cursor
theorem TE.waiting (n:TE w0 w K jh bd j jx o) (hu:o.up=true):Calls Tryz.prog 17 #[.pointer (some ⟨jx,0,none⟩)] w fun e w' => e=.returned (.bool (!o.x.out.toList.isEmpty))∧w=w':=by
 obtain ⟨P,pl,px,n,_⟩:=n
 exact (n.1 hu).waiting
theorem TE.set {v:Value} {i:Nat} (n:TE w0 w K jh bd j jx o) (hv:∀ pl px,(twV o bd pl px).setIfInBounds i v=twV o' bd pl px) (hu:o'.up=true→o.up=true) (hd:o'.d=o.d∧o'.h=o.h∧o'.x=o.x) :
  TE w0 (w.setCell ⟨jh,i,none⟩ v) K jh bd j jx o'∧Keeps K w (w.setCell ⟨jh,i,none⟩ v):=by
 obtain ⟨P,pl,px,n,hb,hpp,h1,h2,hK⟩:=n
 have hc:Chg (fun k => k=jh) w (w.setCell ⟨jh,i,none⟩ v):=(Chg.refl (fun k => k=jh) w).setCell (p:=⟨jh,i,none⟩) (fun _ => rfl) v
 have n':=n.other hc fun k _ e => ⟨e ▸ h2,e ▸ h1⟩
 refine ⟨⟨P,pl,px,⟨fun e => ?_,?_⟩,by rw [← hv];exact hb.set i v,fun e => hpp (hu e),h1,h2,fun k e => ⟨(hK k e).1,Nat.lt_of_lt_of_le (hK k e).2.1 hc.size,(hK k e).2.2⟩⟩,Chg.mono hc fun k _ e e2 => (hK k e2).2.2 e⟩
 · rw [hd.1,hd.2.1,hd.2.2];exact n'.1 (hu e)
 rw [hd.1];exact n'.2
end
end Go.Proofs.YtdacanghbepjpaaGreatDoor
namespace Go.Proofs.YtdacanghbepjpaaGreatDoor
open Go.RowKit Go.Maps
open Dsk
section
variable {w0 w w':World} {P S K:Nat→Prop} {jh bd j jx b1 b2 s:Nat} {o:Hs} {d d':Dk} {h':Hl} {id now refused:Int} {a b:Int}
theorem tw_opens {u1 u2:Option Addr} {up0:Bool} (n:DA w0 P w bd d) (hk:Blk w jh 115 #[.int .i64 id,.int .i64 now,.int .i64 refused,.pointer (some ⟨bd,0,none⟩),.pointer u1,.pointer u2,.bool up0]) (ho:¬ P jh) (hn:w0.heap.size≤jh)
  (HO:Calls Tryz.prog 101 #[.pointer (some ⟨bd,0,none⟩)] w fun e w' => ∃ j',e=.returned (.tuple #[.pointer (some ⟨j',0,none⟩),.int .i64 0])∧∃ P',Gr P P' w∧LA w0 P' w' bd j' d' h'∧Chg P w w') (hh:Po.HostOk id) (hl:loadD d'=((a,b),0)) :
  Calls Tryz.prog 58 #[.pointer (some ⟨jh,0,none⟩)] w fun e w' => e=.returned (.int .i64 0)∧∃ j jx P',Gr P P' w∧HN w0 P' w' bd j jx ⟨id,now,refused,true,d',h',⟨id,a,b,noB,0,0⟩⟩∧Blk w' jh 115 (twV ⟨id,now,refused,true,d',h',⟨id,a,b,noB,0,0⟩⟩ bd (some ⟨j,0,none⟩) (some ⟨jx,0,none⟩))∧¬ P' jh∧Chg (fun k => P k∨k=jh) w w':=by
 have HOP:=Zh HO
 have k3:=hk.cell 3
 simp only [Zx] at k3
 have HK:=Zh hk
 clear HO n hk
 go_enter Tryz.func58,Tryz.ntmps58
 go_wp2_with fail
 refine HOP.out.mono ?_
 rintro e w1 ⟨j1,rfl,P1,hg1,hla,hc1⟩
 have hk1:=HK.out.chg hc1 ho
 have ho1:=hg1.not HK.out.lt ho
 have hld:(loadD d').2=0:=by rw [hl]
 obtain ⟨x1,hx1⟩:∃ y,y=w1.drew:=⟨_,rfl⟩
 have HBX:=Zh (Zd hx1)
 have HDO:=Zh ((hla.below HBX.out).daemon id hh hld)
 rw [hl] at HDO
 have HK1:=Zh hk1
 have HG1:=Zh hg1
 have HC1:=Zh hc1
 have HO1:=Zh ho1
 have HHO:=Zh ho
 have HNW:=Zh hn
 have HTT:=Zh (fun (W:World) (hW:Below w1.heap.size w1 W) => show W.cell? ⟨jh,0,none⟩=some (.int .i64 id)∧W.cell? ⟨jh,3,none⟩=some (.pointer (some ⟨bd,0,none⟩)) from ⟨(HK1.out.below hW).cell 0,(HK1.out.below hW).cell 3⟩)
 have hT:=HTT.out x1 HBX.out
 have hS:True:=trivial
 clear HOP hk1 hg1 hla hc1 hld hl ho1 ho k3 hn
 go_wp2_with fail
 refine wp_region_two (T:=fun W => W.cell? ⟨jh,0,none⟩=some (.int .i64 id)∧W.cell? ⟨jh,3,none⟩=some (.pointer (some ⟨bd,0,none⟩))) (S:=fun _ => True) (n:=99) (by kernel_rfl) ?_
 rw [← hx1]
 clear hx1
 refine tk 0 18 hT hS ?_
 refine tk 1 19 hT hS ?_
 try simp only [xq]
 refine tk 2 20 hT hS ?_
 refine tk 3 21 hT hS ?_
 try simp only [xq]
 refine tk 4 22 hT hS ?_
 refine tk 5 23 hT hS ?_
 try simp only [xq]
 refine tk 6 24 hT hS ?_
 refine tk 7 25 hT hS ?_
 try simp only [xq]
 refine tk 8 26 hT hS ?_
 try simp only [xq]
 refine two_one 9 rfl (by kernel_rfl) ?_
 intro K0 hK0
 go_simp
 refine HDO.out.mono ?_
 rintro e w2 ⟨jx,rfl,hq,hna,hb2⟩
 have hb12:Below w1.heap.size w1 w2:=HBX.out.trans (hb2.mono HBX.out.size)
 have hT3:=HTT.out w2 hb12
 refine hK0.out _ _ hT3 (fun _ _ => hS) ?_
 clear hK0 K0
 try simp only [xq]
 clear hT
 have hT:=hT3
 clear hT3
 refine tk 10 17 hT hS ?_
 refine tk 11 28 hT hS ?_
 try simp only [xq]
 refine tk 12 29 hT hS ?_
 refine tk 13 5 hT hS ?_
 try simp only [xq]
 refine tk 14 4 hT hS ?_
 try simp only [xq]
 refine two_done (by kernel_rfl) ?_ _
 clear hT
 have hk2:=HK1.out.below hb12
 have f4:=hk2.free 4
 have f5:=hk2.free 5
 have f6:=hk2.free 6
 have c4:=hk2.cell 4
 have c5:=hk2.cell 5
 have c6:=hk2.cell 6
 simp only [Zx] at c4 c5 c6
 have hk3:=((hk2.set 4 (.pointer (some ⟨j1,0,none⟩))).set 5 (.pointer (some ⟨jx,0,none⟩))).set 6 (.bool true)
 simp only [List.setIfInBounds_toArray,List.set_cons_zero,List.set_cons_succ] at hk3
 have hc3:Chg (fun k => k=jh) w2 (((w2.setCell ⟨jh,4,none⟩ (.pointer (some ⟨j1,0,none⟩))).setCell ⟨jh,5,none⟩ (.pointer (some ⟨jx,0,none⟩))).setCell ⟨jh,6,none⟩ (.bool true)):=(((Chg.refl (fun k => k=jh) w2).setCell (p:=⟨jh,_,none⟩) (fun _ => rfl) _).setCell (p:=⟨jh,_,none⟩) (fun _ => rfl) _).setCell (p:=⟨jh,_,none⟩) (fun _ => rfl) _
 have hjn:¬ (P1 jh∨jh=jx):=fun e => e.elim HO1.out fun e => by have:=HK1.out.lt;have:=HBX.out.size;omega
 have hna3:=hna.other hc3 (by rintro k _ rfl;exact ⟨HNW.out,hjn⟩)
 have HND:=Zh (show HN w0 _ _ bd j1 jx ⟨id,now,refused,true,d',h',⟨id,a,b,noB,0,0⟩⟩ from ⟨fun _ => hna3,hna3.disk⟩)
 have HBK:=Zh (show Blk _ jh 115 (twV ⟨id,now,refused,true,d',h',⟨id,a,b,noB,0,0⟩⟩ bd (some ⟨j1,0,none⟩) (some ⟨jx,0,none⟩)) from hk3)
 have HJN:=Zh hjn
 have HCH:=Zh (show Chg (fun k => P k∨k=jh) w _ from Chg.thenOn (Chg.thenOn (Chg.mono HC1.out fun _ _ e => .inl e) (Chg.of_below (S:=fun _ => False) hb12) (fun _ _ e => e.elim)) hc3 fun i _ e => .inr e)
 have HGR:=Zh (show Gr P (fun k => P1 k∨k=jx) w from fun k e => by
  rcases e with e | e
  · exact HG1.out k e
  have:=HC1.out.size;have:=HBX.out.size;exact .inr (by omega))
 clear hna hna3 hb2 hb12 hk2 hk3 hc3 hjn HK1 HDO HG1 HC1 HO1 HHO HK hq HTT HBX
 go_wp2_with fail
 go_ret
 exact ⟨rfl,j1,jx,_,HGR.out,HND.out,HBK.out,HJN.out,HCH.out⟩
theorem tw_restart {l:List Sg} {t:Str} {dr:Files} {d3:Dk} {s9:Nat} (n:TE w0 w K jh bd j jx o) (he:LEnv w0) (hu:o.up=false) (hoff:o.d.off=true) (hs1:o.d.start.1=0) (hs2:o.d.start.2.off=false) (hls:LSt o.d.start.2 l t s9 dr) (hnx:nextOf l≤999999999) (hop:openP o.d.start.2 l t=(0,d3)) (hd3:d3.off=false) (hl:loadD d3=((a,b),0)) (hh:Po.HostOk o.id) :
  Calls Tryz.prog 110 #[.pointer (some ⟨jh,0,none⟩)] w fun e w' => e=.returned (.int .i64 0)∧∃ j jx,TE w0 w' K jh bd j jx ⟨o.id,o.now,o.refused,true,d3,⟨o.d.start.2.starts,false,l⟩,⟨o.id,a,b,noB,0,0⟩⟩∧Keeps K w w':=by
 have HUP:=Zh n.isUp
 rw [hoff] at HUP
 obtain ⟨P,pl,px,⟨_,hda⟩,hbk,hpp,hp1,hp2,hK⟩:=n
 have k3:=hbk.cell 3
 have k6:=hbk.cell 6
 rw [twV,hu] at hbk k3 k6
 simp only [Zx] at k3 k6
 have HSR:=Zh hda.start
 rw [hs1] at HSR
 have HBK:=Zh hbk
 have HP1:=Zh hp1
 have HP2:=Zh hp2
 have HKK:=Zh hK
 have HA:=Zh (And.intro hs2 (And.intro hls (And.intro hnx (And.intro hop (And.intro hd3 (And.intro hl hh))))))
 have HEV:=Zh he
 clear hda hbk hp1 hp2 hK hs1 hs2 hls hnx hop hd3 hl hh hoff he
 go_enter Tryz.func110,Tryz.ntmps110
 go_wp2_with fail
 refine HUP.out.mono ?_
 rintro e w1 ⟨rfl,rfl⟩
 clear HUP
 go_wp2_with fail
 refine HSR.out.mono ?_
 rintro e w2 ⟨rfl,P2,hg2,hd2,hc2⟩
 clear HSR k3 k6 hpp
 obtain ⟨hs2,hls,hnx,hop,hd3,hl,hh⟩:=HA.out
 have hk2:=HBK.out.chg hc2 HP1.out
 have hopen:=hd2.opened HEV.out hs2 hls hnx (by rw [hop])
 rw [hop] at hopen
 have HSS:=Zh (tw_opens (id:=o.id) (now:=o.now) (refused:=o.refused) hd2 hk2 (hg2.not HBK.out.lt HP1.out) HP2.out hopen hh hl)
 have HG2:=Zh hg2
 have HC2:=Zh hc2
 have HD3:=Zh hd3
 clear hg2 hd2 hc2 hk2 hopen hs2 hls hnx hop hd3 hl hh HA
 go_wp2_with fail
 refine HSS.out.mono ?_
 rintro e w3 ⟨rfl,j3,jx3,P3,hg3,hn3,hk3,hp3,hc3⟩
 have hgr:=HG2.out.trans HC2.out.size hg3
 have hall:Keeps K w w3:=Chg.thenOn (Chg.mono HC2.out fun k _ e e2 => (HKK.out k e2).1 e) hc3 fun i hi e e2 => by
  rcases e with e | e
  · rcases HG2.out i e with e | e
    · exact (HKK.out i e2).1 e
    have:=(HKK.out i e2).2.1;omega
  exact (HKK.out i e2).2.2 e
 have hsz:w.heap.size≤w3.heap.size:=hall.size
 have hhe:TE w0 w3 K jh bd j3 jx3 ⟨o.id,o.now,o.refused,true,_,_,_⟩:=⟨P3,_,_,hn3,hk3,fun _ => ⟨rfl,rfl⟩,hp3,HP2.out,fun k e => ⟨fun e2 => by
  rcases hgr k e2 with e3 | e3
  · exact (HKK.out k e).1 e3
  have:=(HKK.out k e).2.1;omega,Nat.lt_of_lt_of_le (HKK.out k e).2.1 hsz,(HKK.out k e).2.2⟩⟩
 have HH:=Zh (show ∃ j jx,TE w0 w3 K jh bd j jx ⟨o.id,o.now,o.refused,true,d3,⟨o.d.start.2.starts,false,l⟩,⟨o.id,a,b,noB,0,0⟩⟩∧Keeps K w w3 from ⟨j3,jx3,hhe,hall⟩)
 clear hg3 hn3 hk3 hp3 hc3 hgr hall hhe HSS HG2 HC2 hsz
 go_wp2_with fail
 go_ret
 exact ⟨rfl,HH.out⟩
theorem tw_restart_up (n:TE w0 w K jh bd j jx o) (hu:o.up=true):Calls Tryz.prog 110 #[.pointer (some ⟨jh,0,none⟩)] w fun e w' => e=.returned (.int .i64 250)∧w=w':=by
 obtain ⟨pl,px,_,k0,k1,k2,k3,k4,k5,k6⟩:=n.cells
 rw [hu] at k6
 clear n hu
 go_enter Tryz.func110,Tryz.ntmps110
 go_wp2_with fail
 go_ret
 exact ⟨rfl,rfl⟩
end
end Go.Proofs.YtdacanghbepjpaaGreatDoor
namespace Go.Proofs.YtdacanghbepjpaaGreatDoor
open Go.RowKit Go.Maps
open Dsk
theorem tw_head {w0 w:World} {K:Nat→Prop} {jh bd j jx:Nat} {o:Hs} (n:TE w0 w K jh bd j jx o) (A B:Array Value):∃ q1 w1 q2 w2,RowKit.Hid (q1=w.heap.size)∧RowKit.Hid (w1=w.alloc (.cells A 93 (0,0)))∧RowKit.Hid (q2=w1.heap.size)∧RowKit.Hid (w2=w1.alloc (.cells B 100 (0,0)))∧RowKit.Hid (TE w0 w2 (Also K w w2) jh bd j jx o)∧RowKit.Hid (Below w.heap.size w w2)∧RowKit.Hid (Bx w2 (Also K w w2) q1 93 A)∧RowKit.Hid (Bx w2 (Also K w w2) q2 100 B):=by
 obtain ⟨q1,hq1⟩:∃ q,q=w.heap.size:=⟨_,rfl⟩
 obtain ⟨w1,hw1⟩:∃ y,y=w.alloc (.cells A 93 (0,0)):=⟨_,rfl⟩
 have hb1:=Zb hw1
 have hk1:=Zk hw1 hq1
 obtain ⟨q2,hq2⟩:∃ q,q=w1.heap.size:=⟨_,rfl⟩
 obtain ⟨w2,hw2⟩:∃ y,y=w1.alloc (.cells B 100 (0,0)):=⟨_,rfl⟩
 have hb2:=Zb hw2
 have hk2:=Zk hw2 hq2
 have hb12:Below w.heap.size w w2:=hb1.trans (hb2.mono hb1.size)
 exact ⟨q1,w1,q2,w2,hq1,hw1,hq2,hw2,n.add hb12,hb12,⟨hk1.below hb2,.inr ⟨by omega,by have:=hk1.lt;have:=hb2.size;omega⟩⟩,hk2,.inr ⟨by have:=hb1.size;omega,hk2.lt⟩⟩
section
variable {w0 w w':World} {P S K:Nat→Prop} {jh bd j jx s:Nat} {o:Hs}
variable {nd nn zt zi zp za zd mf mt:Int} {zs zh zn md:ByteArray} {kx:Option Addr} {kl kc:Nat} {keep:List Int}
theorem act_2 (n:TE w0 w K jh bd j jx o) (hu:o.up=true) (he:LEnv w0) (f:Few o.d o.h s o.x) :
  Calls Tryz.prog 111 #[.pointer (some ⟨jh,0,none⟩),.agg #[.int .i64 2,.int .i64 nd,.int .i64 nn,.int .i64 zt,.int .i64 zi,.int .i64 zp,.string zs,.string zh,.int .i64 za,.int .i64 zd,.string zn,.slice kx kl kc],.agg #[.int .i64 mf,.int .i64 mt,.string md]] w fun e w2 => e=.returned (.tuple #[.string ⟨#[]⟩,.int .i64 (syncP o.d o.h).1])∧TE w0 w2 K jh bd j jx { o with d:=(syncP o.d o.h).2.2,h:=(syncP o.d o.h).2.1 }∧Keeps K w w2:=by
 obtain ⟨q1,w1,q2,w2,HQ1,HW1,HQ2,HW2,HN,HB,X1,X2⟩:=tw_head n #[.int .i64 2,.int .i64 nd,.int .i64 nn,.int .i64 zt,.int .i64 zi,.int .i64 zp,.string zs,.string zh,.int .i64 za,.int .i64 zd,.string zn,.slice kx kl kc] #[.int .i64 mf,.int .i64 mt,.string md]
 clear n
 obtain ⟨R,hR⟩:∃ R,R=syncP o.d o.h:=⟨_,rfl⟩
 have HC:=Zh (HN.out.sync hu he f)
 rw [← hR] at HC ⊢
 clear hR
 have HQ3:=Zh (show q1+1=q2 by rw [HQ2.out,HW1.out,HQ1.out];exact (Array.size_push _).symm)
 obtain ⟨pl,px,hpp,c0,c1,c2,c3,c4,c5,c6⟩:=HN.out.cells
 obtain ⟨rfl,rfl⟩:=hpp hu
 rw [hu] at c6
 have z0:=X1.out.blk.cell 0
 simp only [Zx] at z0
 have HU:=Zh hu
 clear hpp hu f
 go_enter Tryz.func111,Tryz.ntmps111
 refine wp_seq_k fun L0 hL0 => ?_
 have HL0:=Zh hL0
 clear hL0
 go_wp2_with fail
 rw [← HW1.out,← HW2.out,← HQ1.out,HQ3.out]
 refine HL0.out _ _ ?_
 clear HL0 HW1 HW2 HQ1 HQ2 HQ3
 go_wp2_with fail
 refine HC.out.mono ?_
 rintro e w3 ⟨rfl,hn3,hk3⟩
 have HH:=Zh (And.intro (hn3.drop (K2:=K) fun k e => .inl e) ((Keeps.below HB.out).trans (Chg.mono hk3 fun k _ e e2 => e (.inl e2):Keeps K w2 w3)))
 clear hn3 hk3 HC
 go_wp2_with fail
 refine bodyPost_ret (v:=.tuple #[.string ⟨#[]⟩,.int .i64 R.1]) (by simp [results,Tryz.results111,go_sem]) rfl ?_
 exact ⟨rfl,HH.out⟩
theorem act_3 (n:TE w0 w K jh bd j jx o) (hu:o.up=true) (he:LEnv w0) (f:Few o.d o.h s o.x) :
  Calls Tryz.prog 111 #[.pointer (some ⟨jh,0,none⟩),.agg #[.int .i64 3,.int .i64 nd,.int .i64 nn,.int .i64 zt,.int .i64 zi,.int .i64 zp,.string zs,.string zh,.int .i64 za,.int .i64 zd,.string zn,.slice kx kl kc],.agg #[.int .i64 mf,.int .i64 mt,.string md]] w fun e w2 => e=.returned (.tuple #[.string ⟨#[]⟩,.int .i64 (rotP o.d o.h).1])∧TE w0 w2 K jh bd j jx { o with d:=(rotP o.d o.h).2.2,h:=(rotP o.d o.h).2.1 }∧Keeps K w w2:=by
 obtain ⟨q1,w1,q2,w2,HQ1,HW1,HQ2,HW2,HN,HB,X1,X2⟩:=tw_head n #[.int .i64 3,.int .i64 nd,.int .i64 nn,.int .i64 zt,.int .i64 zi,.int .i64 zp,.string zs,.string zh,.int .i64 za,.int .i64 zd,.string zn,.slice kx kl kc] #[.int .i64 mf,.int .i64 mt,.string md]
 clear n
 obtain ⟨R,hR⟩:∃ R,R=rotP o.d o.h:=⟨_,rfl⟩
 have HC:=Zh (HN.out.rot hu he f)
 rw [← hR] at HC ⊢
 clear hR
 have HQ3:=Zh (show q1+1=q2 by rw [HQ2.out,HW1.out,HQ1.out];exact (Array.size_push _).symm)
 obtain ⟨pl,px,hpp,c0,c1,c2,c3,c4,c5,c6⟩:=HN.out.cells
 obtain ⟨rfl,rfl⟩:=hpp hu
 rw [hu] at c6
 have z0:=X1.out.blk.cell 0
 simp only [Zx] at z0
 have HU:=Zh hu
 clear hpp hu f
 go_enter Tryz.func111,Tryz.ntmps111
 refine wp_seq_k fun L0 hL0 => ?_
 have HL0:=Zh hL0
 clear hL0
 go_wp2_with fail
 rw [← HW1.out,← HW2.out,← HQ1.out,HQ3.out]
 refine HL0.out _ _ ?_
 clear HL0 HW1 HW2 HQ1 HQ2 HQ3
 go_wp2_with fail
 refine HC.out.mono ?_
 rintro e w3 ⟨rfl,hn3,hk3⟩
 have HH:=Zh (And.intro (hn3.drop (K2:=K) fun k e => .inl e) ((Keeps.below HB.out).trans (Chg.mono hk3 fun k _ e e2 => e (.inl e2):Keeps K w2 w3)))
 clear hn3 hk3 HC
 go_wp2_with fail
 refine bodyPost_ret (v:=.tuple #[.string ⟨#[]⟩,.int .i64 R.1]) (by simp [results,Tryz.results111,go_sem]) rfl ?_
 exact ⟨rfl,HH.out⟩
theorem act_4 (n:TE w0 w K jh bd j jx o) (hu:o.up=true) (he:LEnv w0) (f:Few o.d o.h s o.x) :
  Calls Tryz.prog 111 #[.pointer (some ⟨jh,0,none⟩),.agg #[.int .i64 4,.int .i64 nd,.int .i64 nn,.int .i64 zt,.int .i64 zi,.int .i64 zp,.string zs,.string zh,.int .i64 za,.int .i64 zd,.string zn,.slice kx kl kc],.agg #[.int .i64 mf,.int .i64 mt,.string md]] w fun e w2 => e=.returned (.tuple #[.string ⟨#[]⟩,.int .i64 (retP nn o.d o.h).1])∧TE w0 w2 K jh bd j jx { o with d:=(retP nn o.d o.h).2.2,h:=(retP nn o.d o.h).2.1 }∧Keeps K w w2:=by
 obtain ⟨q1,w1,q2,w2,HQ1,HW1,HQ2,HW2,HN,HB,X1,X2⟩:=tw_head n #[.int .i64 4,.int .i64 nd,.int .i64 nn,.int .i64 zt,.int .i64 zi,.int .i64 zp,.string zs,.string zh,.int .i64 za,.int .i64 zd,.string zn,.slice kx kl kc] #[.int .i64 mf,.int .i64 mt,.string md]
 clear n
 obtain ⟨R,hR⟩:∃ R,R=retP nn o.d o.h:=⟨_,rfl⟩
 obtain ⟨x3,hx3⟩:∃ y,y=w2.drew:=⟨_,rfl⟩
 have HBX:=Zh (Zd hx3)
 have HNX:=Zh (HN.out.below HBX.out)
 have hcel:∀ (W:World) (o':Hs),TE w0 W (Also K w w2) jh bd j jx o'→o'.up=true→W.cell? ⟨jh,0,none⟩=some (.int .i64 o'.id)∧W.cell? ⟨jh,1,none⟩=some (.int .i64 o'.now)∧W.cell? ⟨jh,3,none⟩=some (.pointer (some ⟨bd,0,none⟩))∧W.cell? ⟨jh,4,none⟩=some (.pointer (some ⟨j,0,none⟩))∧W.cell? ⟨jh,5,none⟩=some (.pointer (some ⟨jx,0,none⟩)):=fun W o' h e => by
  obtain ⟨pl,px,hpp,c0,c1,c2,c3,c4,c5,c6⟩:=h.cells
  obtain ⟨rfl,rfl⟩:=hpp e
  exact ⟨c0,c1,c3,c4,c5⟩
 have HCEL:=Zh hcel
 clear hcel
 have HC:=Zh (HNX.out.ret hu he f nn)
 rw [← hR] at HC ⊢
 clear hR
 have HQ3:=Zh (show q1+1=q2 by rw [HQ2.out,HW1.out,HQ1.out];exact (Array.size_push _).symm)
 obtain ⟨pl,px,hpp,c0,c1,c2,c3,c4,c5,c6⟩:=HN.out.cells
 obtain ⟨rfl,rfl⟩:=hpp hu
 rw [hu] at c6
 have z0:=X1.out.blk.cell 0
 simp only [Zx] at z0
 have HU:=Zh hu
 clear hpp hu f
 go_enter Tryz.func111,Tryz.ntmps111
 refine wp_seq_k fun L0 hL0 => ?_
 have HL0:=Zh hL0
 clear hL0
 go_wp2_with fail
 rw [← HW1.out,← HW2.out,← HQ1.out,HQ3.out]
 refine HL0.out _ _ ?_
 clear HL0 HW1 HW2 HQ1 HQ2 HQ3
 have hT:x3.cell? ⟨jh,4,none⟩=some (.pointer (some ⟨j,0,none⟩))∧x3.cell? ⟨q1,2,none⟩=some (.int .i64 nn):=⟨(HCEL.out _ _ HNX.out HU.out).2.2.2.1,(X1.out.below HBX.out).blk.cell 2⟩
 have hS:True:=trivial
 go_wp2_with fail
 refine wp_region_two (T:=fun W => W.cell? ⟨jh,4,none⟩=some (.pointer (some ⟨j,0,none⟩))∧W.cell? ⟨q1,2,none⟩=some (.int .i64 nn)) (S:=fun _ => True) (n:=99) (by kernel_rfl) ?_
 rw [← hx3]
 clear hx3
 refine tk 0 48 hT hS ?_
 refine tk 1 49 hT hS ?_
 try simp only [xq]
 refine tk 2 50 hT hS ?_
 refine tk 3 51 hT hS ?_
 try simp only [xq]
 refine tk 4 52 hT hS ?_
 refine tk 5 53 hT hS ?_
 try simp only [xq]
 refine two_one 6 rfl (by kernel_rfl) ?_
 intro K0 hK0
 go_simp
 refine HC.out.mono ?_
 rintro e w3 ⟨rfl,hn3,hk3'⟩
 have hk3:Keeps (Also K w w2) w2 w3:=(Keeps.below HBX.out).trans hk3'
 have hT3:w3.cell? ⟨jh,4,none⟩=some (.pointer (some ⟨j,0,none⟩))∧w3.cell? ⟨q1,2,none⟩=some (.int .i64 nn):=⟨(HCEL.out _ _ hn3 HU.out).2.2.2.1,(X1.out.keeps hk3).blk.cell 2⟩
 refine hK0.out _ _ hT3 (fun _ _ => hS) ?_
 clear hK0 K0
 try simp only [xq]
 clear hT hk3'
 have hT:=hT3
 clear hT3
 refine tk 7 6 hT hS ?_
 refine tk 8 7 hT hS ?_
 try simp only [xq]
 refine two_done (by kernel_rfl) ?_ _
 clear hT
 have HH:=Zh (And.intro (hn3.drop (K2:=K) fun k e => .inl e) ((Keeps.below HB.out).trans (Chg.mono hk3 fun k _ e e2 => e (.inl e2):Keeps K w2 w3)))
 clear hn3 hk3 HC
 go_wp2_with fail
 refine bodyPost_ret (v:=.tuple #[.string ⟨#[]⟩,.int .i64 R.1]) (by simp [results,Tryz.results111,go_sem]) rfl ?_
 exact ⟨rfl,HH.out⟩
theorem act_15 (n:TE w0 w K jh bd j jx o) (hu:o.up=true) (he:LEnv w0) (f:Few o.d o.h s o.x) (ha:KeepR w (fun k => w0.heap.size≤k) (.slice kx kl kc) keep) (hkl:keep.length≤1000000) :
  Calls Tryz.prog 111 #[.pointer (some ⟨jh,0,none⟩),.agg #[.int .i64 15,.int .i64 nd,.int .i64 nn,.int .i64 zt,.int .i64 zi,.int .i64 zp,.string zs,.string zh,.int .i64 za,.int .i64 zd,.string zn,.slice kx kl kc],.agg #[.int .i64 mf,.int .i64 mt,.string md]] w fun e w2 => e=.returned (.tuple #[.string ⟨#[]⟩,.int .i64 (o.d.crash keep).1])∧TE w0 w2 K jh bd j jx { o with d:=(o.d.crash keep).2 }∧Keeps K w w2:=by
 obtain ⟨q1,w1,q2,w2,HQ1,HW1,HQ2,HW2,HN,HB,X1,X2⟩:=tw_head n #[.int .i64 15,.int .i64 nd,.int .i64 nn,.int .i64 zt,.int .i64 zi,.int .i64 zp,.string zs,.string zh,.int .i64 za,.int .i64 zd,.string zn,.slice kx kl kc] #[.int .i64 mf,.int .i64 mt,.string md]
 clear n
 obtain ⟨R,hR⟩:∃ R,R=o.d.crash keep:=⟨_,rfl⟩
 obtain ⟨x3,hx3⟩:∃ y,y=w2.drew:=⟨_,rfl⟩
 have HBX:=Zh (Zd hx3)
 have HNX:=Zh (HN.out.below HBX.out)
 have hcel:∀ (W:World) (o':Hs),TE w0 W (Also K w w2) jh bd j jx o'→o'.up=true→W.cell? ⟨jh,0,none⟩=some (.int .i64 o'.id)∧W.cell? ⟨jh,1,none⟩=some (.int .i64 o'.now)∧W.cell? ⟨jh,3,none⟩=some (.pointer (some ⟨bd,0,none⟩))∧W.cell? ⟨jh,4,none⟩=some (.pointer (some ⟨j,0,none⟩))∧W.cell? ⟨jh,5,none⟩=some (.pointer (some ⟨jx,0,none⟩)):=fun W o' h e => by
  obtain ⟨pl,px,hpp,c0,c1,c2,c3,c4,c5,c6⟩:=h.cells
  obtain ⟨rfl,rfl⟩:=hpp e
  exact ⟨c0,c1,c3,c4,c5⟩
 have HCEL:=Zh hcel
 clear hcel
 have HC:=Zh (HNX.out.crash hu (.slice kx kl kc) keep (ha.chg (T:=fun _ => False) (Chg.of_below (HB.out.trans (HBX.out.mono HB.out.size))) (fun _ e => e.elim)) hkl)
 rw [← hR] at HC ⊢
 clear hR
 have HQ3:=Zh (show q1+1=q2 by rw [HQ2.out,HW1.out,HQ1.out];exact (Array.size_push _).symm)
 obtain ⟨pl,px,hpp,c0,c1,c2,c3,c4,c5,c6⟩:=HN.out.cells
 obtain ⟨rfl,rfl⟩:=hpp hu
 rw [hu] at c6
 have z0:=X1.out.blk.cell 0
 simp only [Zx] at z0
 have HU:=Zh hu
 clear hpp hu f
 go_enter Tryz.func111,Tryz.ntmps111
 refine wp_seq_k fun L0 hL0 => ?_
 have HL0:=Zh hL0
 clear hL0
 go_wp2_with fail
 rw [← HW1.out,← HW2.out,← HQ1.out,HQ3.out]
 refine HL0.out _ _ ?_
 clear HL0 HW1 HW2 HQ1 HQ2 HQ3
 have hT:x3.cell? ⟨jh,3,none⟩=some (.pointer (some ⟨bd,0,none⟩))∧x3.cell? ⟨q1,11,none⟩=some (.slice kx kl kc):=⟨(HCEL.out _ _ HNX.out HU.out).2.2.1,(X1.out.below HBX.out).blk.cell 11⟩
 have hS:True:=trivial
 go_wp2_with fail
 refine wp_region_two (T:=fun W => W.cell? ⟨jh,3,none⟩=some (.pointer (some ⟨bd,0,none⟩))∧W.cell? ⟨q1,11,none⟩=some (.slice kx kl kc)) (S:=fun _ => True) (n:=99) (by kernel_rfl) ?_
 rw [← hx3]
 clear hx3
 refine tk 0 90 hT hS ?_
 refine tk 1 91 hT hS ?_
 try simp only [xq]
 refine tk 2 92 hT hS ?_
 refine tk 3 93 hT hS ?_
 try simp only [xq]
 refine tk 4 94 hT hS ?_
 refine tk 5 95 hT hS ?_
 try simp only [xq]
 refine two_one 6 rfl (by kernel_rfl) ?_
 intro K0 hK0
 go_simp
 refine HC.out.mono ?_
 rintro e w3 ⟨rfl,hn3,hk3'⟩
 have hk3:Keeps (Also K w w2) w2 w3:=(Keeps.below HBX.out).trans hk3'
 have hT3:w3.cell? ⟨jh,3,none⟩=some (.pointer (some ⟨bd,0,none⟩))∧w3.cell? ⟨q1,11,none⟩=some (.slice kx kl kc):=⟨(HCEL.out _ _ hn3 HU.out).2.2.1,(X1.out.keeps hk3).blk.cell 11⟩
 refine hK0.out _ _ hT3 (fun _ _ => hS) ?_
 clear hK0 K0
 try simp only [xq]
 clear hT hk3'
 have hT:=hT3
 clear hT3
 refine tk 7 6 hT hS ?_
 refine tk 8 7 hT hS ?_
 try simp only [xq]
 refine two_done (by kernel_rfl) ?_ _
 clear hT
 have HH:=Zh (And.intro (hn3.drop (K2:=K) fun k e => .inl e) ((Keeps.below HB.out).trans (Chg.mono hk3 fun k _ e e2 => e (.inl e2):Keeps K w2 w3)))
 clear hn3 hk3 HC
 go_wp2_with fail
 refine bodyPost_ret (v:=.tuple #[.string ⟨#[]⟩,.int .i64 R.1]) (by simp [results,Tryz.results111,go_sem]) rfl ?_
 exact ⟨rfl,HH.out⟩
theorem act_16 (n:TE w0 w K jh bd j jx o) (hu:o.up=true) (he:LEnv w0) (f:Few o.d o.h s o.x) (ha:KeepR w (fun k => w0.heap.size≤k) (.slice kx kl kc) keep) (hkl:keep.length≤1000000) (hnn:nn≤9223372036854775807) :
  Calls Tryz.prog 111 #[.pointer (some ⟨jh,0,none⟩),.agg #[.int .i64 16,.int .i64 nd,.int .i64 nn,.int .i64 zt,.int .i64 zi,.int .i64 zp,.string zs,.string zh,.int .i64 za,.int .i64 zd,.string zn,.slice kx kl kc],.agg #[.int .i64 mf,.int .i64 mt,.string md]] w fun e w2 => e=.returned (.tuple #[.string ⟨#[]⟩,.int .i64 (o.d.failAt nn keep).1])∧TE w0 w2 K jh bd j jx { o with d:=(o.d.failAt nn keep).2 }∧Keeps K w w2:=by
 obtain ⟨q1,w1,q2,w2,HQ1,HW1,HQ2,HW2,HN,HB,X1,X2⟩:=tw_head n #[.int .i64 16,.int .i64 nd,.int .i64 nn,.int .i64 zt,.int .i64 zi,.int .i64 zp,.string zs,.string zh,.int .i64 za,.int .i64 zd,.string zn,.slice kx kl kc] #[.int .i64 mf,.int .i64 mt,.string md]
 clear n
 obtain ⟨R,hR⟩:∃ R,R=o.d.failAt nn keep:=⟨_,rfl⟩
 obtain ⟨x3,hx3⟩:∃ y,y=w2.drew:=⟨_,rfl⟩
 have HBX:=Zh (Zd hx3)
 have HNX:=Zh (HN.out.below HBX.out)
 have hcel:∀ (W:World) (o':Hs),TE w0 W (Also K w w2) jh bd j jx o'→o'.up=true→W.cell? ⟨jh,0,none⟩=some (.int .i64 o'.id)∧W.cell? ⟨jh,1,none⟩=some (.int .i64 o'.now)∧W.cell? ⟨jh,3,none⟩=some (.pointer (some ⟨bd,0,none⟩))∧W.cell? ⟨jh,4,none⟩=some (.pointer (some ⟨j,0,none⟩))∧W.cell? ⟨jh,5,none⟩=some (.pointer (some ⟨jx,0,none⟩)):=fun W o' h e => by
  obtain ⟨pl,px,hpp,c0,c1,c2,c3,c4,c5,c6⟩:=h.cells
  obtain ⟨rfl,rfl⟩:=hpp e
  exact ⟨c0,c1,c3,c4,c5⟩
 have HCEL:=Zh hcel
 clear hcel
 have HC:=Zh (HNX.out.failAt hu nn hnn (.slice kx kl kc) keep (ha.chg (T:=fun _ => False) (Chg.of_below (HB.out.trans (HBX.out.mono HB.out.size))) (fun _ e => e.elim)) hkl)
 rw [← hR] at HC ⊢
 clear hR
 have HQ3:=Zh (show q1+1=q2 by rw [HQ2.out,HW1.out,HQ1.out];exact (Array.size_push _).symm)
 obtain ⟨pl,px,hpp,c0,c1,c2,c3,c4,c5,c6⟩:=HN.out.cells
 obtain ⟨rfl,rfl⟩:=hpp hu
 rw [hu] at c6
 have z0:=X1.out.blk.cell 0
 simp only [Zx] at z0
 have HU:=Zh hu
 clear hpp hu f
 go_enter Tryz.func111,Tryz.ntmps111
 refine wp_seq_k fun L0 hL0 => ?_
 have HL0:=Zh hL0
 clear hL0
 go_wp2_with fail
 rw [← HW1.out,← HW2.out,← HQ1.out,HQ3.out]
 refine HL0.out _ _ ?_
 clear HL0 HW1 HW2 HQ1 HQ2 HQ3
 have hT:x3.cell? ⟨jh,3,none⟩=some (.pointer (some ⟨bd,0,none⟩))∧x3.cell? ⟨q1,2,none⟩=some (.int .i64 nn)∧x3.cell? ⟨q1,11,none⟩=some (.slice kx kl kc):=⟨(HCEL.out _ _ HNX.out HU.out).2.2.1,(X1.out.below HBX.out).blk.cell 2,(X1.out.below HBX.out).blk.cell 11⟩
 have hS:True:=trivial
 go_wp2_with fail
 refine wp_region_two (T:=fun W => W.cell? ⟨jh,3,none⟩=some (.pointer (some ⟨bd,0,none⟩))∧W.cell? ⟨q1,2,none⟩=some (.int .i64 nn)∧W.cell? ⟨q1,11,none⟩=some (.slice kx kl kc)) (S:=fun _ => True) (n:=99) (by kernel_rfl) ?_
 rw [← hx3]
 clear hx3
 refine tk 0 97 hT hS ?_
 refine tk 1 98 hT hS ?_
 try simp only [xq]
 refine tk 2 99 hT hS ?_
 refine tk 3 100 hT hS ?_
 try simp only [xq]
 refine tk 4 101 hT hS ?_
 refine tk 5 102 hT hS ?_
 try simp only [xq]
 refine tk 6 103 hT hS ?_
 refine tk 7 104 hT hS ?_
 try simp only [xq]
 refine two_one 8 rfl (by kernel_rfl) ?_
 intro K0 hK0
 go_simp
 refine HC.out.mono ?_
 rintro e w3 ⟨rfl,hn3,hk3'⟩
 have hk3:Keeps (Also K w w2) w2 w3:=(Keeps.below HBX.out).trans hk3'
 have hT3:w3.cell? ⟨jh,3,none⟩=some (.pointer (some ⟨bd,0,none⟩))∧w3.cell? ⟨q1,2,none⟩=some (.int .i64 nn)∧w3.cell? ⟨q1,11,none⟩=some (.slice kx kl kc):=⟨(HCEL.out _ _ hn3 HU.out).2.2.1,(X1.out.keeps hk3).blk.cell 2,(X1.out.keeps hk3).blk.cell 11⟩
 refine hK0.out _ _ hT3 (fun _ _ => hS) ?_
 clear hK0 K0
 try simp only [xq]
 clear hT hk3'
 have hT:=hT3
 clear hT3
 refine tk 9 6 hT hS ?_
 refine tk 10 7 hT hS ?_
 try simp only [xq]
 refine two_done (by kernel_rfl) ?_ _
 clear hT
 have HH:=Zh (And.intro (hn3.drop (K2:=K) fun k e => .inl e) ((Keeps.below HB.out).trans (Chg.mono hk3 fun k _ e e2 => e (.inl e2):Keeps K w2 w3)))
 clear hn3 hk3 HC
 go_wp2_with fail
 refine bodyPost_ret (v:=.tuple #[.string ⟨#[]⟩,.int .i64 R.1]) (by simp [results,Tryz.results111,go_sem]) rfl ?_
 exact ⟨rfl,HH.out⟩
theorem act_5 (n:TE w0 w K jh bd j jx o) (hu:o.up=true) (he:LEnv w0) (f:Few o.d o.h s o.x) (hnw:NowB o.now o.x.sent) :
  Calls Tryz.prog 111 #[.pointer (some ⟨jh,0,none⟩),.agg #[.int .i64 5,.int .i64 nd,.int .i64 nn,.int .i64 zt,.int .i64 zi,.int .i64 zp,.string zs,.string zh,.int .i64 za,.int .i64 zd,.string zn,.slice kx kl kc],.agg #[.int .i64 mf,.int .i64 mt,.string md]] w fun e w2 => e=.returned (.tuple #[.string (stepC o.now o.d o.h o.x).1.1,.int .i64 (stepC o.now o.d o.h o.x).1.2])∧TE w0 w2 K jh bd j jx { o with d:=(stepC o.now o.d o.h o.x).2.2,x:=(stepC o.now o.d o.h o.x).2.1 }∧Keeps K w w2:=by
 obtain ⟨q1,w1,q2,w2,HQ1,HW1,HQ2,HW2,HN,HB,X1,X2⟩:=tw_head n #[.int .i64 5,.int .i64 nd,.int .i64 nn,.int .i64 zt,.int .i64 zi,.int .i64 zp,.string zs,.string zh,.int .i64 za,.int .i64 zd,.string zn,.slice kx kl kc] #[.int .i64 mf,.int .i64 mt,.string md]
 clear n
 obtain ⟨R,hR⟩:∃ R,R=stepC o.now o.d o.h o.x:=⟨_,rfl⟩
 obtain ⟨x3,hx3⟩:∃ y,y=w2.drew:=⟨_,rfl⟩
 have HBX:=Zh (Zd hx3)
 have HNX:=Zh (HN.out.below HBX.out)
 have hcel:∀ (W:World) (o':Hs),TE w0 W (Also K w w2) jh bd j jx o'→o'.up=true→W.cell? ⟨jh,0,none⟩=some (.int .i64 o'.id)∧W.cell? ⟨jh,1,none⟩=some (.int .i64 o'.now)∧W.cell? ⟨jh,3,none⟩=some (.pointer (some ⟨bd,0,none⟩))∧W.cell? ⟨jh,4,none⟩=some (.pointer (some ⟨j,0,none⟩))∧W.cell? ⟨jh,5,none⟩=some (.pointer (some ⟨jx,0,none⟩)):=fun W o' h e => by
  obtain ⟨pl,px,hpp,c0,c1,c2,c3,c4,c5,c6⟩:=h.cells
  obtain ⟨rfl,rfl⟩:=hpp e
  exact ⟨c0,c1,c3,c4,c5⟩
 have HCEL:=Zh hcel
 clear hcel
 have HC:=Zh (HNX.out.step hu he f o.now hnw)
 rw [← hR] at HC ⊢
 clear hR
 have HQ3:=Zh (show q1+1=q2 by rw [HQ2.out,HW1.out,HQ1.out];exact (Array.size_push _).symm)
 obtain ⟨pl,px,hpp,c0,c1,c2,c3,c4,c5,c6⟩:=HN.out.cells
 obtain ⟨rfl,rfl⟩:=hpp hu
 rw [hu] at c6
 have z0:=X1.out.blk.cell 0
 simp only [Zx] at z0
 have HU:=Zh hu
 clear hpp hu f
 go_enter Tryz.func111,Tryz.ntmps111
 refine wp_seq_k fun L0 hL0 => ?_
 have HL0:=Zh hL0
 clear hL0
 go_wp2_with fail
 rw [← HW1.out,← HW2.out,← HQ1.out,HQ3.out]
 refine HL0.out _ _ ?_
 clear HL0 HW1 HW2 HQ1 HQ2 HQ3
 have hT:x3.cell? ⟨jh,5,none⟩=some (.pointer (some ⟨jx,0,none⟩))∧x3.cell? ⟨jh,1,none⟩=some (.int .i64 o.now):=⟨(HCEL.out _ _ HNX.out HU.out).2.2.2.2,(HCEL.out _ _ HNX.out HU.out).2.1⟩
 have hS:True:=trivial
 go_wp2_with fail
 refine wp_region_two (T:=fun W => W.cell? ⟨jh,5,none⟩=some (.pointer (some ⟨jx,0,none⟩))∧W.cell? ⟨jh,1,none⟩=some (.int .i64 o.now)) (S:=fun _ => True) (n:=99) (by kernel_rfl) ?_
 rw [← hx3]
 clear hx3
 refine tk 0 57 hT hS ?_
 refine tk 1 58 hT hS ?_
 try simp only [xq]
 refine tk 2 59 hT hS ?_
 refine tk 3 60 hT hS ?_
 try simp only [xq]
 refine tk 4 61 hT hS ?_
 refine tk 5 62 hT hS ?_
 try simp only [xq]
 refine tk 6 63 hT hS ?_
 refine tk 7 64 hT hS ?_
 try simp only [xq]
 refine two_one 8 rfl (by kernel_rfl) ?_
 intro K0 hK0
 go_simp
 refine HC.out.mono ?_
 rintro e w3 ⟨rfl,hn3,hk3'⟩
 have hk3:Keeps (Also K w w2) w2 w3:=(Keeps.below HBX.out).trans hk3'
 have hT3:w3.cell? ⟨jh,5,none⟩=some (.pointer (some ⟨jx,0,none⟩))∧w3.cell? ⟨jh,1,none⟩=some (.int .i64 o.now):=⟨(HCEL.out _ _ hn3 HU.out).2.2.2.2,(HCEL.out _ _ hn3 HU.out).2.1⟩
 refine hK0.out _ _ hT3 (fun _ _ => hS) ?_
 clear hK0 K0
 try simp only [xq]
 clear hT hk3'
 have hT:=hT3
 clear hT3
 refine tk 9 66 hT hS ?_
 refine tk 10 67 hT hS ?_
 try simp only [xq]
 refine tk 11 6 hT hS ?_
 refine tk 12 7 hT hS ?_
 try simp only [xq]
 refine two_done (by kernel_rfl) ?_ _
 clear hT
 have HH:=Zh (And.intro (hn3.drop (K2:=K) fun k e => .inl e) ((Keeps.below HB.out).trans (Chg.mono hk3 fun k _ e e2 => e (.inl e2):Keeps K w2 w3)))
 clear hn3 hk3 HC
 go_wp2_with fail
 refine bodyPost_ret (v:=.tuple #[.string R.1.1,.int .i64 R.1.2]) (by simp [results,Tryz.results111,go_sem]) rfl ?_
 exact ⟨rfl,HH.out⟩
theorem act_7 (n:TE w0 w K jh bd j jx o) (hu:o.up=true) (he:LEnv w0) (f:Few o.d o.h s o.x) (hm:md.size≤maxLen) :
  Calls Tryz.prog 111 #[.pointer (some ⟨jh,0,none⟩),.agg #[.int .i64 7,.int .i64 nd,.int .i64 nn,.int .i64 zt,.int .i64 zi,.int .i64 zp,.string zs,.string zh,.int .i64 za,.int .i64 zd,.string zn,.slice kx kl kc],.agg #[.int .i64 mf,.int .i64 mt,.string md]] w fun e w2 => e=.returned (.tuple #[.string ⟨#[]⟩,.int .i64 (takeO ⟨mf,mt,md⟩ o).1])∧TE w0 w2 K jh bd j jx (takeO ⟨mf,mt,md⟩ o).2∧Keeps K w w2:=by
 obtain ⟨q1,w1,q2,w2,HQ1,HW1,HQ2,HW2,HN,HB,X1,X2⟩:=tw_head n #[.int .i64 7,.int .i64 nd,.int .i64 nn,.int .i64 zt,.int .i64 zi,.int .i64 zp,.string zs,.string zh,.int .i64 za,.int .i64 zd,.string zn,.slice kx kl kc] #[.int .i64 mf,.int .i64 mt,.string md]
 clear n
 obtain ⟨R,hR⟩:∃ R,R=takeC md.data.toList o.d o.x:=⟨_,rfl⟩
 obtain ⟨x3,hx3⟩:∃ y,y=w2.drew:=⟨_,rfl⟩
 have HBX:=Zh (Zd hx3)
 have HNX:=Zh (HN.out.below HBX.out)
 have hcel:∀ (W:World) (o':Hs),TE w0 W (Also K w w2) jh bd j jx o'→o'.up=true→W.cell? ⟨jh,0,none⟩=some (.int .i64 o'.id)∧W.cell? ⟨jh,1,none⟩=some (.int .i64 o'.now)∧W.cell? ⟨jh,3,none⟩=some (.pointer (some ⟨bd,0,none⟩))∧W.cell? ⟨jh,4,none⟩=some (.pointer (some ⟨j,0,none⟩))∧W.cell? ⟨jh,5,none⟩=some (.pointer (some ⟨jx,0,none⟩)):=fun W o' h e => by
  obtain ⟨pl,px,hpp,c0,c1,c2,c3,c4,c5,c6⟩:=h.cells
  obtain ⟨rfl,rfl⟩:=hpp e
  exact ⟨c0,c1,c3,c4,c5⟩
 have HCEL:=Zh hcel
 clear hcel
 obtain ⟨x4,hx4⟩:∃ y,y=x3.drew:=⟨_,rfl⟩
 have HBY:=Zh (show Below w2.heap.size w2 x4 by rw [hx4];exact HBX.out.drew)
 have HNY:=Zh (HN.out.below HBY.out)
 have HC:=Zh (HNY.out.take hu f md hm)
 have hR9:takeC md.data.toList o.d o.x=R:=hR.symm
 unfold takeO
 simp only
 rw [hR9] at HC ⊢
 clear hR hR9
 have HQ3:=Zh (show q1+1=q2 by rw [HQ2.out,HW1.out,HQ1.out];exact (Array.size_push _).symm)
 obtain ⟨pl,px,hpp,c0,c1,c2,c3,c4,c5,c6⟩:=HN.out.cells
 obtain ⟨rfl,rfl⟩:=hpp hu
 rw [hu] at c6
 have z0:=X1.out.blk.cell 0
 simp only [Zx] at z0
 have HU:=Zh hu
 clear hpp hu f
 go_enter Tryz.func111,Tryz.ntmps111
 refine wp_seq_k fun L0 hL0 => ?_
 have HL0:=Zh hL0
 clear hL0
 go_wp2_with fail
 rw [← HW1.out,← HW2.out,← HQ1.out,HQ3.out]
 refine HL0.out _ _ ?_
 clear HL0 HW1 HW2 HQ1 HQ2 HQ3
 have hT:x3.cell? ⟨jh,0,none⟩=some (.int .i64 o.id)∧x3.cell? ⟨q2,1,none⟩=some (.int .i64 mt):=⟨(HCEL.out _ _ HNX.out HU.out).1,(X2.out.below HBX.out).blk.cell 1⟩
 have hS:True:=trivial
 by_cases hq:mt=o.id
 case neg =>
  rw [if_neg hq]
  have hqb:(mt != o.id)=true:=by rw [bne_iff_ne];exact hq
  have HH:=Zh (And.intro (HNX.out.drop (K2:=K) fun k e => .inl e) ((Keeps.below HB.out).trans (Keeps.below (X:=K) HBX.out)))
  clear hq HC hx4
  go_wp2_with fail
  refine wp_region_two (T:=fun W => W.cell? ⟨jh,0,none⟩=some (.int .i64 o.id)∧W.cell? ⟨q2,1,none⟩=some (.int .i64 mt)) (S:=fun _ => True) (n:=99) (by kernel_rfl) ?_
  rw [← hx3]
  clear hx3
  refine tk 0 70 hT hS ?_
  refine tk 1 71 hT hS ?_
  try simp only [xq]
  refine tk 2 72 hT hS ?_
  refine tk 3 73 hT hS ?_
  try simp only [xq]
  refine tk 4 74 hT hS ?_
  refine tk 5 75 hT hS ?_
  try simp only [xq]
  refine tk 6 76 hT hS ?_
  try simp only [xq]
  refine two_done (by kernel_rfl) ?_ _
  clear hT
  go_wp2_with fail
  refine bodyPost_ret (v:=.tuple #[.string ⟨#[]⟩,.int .i64 2]) (by simp [results,Tryz.results111,go_sem]) rfl ?_
  exact ⟨rfl,HH.out⟩
 case pos =>
 rw [if_pos hq]
 have hqb:(mt != o.id)=false:=by rw [hq];exact bne_self_eq_false o.id
 clear hq
 go_wp2_with fail
 refine wp_region_two (T:=fun W => W.cell? ⟨jh,0,none⟩=some (.int .i64 o.id)∧W.cell? ⟨q2,1,none⟩=some (.int .i64 mt)) (S:=fun _ => True) (n:=99) (by kernel_rfl) ?_
 rw [← hx3]
 clear hx3
 refine tk 0 70 hT hS ?_
 refine tk 1 71 hT hS ?_
 try simp only [xq]
 refine tk 2 72 hT hS ?_
 refine tk 3 73 hT hS ?_
 try simp only [xq]
 refine tk 4 74 hT hS ?_
 refine tk 5 75 hT hS ?_
 try simp only [xq]
 refine tk 6 76 hT hS ?_
 try simp only [xq]
 refine two_done (by kernel_rfl) ?_ _
 clear hT
 go_wp2_with fail
 refine wp_region_two (T:=fun W => W.cell? ⟨jh,5,none⟩=some (.pointer (some ⟨jx,0,none⟩))∧W.cell? ⟨q2,2,none⟩=some (.string md)) (S:=fun _ => True) (n:=99) (by kernel_rfl) ?_
 rw [← hx4]
 clear hx4
 have hT:x4.cell? ⟨jh,5,none⟩=some (.pointer (some ⟨jx,0,none⟩))∧x4.cell? ⟨q2,2,none⟩=some (.string md):=⟨(HCEL.out _ _ HNY.out HU.out).2.2.2.2,(X2.out.below HBY.out).blk.cell 2⟩
 refine tk 0 78 hT hS ?_
 refine tk 1 79 hT hS ?_
 try simp only [xq]
 refine tk 2 80 hT hS ?_
 refine tk 3 81 hT hS ?_
 try simp only [xq]
 refine tk 4 82 hT hS ?_
 refine tk 5 83 hT hS ?_
 try simp only [xq]
 refine two_one 6 rfl (by kernel_rfl) ?_
 intro K0 hK0
 go_simp
 refine HC.out.mono ?_
 rintro e w3 ⟨rfl,hn3,hk3'⟩
 have hk3:Keeps (Also K w w2) w2 w3:=(Keeps.below HBY.out).trans hk3'
 have hT3:w3.cell? ⟨jh,5,none⟩=some (.pointer (some ⟨jx,0,none⟩))∧w3.cell? ⟨q2,2,none⟩=some (.string md):=⟨(HCEL.out _ _ hn3 HU.out).2.2.2.2,(X2.out.keeps hk3).blk.cell 2⟩
 refine hK0.out _ _ hT3 (fun _ _ => hS) ?_
 clear hK0 K0
 try simp only [xq]
 clear hT hk3'
 have hT:=hT3
 clear hT3
 refine tk 7 77 hT hS ?_
 refine tk 8 85 hT hS ?_
 try simp only [xq]
 refine tk 9 86 hT hS ?_
 refine tk 10 9 hT hS ?_
 try simp only [xq]
 refine tk 11 10 hT hS ?_
 try simp only [xq]
 refine two_done (by kernel_rfl) ?_ _
 clear hT
 have HH:=Zh (And.intro (hn3.drop (K2:=K) fun k e => .inl e) ((Keeps.below HB.out).trans (Chg.mono hk3 fun k _ e e2 => e (.inl e2):Keeps K w2 w3)))
 clear hn3 hk3 HC
 go_wp2_with fail
 refine bodyPost_ret (v:=.tuple #[.string ⟨#[]⟩,.int .i64 R.1.2]) (by simp [results,Tryz.results111,go_sem]) rfl ?_
 exact ⟨rfl,HH.out⟩
theorem act_1 (n:TE w0 w K jh bd j jx o) (hu:o.up=true) (he:LEnv w0) (f:Few o.d o.h s o.x) (h1:zs.size≤maxLen) (h2:zh.size≤maxLen) (h3:zn.size≤maxLen) (hr:0≤o.refused∧o.refused≤1000000) :
  Calls Tryz.prog 111 #[.pointer (some ⟨jh,0,none⟩),.agg #[.int .i64 1,.int .i64 nd,.int .i64 nn,.int .i64 zt,.int .i64 zi,.int .i64 zp,.string zs,.string zh,.int .i64 za,.int .i64 zd,.string zn,.slice kx kl kc],.agg #[.int .i64 mf,.int .i64 mt,.string md]] w fun e w2 => e=.returned (.tuple #[.string ⟨#[]⟩,.int .i64 (appP o.d o.h ⟨zt,zi,zp,zs,zh,za,zd,zn⟩).1])∧TE w0 w2 K jh bd j jx (wroteO o ⟨zt,zi,zp,zs,zh,za,zd,zn⟩)∧Keeps K w w2:=by
 obtain ⟨q1,w1,q2,w2,HQ1,HW1,HQ2,HW2,HN,HB,X1,X2⟩:=tw_head n #[.int .i64 1,.int .i64 nd,.int .i64 nn,.int .i64 zt,.int .i64 zi,.int .i64 zp,.string zs,.string zh,.int .i64 za,.int .i64 zd,.string zn,.slice kx kl kc] #[.int .i64 mf,.int .i64 mt,.string md]
 clear n
 obtain ⟨R,hR⟩:∃ R,R=appP o.d o.h ⟨zt,zi,zp,zs,zh,za,zd,zn⟩:=⟨_,rfl⟩
 obtain ⟨x3,hx3⟩:∃ y,y=w2.drew:=⟨_,rfl⟩
 have HBX:=Zh (Zd hx3)
 have HNX:=Zh (HN.out.below HBX.out)
 have hcel:∀ (W:World) (o':Hs),TE w0 W (Also K w w2) jh bd j jx o'→o'.up=true→W.cell? ⟨jh,0,none⟩=some (.int .i64 o'.id)∧W.cell? ⟨jh,1,none⟩=some (.int .i64 o'.now)∧W.cell? ⟨jh,3,none⟩=some (.pointer (some ⟨bd,0,none⟩))∧W.cell? ⟨jh,4,none⟩=some (.pointer (some ⟨j,0,none⟩))∧W.cell? ⟨jh,5,none⟩=some (.pointer (some ⟨jx,0,none⟩)):=fun W o' h e => by
  obtain ⟨pl,px,hpp,c0,c1,c2,c3,c4,c5,c6⟩:=h.cells
  obtain ⟨rfl,rfl⟩:=hpp e
  exact ⟨c0,c1,c3,c4,c5⟩
 have HCEL:=Zh hcel
 clear hcel
 have HC:=Zh (HNX.out.app hu he f ⟨zt,zi,zp,zs,zh,za,zd,zn⟩ h1 h2 h3)
 unfold wroteO
 rw [← hR] at HC ⊢
 obtain ⟨rf,hrf⟩:∃ rf,rf=(if R.1=0 then o.refused else o.refused+1):=⟨_,rfl⟩
 rw [← hrf]
 have HRF:=Zh hrf
 unfold spV at HC
 simp only at HC
 clear hR hrf
 have HQ3:=Zh (show q1+1=q2 by rw [HQ2.out,HW1.out,HQ1.out];exact (Array.size_push _).symm)
 obtain ⟨pl,px,hpp,c0,c1,c2,c3,c4,c5,c6⟩:=HN.out.cells
 obtain ⟨rfl,rfl⟩:=hpp hu
 rw [hu] at c6
 have z0:=X1.out.blk.cell 0
 simp only [Zx] at z0
 have HU:=Zh hu
 clear hpp hu f
 go_enter Tryz.func111,Tryz.ntmps111
 refine wp_seq_k fun L0 hL0 => ?_
 have HL0:=Zh hL0
 clear hL0
 go_wp2_with fail
 rw [← HW1.out,← HW2.out,← HQ1.out,HQ3.out]
 refine HL0.out _ _ ?_
 clear HL0 HW1 HW2 HQ1 HQ2 HQ3
 have hT:x3.cell? ⟨jh,4,none⟩=some (.pointer (some ⟨j,0,none⟩))∧x3.cell? ⟨q1,3,none⟩=some (.int .i64 zt)∧x3.cell? ⟨q1,4,none⟩=some (.int .i64 zi)∧x3.cell? ⟨q1,5,none⟩=some (.int .i64 zp)∧x3.cell? ⟨q1,6,none⟩=some (.string zs)∧x3.cell? ⟨q1,7,none⟩=some (.string zh)∧x3.cell? ⟨q1,8,none⟩=some (.int .i64 za)∧x3.cell? ⟨q1,9,none⟩=some (.int .i64 zd)∧x3.cell? ⟨q1,10,none⟩=some (.string zn):=⟨(HCEL.out _ _ HNX.out HU.out).2.2.2.1,(X1.out.below HBX.out).blk.cell 3,(X1.out.below HBX.out).blk.cell 4,(X1.out.below HBX.out).blk.cell 5,(X1.out.below HBX.out).blk.cell 6,(X1.out.below HBX.out).blk.cell 7,(X1.out.below HBX.out).blk.cell 8,(X1.out.below HBX.out).blk.cell 9,(X1.out.below HBX.out).blk.cell 10⟩
 have hS:True:=trivial
 go_wp2_with fail
 refine wp_region_two (T:=fun W => W.cell? ⟨jh,4,none⟩=some (.pointer (some ⟨j,0,none⟩))∧W.cell? ⟨q1,3,none⟩=some (.int .i64 zt)∧W.cell? ⟨q1,4,none⟩=some (.int .i64 zi)∧W.cell? ⟨q1,5,none⟩=some (.int .i64 zp)∧W.cell? ⟨q1,6,none⟩=some (.string zs)∧W.cell? ⟨q1,7,none⟩=some (.string zh)∧W.cell? ⟨q1,8,none⟩=some (.int .i64 za)∧W.cell? ⟨q1,9,none⟩=some (.int .i64 zd)∧W.cell? ⟨q1,10,none⟩=some (.string zn)) (S:=fun _ => True) (n:=99) (by kernel_rfl) ?_
 rw [← hx3]
 clear hx3
 refine tk 0 15 hT hS ?_
 refine tk 1 16 hT hS ?_
 try simp only [xq]
 refine tk 2 17 hT hS ?_
 refine tk 3 18 hT hS ?_
 try simp only [xq]
 refine tk 4 19 hT hS ?_
 refine tk 5 20 hT hS ?_
 try simp only [xq]
 refine two_one 6 rfl (by kernel_rfl) ?_
 intro K0 hK0
 go_simp
 refine HC.out.mono ?_
 rintro e w3 ⟨rfl,hn3,hk3'⟩
 have hk3:Keeps (Also K w w2) w2 w3:=(Keeps.below HBX.out).trans hk3'
 have hT3:w3.cell? ⟨jh,4,none⟩=some (.pointer (some ⟨j,0,none⟩))∧w3.cell? ⟨q1,3,none⟩=some (.int .i64 zt)∧w3.cell? ⟨q1,4,none⟩=some (.int .i64 zi)∧w3.cell? ⟨q1,5,none⟩=some (.int .i64 zp)∧w3.cell? ⟨q1,6,none⟩=some (.string zs)∧w3.cell? ⟨q1,7,none⟩=some (.string zh)∧w3.cell? ⟨q1,8,none⟩=some (.int .i64 za)∧w3.cell? ⟨q1,9,none⟩=some (.int .i64 zd)∧w3.cell? ⟨q1,10,none⟩=some (.string zn):=⟨(HCEL.out _ _ hn3 HU.out).2.2.2.1,(X1.out.keeps hk3).blk.cell 3,(X1.out.keeps hk3).blk.cell 4,(X1.out.keeps hk3).blk.cell 5,(X1.out.keeps hk3).blk.cell 6,(X1.out.keeps hk3).blk.cell 7,(X1.out.keeps hk3).blk.cell 8,(X1.out.keeps hk3).blk.cell 9,(X1.out.keeps hk3).blk.cell 10⟩
 refine hK0.out _ _ hT3 (fun _ _ => hS) ?_
 clear hK0 K0
 try simp only [xq]
 clear hT hk3'
 have hT:=hT3
 clear hT3
 refine tk 7 8 hT hS ?_
 try simp only [xq]
 refine two_done (by kernel_rfl) ?_ _
 clear hT c0 c1 c2 c3 c4 c5 c6
 have HN3:=Zh (hn3.drop (K2:=K) fun k e => .inl e)
 have HK3:=Zh ((Keeps.below HB.out).trans (Chg.mono hk3 fun k _ e e2 => e (.inl e2):Keeps K w2 w3))
 obtain ⟨P9,pl,px,n9,hb9,hpp9,_⟩:=id HN3.out
 have c2:=hb9.cell 2
 have f2:=hb9.free 2
 simp only [twV,List.getElem?_toArray,List.getElem?_cons_zero,List.getElem?_cons_succ] at c2
 have hwr:IntKind.i64.wrap (o.refused+1)=o.refused+1:=by rw [IntKind.wrap_i64];omega
 have HSE:=Zh (HN3.out.set (i:=2) (v:=.int .i64 (o.refused+1)) (o':={ o with d:=R.2.2,h:=R.2.1,refused:=o.refused+1 }) (fun _ _ => rfl) (fun e => e) ⟨rfl,rfl,rfl⟩)
 clear hn3 hk3 HC n9 hb9 hpp9
 by_cases hz:R.1=0
 case pos =>
  have hz2:(R.1 != 0)=false:=by rw [hz];rfl
  have HH:=Zh (show TE w0 w3 K jh bd j jx { o with d:=R.2.2,h:=R.2.1,refused:=rf } from by rw [HRF.out,if_pos hz];exact HN3.out)
  clear hz
  go_wp2_with fail
  refine bodyPost_ret (v:=.tuple #[.string ⟨#[]⟩,.int .i64 R.1]) (by simp [results,Tryz.results111,go_sem]) rfl ?_
  exact ⟨rfl,HH.out,HK3.out⟩
 case neg =>
 have hz2:(R.1 != 0)=true:=by rw [bne_iff_ne];exact hz
 have HH:=Zh (show TE w0 (w3.setCell ⟨jh,2,none⟩ (.int .i64 (o.refused+1))) K jh bd j jx { o with d:=R.2.2,h:=R.2.1,refused:=rf } from by rw [HRF.out,if_neg hz];exact HSE.out.1)
 clear hz
 go_wp2_with fail
 refine bodyPost_ret (v:=.tuple #[.string ⟨#[]⟩,.int .i64 R.1]) (by simp [results,Tryz.results111,go_sem]) rfl ?_
 exact ⟨rfl,HH.out,HK3.out.trans HSE.out.2⟩
end
end Go.Proofs.YtdacanghbepjpaaGreatDoor
