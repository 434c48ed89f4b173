/- Spans, truth values and acts of a host's log that come in. Acts of the laws on a daemon that come in. The laws on a daemon: a node that begins, that is opened; what is written; what is beyond; a span, an answer: walked. The laws on a daemon: a span, an answer, what is beyond: walked. The laws on a daemon: which acts are beyond: walked. The chapter's daemon: what it comes to, plainly. -/
import Derived.Test.YtdacanghbepjpaaGreatDoorM5
import Derived.SliceStrings
import Derived.ProofKit
import Derived.OpenShut
import Derived.Test.YtdacanghbepjpaaGreatDoorM13
namespace Go.Proofs.YtdacanghbepjpaaGreatDoor
set_option linter.unusedSimpArgs false
set_option linter.unusedVariables false
set_option maxRecDepth 100000
open Go.RowKit Go.Maps
open Go.WideShapes Go.ChangeAt Go.Deep
open Go.ChangeShapes (open_ints)
open Dsk
structure SpBnd (x:Sp.Span):Prop where
 trace:-9223372036854775808≤x.trace∧x.trace≤9223372036854775807
 id:-9223372036854775808≤x.id∧x.id≤9223372036854775807
 parent:-9223372036854775808≤x.parent∧x.parent≤9223372036854775807
 start:-9223372036854775808≤x.start∧x.start≤9223372036854775807
 dur:-9223372036854775808≤x.dur∧x.dur≤9223372036854775807
 service:x.service.size≤maxLen
 host:x.host.size≤maxLen
 note:x.note.size≤maxLen
theorem sp_fields_size:(Tryz.prog.fieldsOf 47).size=8:=by kernel_rfl
theorem sp_fields:Go.Deep.oneCellFields Tryz.prog (Tryz.prog.fieldsOf 47)=true:=by kernel_rfl
theorem sp_under:Tryz.prog.underlying 47=some (.struct (Tryz.prog.fieldsOf 47)):=by kernel_rfl
theorem sp_cells:Tryz.prog.cellsOf 47=(Tryz.prog.fieldsOf 47).size:=by kernel_rfl
theorem sp_t0:((Tryz.prog.fieldsOf 47)[0]?).map (·.type)=some 3:=by kernel_rfl
theorem sp_t1:((Tryz.prog.fieldsOf 47)[1]?).map (·.type)=some 3:=by kernel_rfl
theorem sp_t2:((Tryz.prog.fieldsOf 47)[2]?).map (·.type)=some 3:=by kernel_rfl
theorem sp_t3:((Tryz.prog.fieldsOf 47)[3]?).map (·.type)=some 9:=by kernel_rfl
theorem sp_t4:((Tryz.prog.fieldsOf 47)[4]?).map (·.type)=some 9:=by kernel_rfl
theorem sp_t5:((Tryz.prog.fieldsOf 47)[5]?).map (·.type)=some 3:=by kernel_rfl
theorem sp_t6:((Tryz.prog.fieldsOf 47)[6]?).map (·.type)=some 3:=by kernel_rfl
theorem sp_t7:((Tryz.prog.fieldsOf 47)[7]?).map (·.type)=some 9:=by kernel_rfl
theorem hl_under_int:Tryz.prog.underlying 3=some (.int .i64):=by kernel_rfl
theorem hl_under_string:Tryz.prog.underlying 9=some .string:=by kernel_rfl
theorem hl_under_bool:Tryz.prog.underlying 4=some .bool:=by kernel_rfl
theorem hl_under_ints:Tryz.prog.underlying 79=some (.slice 3):=by kernel_rfl
section
variable {H:Type} {enc:TypeId×Value→H} {w:World} {base:Nat} {sp:Nat→Bool} {held:Bool}
theorem spOf {fuel:Nat} {cs:List Value} {y:DataW H×List MemPlace} (h:DataW.trod enc Tryz.prog w base sp held fuel 47 cs=some y):∃ x,cs=spRow x∧SpBnd x:=by
 obtain ⟨hl,n,hf⟩:=fieldsOf sp_under sp_fields sp_cells h
 rw [sp_fields_size] at hl
 obtain ⟨v0,y0,e0,h0⟩:=fieldVal hf 0 _ sp_t0
 obtain ⟨v1,y1,e1,h1⟩:=fieldVal hf 1 _ sp_t1
 obtain ⟨v2,y2,e2,h2⟩:=fieldVal hf 2 _ sp_t2
 obtain ⟨v3,y3,e3,h3⟩:=fieldVal hf 3 _ sp_t3
 obtain ⟨v4,y4,e4,h4⟩:=fieldVal hf 4 _ sp_t4
 obtain ⟨v5,y5,e5,h5⟩:=fieldVal hf 5 _ sp_t5
 obtain ⟨v6,y6,e6,h6⟩:=fieldVal hf 6 _ sp_t6
 obtain ⟨v7,y7,e7,h7⟩:=fieldVal hf 7 _ sp_t7
 obtain ⟨z0,k0,_,w0⟩:=DataW.trod_int hl_under_int h0
 obtain ⟨z1,k1,_,w1⟩:=DataW.trod_int hl_under_int h1
 obtain ⟨z2,k2,_,w2⟩:=DataW.trod_int hl_under_int h2
 obtain ⟨s3,k3,_,w3⟩:=DataW.trod_string hl_under_string h3
 obtain ⟨s4,k4,_,w4⟩:=DataW.trod_string hl_under_string h4
 obtain ⟨z5,k5,_,w5⟩:=DataW.trod_int hl_under_int h5
 obtain ⟨z6,k6,_,w6⟩:=DataW.trod_int hl_under_int h6
 obtain ⟨s7,k7,_,w7⟩:=DataW.trod_string hl_under_string h7
 simp at k0 k1 k2 k3 k4 k5 k6 k7
 subst k0 k1 k2 k3 k4 k5 k6 k7
 refine ⟨⟨z0,z1,z2,s3,s4,z5,z6,s7⟩,?_,⟨bounds_i64 w0,bounds_i64 w1,bounds_i64 w2,bounds_i64 w5,bounds_i64 w6,w3,w4,w7⟩⟩
 unfold spRow
 match cs,hl with
 | [c0,c1,c2,c3,c4,c5,c6,c7],_ => simp at e0 e1 e2 e3 e4 e5 e6 e7;rw [e0,e1,e2,e3,e4,e5,e6,e7]
def RdBl (w:World) (v:Value) (l:List Bool):Prop :=
 ∃ x c,v=.slice x l.length c∧∀ (j:Nat) (hj:j<l.length),∃ b off,x=some ⟨b,off,none⟩∧b<w.heap.size∧w.cell? ⟨b,off+j,none⟩=some (.bool l[j])
theorem RdBl.below {w':World} {v:Value} {l:List Bool} (h:RdBl w v l) (x:Below w.heap.size w w'):RdBl w' v l:=by
 obtain ⟨a,c,rfl,h⟩:=h
 refine ⟨a,c,rfl,fun j hj => ?_⟩
 obtain ⟨b,off,e,hb,hc⟩:=h j hj
 exact ⟨b,off,e,Nat.lt_of_lt_of_le hb x.size,(x.cell (p:=⟨b,_,none⟩) hb).trans hc⟩
theorem keepInH {fuel:Nat} {v:Value} {y:DataW H×List MemPlace} (h:DataW.trod enc Tryz.prog w base sp held fuel 79 [v]=some y) :
  ∃ l,KeepR w (fun k => w.heap.size≤k) v l∧l.length≤maxLen:=by
 rcases open_ints hl_under_ints hl_under_int (by kernel_rfl) h with ⟨hcs,_⟩ | ⟨a,len,cap,zs,hcs,_,hl,hm,hz,_,hcell,_⟩
 · simp at hcs
   subst hcs
   exact ⟨[],⟨none,0,rfl,fun _ => rfl,fun j hj => absurd hj (by simp)⟩,Nat.zero_le _⟩
 · simp at hcs
   subst hcs
   have hlen:len≤zs.length:=by rw [hz];split <;> omega
   have ht:(zs.take len).length=len:=by rw [List.length_take];omega
   refine ⟨zs.take len,⟨some a,cap,by rw [ht],fun e => (by cases e),fun j hj => ?_⟩,by rw [ht];omega⟩
   have hj':j<len:=by rw [← ht];exact hj
   have hc:=hcell j (by omega)
   have hc0:=hcell 0 (by omega)
   obtain ⟨b,off,spot⟩:=a
   have hspot:spot=none:=by simpa [Addr.add] using World.cell?_spot hc0
   subst hspot
   have e:(⟨b,off,none⟩:Addr).add j=⟨b,off+j,none⟩:=by unfold Addr.add;split <;> simp_all
   rw [e] at hc
   have hb:b<w.heap.size:=by
    rcases Nat.lt_or_ge b w.heap.size with hlt | hge
    · exact hlt
    · simp [World.cell?,Array.getElem?_eq_none hge] at hc
   refine ⟨b,off,rfl,hb,by omega,?_⟩
   rw [hc]
   simp [List.getElem_take,List.getD_eq_getElem?_getD,List.getElem?_eq_getElem (show j<zs.length by omega)]
structure HAct where
 kind:Nat
 s:Sp.Span
 n:Int
 m:Int
 kv:Value
 keep:List Int
def hactC (a:HAct):List Value:=[.int .u8 a.kind,.int .i64 a.s.trace,.int .i64 a.s.id,.int .i64 a.s.parent,.string a.s.service,.string a.s.host,.int .i64 a.s.start,.int .i64 a.s.dur,.string a.s.note,.int .i64 a.n,.int .i64 a.m,a.kv]
structure HActOk (w:World) (B:Nat) (a:HAct):Prop where
 kind:a.kind<256
 s:SpBnd a.s
 n:-9223372036854775808≤a.n∧a.n≤9223372036854775807
 m:-9223372036854775808≤a.m∧a.m≤9223372036854775807
 kv:KeepR w (fun k => B≤k) a.kv a.keep
 keep:a.keep.length≤maxLen
theorem HActOk.below {w w':World} {B:Nat} {a:HAct} (h:HActOk w B a) (x:Below w.heap.size w w'):HActOk w' B a:=⟨h.kind,h.s,h.n,h.m,h.kv.chg (T:=fun _ => False) (Chg.of_below x) (fun _ e => e.elim),h.keep⟩
def RdHA (w:World) (B:Nat) (v:Value) (l:List HAct):Prop :=
 ∃ x c,v=.slice x l.length c∧∀ (j:Nat) (hj:j<l.length),HActOk w B l[j]∧∃ b off,x=some ⟨b,off,none⟩∧b<w.heap.size∧∀ i,i<12→w.cell? ⟨b,off+(j*12+i),none⟩=(hactC l[j])[i]?
theorem RdHA.below {w w':World} {B:Nat} {v:Value} {l:List HAct} (h:RdHA w B v l) (x:Below w.heap.size w w'):RdHA w' B v l:=by
 obtain ⟨a,c,rfl,h⟩:=h
 refine ⟨a,c,rfl,fun j hj => ?_⟩
 obtain ⟨ho,b,off,e,hb,hc⟩:=h j hj
 refine ⟨ho.below x,b,off,e,Nat.lt_of_lt_of_le hb x.size,fun i hi => ?_⟩
 rw [← hc i hi]
 exact x.cell (p:=⟨b,_,none⟩) hb
theorem hk_int:Tryz.prog.cellsOf 3=1:=by kernel_rfl
theorem hk_ints:Tryz.prog.cellsOf 79=1:=by kernel_rfl
theorem hk_span:Tryz.prog.cellsOf 47=8:=by kernel_rfl
end
end Go.Proofs.YtdacanghbepjpaaGreatDoor
namespace Go.Proofs.YtdacanghbepjpaaGreatDoor
set_option linter.unusedSimpArgs false
set_option linter.unusedVariables false
set_option maxRecDepth 100000
open Go.RowKit Go.Maps
open Go.WideShapes Go.ChangeAt Go.Deep
open Dsk
structure DAct where
 kind:Nat
 s:Sp.Span
 n:Nat
 ah:Int
 af:Int
 an:Int
 data:ByteArray
def dactC (a:DAct):List Value:=[.int .u8 a.kind,.int .i64 a.s.trace,.int .i64 a.s.id,.int .i64 a.s.parent,.string a.s.service,.string a.s.host,.int .i64 a.s.start,.int .i64 a.s.dur,.string a.s.note,.int .u8 a.n,.int .i64 a.ah,.int .i64 a.af,.int .i64 a.an,.string a.data]
structure DActOk (a:DAct):Prop where
 kind:a.kind<256
 s:SpBnd a.s
 n:a.n<256
 ah:-9223372036854775808≤a.ah∧a.ah≤9223372036854775807
 af:-9223372036854775808≤a.af∧a.af≤9223372036854775807
 an:-9223372036854775808≤a.an∧a.an≤9223372036854775807
 data:a.data.size≤maxLen
def RdDA (w:World) (v:Value) (l:List DAct):Prop :=
 ∃ x c,v=.slice x l.length c∧∀ (j:Nat) (hj:j<l.length),DActOk l[j]∧∃ b off,x=some ⟨b,off,none⟩∧b<w.heap.size∧∀ i,i<14→w.cell? ⟨b,off+(j*14+i),none⟩=(dactC l[j])[i]?
theorem RdDA.below {w w':World} {v:Value} {l:List DAct} (h:RdDA w v l) (x:Below w.heap.size w w'):RdDA w' v l:=by
 obtain ⟨a,c,rfl,h⟩:=h
 refine ⟨a,c,rfl,fun j hj => ?_⟩
 obtain ⟨ho,b,off,e,hb,hc⟩:=h j hj
 refine ⟨ho,b,off,e,Nat.lt_of_lt_of_le hb x.size,fun i hi => ?_⟩
 rw [← hc i hi]
 exact x.cell (p:=⟨b,_,none⟩) hb
theorem hk_ack:Tryz.prog.cellsOf 51=3:=by kernel_rfl
theorem hk_string:Tryz.prog.cellsOf 9=1:=by kernel_rfl
theorem ack_under:Tryz.prog.underlying 51=some (.struct (Tryz.prog.fieldsOf 51)):=by kernel_rfl
theorem ack_fields_size:(Tryz.prog.fieldsOf 51).size=3:=by kernel_rfl
theorem ack_fields:Go.Deep.oneCellFields Tryz.prog (Tryz.prog.fieldsOf 51)=true:=by kernel_rfl
theorem ack_cells:Tryz.prog.cellsOf 51=(Tryz.prog.fieldsOf 51).size:=by kernel_rfl
theorem ack_t0:((Tryz.prog.fieldsOf 51)[0]?).map (·.type)=some 3:=by kernel_rfl
theorem ack_t1:((Tryz.prog.fieldsOf 51)[1]?).map (·.type)=some 3:=by kernel_rfl
theorem ack_t2:((Tryz.prog.fieldsOf 51)[2]?).map (·.type)=some 3:=by kernel_rfl
section
variable {H:Type} {enc:TypeId×Value→H} {w:World} {base:Nat} {sp:Nat→Bool} {held:Bool}
theorem ackOf {fuel:Nat} {cs:List Value} {y:DataW H×List MemPlace} (h:DataW.trod enc Tryz.prog w base sp held fuel 51 cs=some y):∃ a b c:Int,cs=[.int .i64 a,.int .i64 b,.int .i64 c]∧(-9223372036854775808≤a∧a≤9223372036854775807)∧(-9223372036854775808≤b∧b≤9223372036854775807)∧(-9223372036854775808≤c∧c≤9223372036854775807):=by
 obtain ⟨hl,n,hf⟩:=fieldsOf ack_under ack_fields ack_cells h
 rw [ack_fields_size] at hl
 obtain ⟨v0,y0,e0,h0⟩:=fieldVal hf 0 _ ack_t0
 obtain ⟨v1,y1,e1,h1⟩:=fieldVal hf 1 _ ack_t1
 obtain ⟨v2,y2,e2,h2⟩:=fieldVal hf 2 _ ack_t2
 obtain ⟨z0,k0,_,w0⟩:=DataW.trod_int hl_under_int h0
 obtain ⟨z1,k1,_,w1⟩:=DataW.trod_int hl_under_int h1
 obtain ⟨z2,k2,_,w2⟩:=DataW.trod_int hl_under_int h2
 simp at k0 k1 k2
 subst k0 k1 k2
 refine ⟨z0,z1,z2,?_,bounds_i64 w0,bounds_i64 w1,bounds_i64 w2⟩
 match cs,hl with
 | [c0,c1,c2],_ => simp at e0 e1 e2;rw [e0,e1,e2]
end
end Go.Proofs.YtdacanghbepjpaaGreatDoor
namespace Go.Proofs.YtdacanghbepjpaaGreatDoor
set_option linter.unusedSimpArgs false
set_option linter.unusedVariables false
set_option maxRecDepth 100000
open Go.RowKit Go.Maps
open Dsk
def ndVs (bd j jx:Nat):Array Value:=#[.pointer (some ⟨bd,0,none⟩),.pointer (some ⟨j,0,none⟩),.pointer (some ⟨jx,0,none⟩)]
structure ND (w0:World) (P:Nat→Prop) (W:World) (jn bd j jx:Nat) (d:Dk) (h:Hl) (x:Dm):Prop where
 na:NA w0 P W bd j jx d h x
 blk:Blk W jn 43 (ndVs bd j jx)
 out:¬ P jn
 new:w0.heap.size≤jn
def NDA (w0:World) (P:Nat→Prop) (w:World) (jn bd j jx:Nat) (d':Dk) (h':Hl) (x':Dm) (w':World):Prop:=∃ P',Gr P P' w∧ND w0 P' w' jn bd j jx d' h' x'∧Chg P w w'
section
variable {w0 w w' w2:World} {P P' Q S:Nat→Prop} {jn bd j jx:Nat} {d d' d2:Dk} {h h' h2:Hl} {x x' x2:Dm} {s:Nat} {l:List Sg} {t:Str} {dr:Files}
theorem ND.acted (n:ND w0 P w jn bd j jx d h x) (a:Acted w0 P w bd j jx d' h' x' w'):NDA w0 P w jn bd j jx d' h' x' w':=by
 obtain ⟨P',h1,h2,h3⟩:=a
 exact ⟨P',h1,⟨h2,n.blk.chg h3 n.out,h1.not n.blk.lt n.out,n.new⟩,h3⟩
theorem ND.below (n:ND w0 P w jn bd j jx d h x) (y:Below w.heap.size w w'):ND w0 P w' jn bd j jx d h x:=⟨n.na.below y,n.blk.below y,n.out,n.new⟩
theorem NDA.after {w1:World} (hg:Gr P P' w) (hc:Chg P w w1) (n:NDA w0 P' w1 jn bd j jx d' h' x' w'):NDA w0 P w jn bd j jx d' h' x' w':=by
 obtain ⟨P2,h1,h2,h3⟩:=n
 exact ⟨P2,hg.trans hc.size h1,h2,Chg.thenOn hc h3 fun i hi e => by
  rcases hg i e with e | e
  · exact e
  · omega⟩
theorem ND.other (n:ND w0 P w jn bd j jx d h x) (c:Chg S w w') (hS:∀ k,k<w.heap.size→S k→w0.heap.size≤k∧¬ P k∧k≠jn):ND w0 P w' jn bd j jx d h x :=
 ⟨n.na.other c fun k hk e => ⟨(hS k hk e).1,(hS k hk e).2.1⟩,n.blk.chg c fun e => (hS jn n.blk.lt e).2.2 rfl,n.out,n.new⟩
set_option maxHeartbeats 2000000 in
theorem node_open {u1 u2:Option Addr} (n:DA w0 P w bd d) (hk:Blk w jn 43 #[.pointer (some ⟨bd,0,none⟩),.pointer u1,.pointer u2]) (ho:¬ P jn) (hn:w0.heap.size≤jn)
  (HO:Calls Tryz.prog 101 #[.pointer (some ⟨bd,0,none⟩)] w fun e w' => ∃ j',e=.returned (.tuple #[.pointer (some ⟨j',0,none⟩),.int .i64 0])∧∃ P',Gr P P' w∧LA w0 P' w' bd j' d' h'∧Chg P w w') (host:Int) (hh:Po.HostOk host) {a b:Int} (hl:loadD d'=((a,b),0)) :
  Calls Tryz.prog 39 #[.pointer (some ⟨jn,0,none⟩),.int .i64 host] w fun e w' => e=.returned (.bool true)∧∃ j jx P',Gr P P' w∧ND w0 P' w' jn bd j jx d' h' ⟨host,a,b,noB,0,0⟩∧Chg (fun k => P k∨k=jn) w w':=by
 have HOP:=Lib.hid HO
 have k0:=hk.cell 0
 simp only [List.getElem?_toArray,List.getElem?_cons_zero,List.getElem?_cons_succ] at k0
 have HK:=Lib.hid hk
 have HN:=Lib.hid n
 clear HO n hk
 go_enter Tryz.func39,Tryz.ntmps39
 go_wp2_with fail
 refine HOP.out.mono ?_
 rintro e w1 ⟨j1,rfl,P1,hg1,hla,hc1⟩
 have hk1:=HK.out.chg hc1 ho
 have ho1:=hg1.not HK.out.lt ho
 have k0:=hk1.cell 0
 simp only [List.getElem?_toArray,List.getElem?_cons_zero,List.getElem?_cons_succ] at k0
 have hld:(loadD d').2=0:=by rw [hl]
 have HDO:=Lib.hid (hla.daemon host hh hld)
 rw [hl] at HDO
 have HK1:=Lib.hid hk1
 have HG1:=Lib.hid hg1
 have HC1:=Lib.hid hc1
 have HO1:=Lib.hid ho1
 have HHO:=Lib.hid ho
 clear HOP hk1 hg1 hla hc1 hld hl ho1 ho
 go_wp2_with fail
 refine HDO.out.mono ?_
 rintro e w2 ⟨jx,rfl,hq,hna,hb2⟩
 have hk2:=HK1.out.below hb2
 have f1:=hk2.free 1
 have f2:=hk2.free 2
 have c1:=hk2.cell 1
 have c2:=hk2.cell 2
 simp only [List.getElem?_toArray,List.getElem?_cons_zero,List.getElem?_cons_succ] at c1 c2
 have hk3:=(hk2.set 1 (.pointer (some ⟨j1,0,none⟩))).set 2 (.pointer (some ⟨jx,0,none⟩))
 simp only [List.setIfInBounds_toArray,List.set_cons_zero,List.set_cons_succ] at hk3
 have hc3:Chg (fun k => k=jn) w2 ((w2.setCell ⟨jn,1,none⟩ (.pointer (some ⟨j1,0,none⟩))).setCell ⟨jn,2,none⟩ (.pointer (some ⟨jx,0,none⟩))):=((Chg.refl (fun k => k=jn) w2).setCell (p:=⟨jn,_,none⟩) (fun _ => rfl) _).setCell (p:=⟨jn,_,none⟩) (fun _ => rfl) _
 have hjn:¬ (P1 jn∨jn=jx):=fun e => e.elim HO1.out fun e => by have:=HK1.out.lt;omega
 have HND:=Lib.hid (show ND w0 _ _ jn bd j1 jx d' h' ⟨host,a,b,noB,0,0⟩ from ⟨hna.other hc3 (by rintro k _ rfl;exact ⟨hn,hjn⟩),hk3,hjn,hn⟩)
 have HCH:=Lib.hid (show Chg (fun k => P k∨k=jn) w _ from Chg.thenOn (Chg.thenOn (Chg.mono HC1.out fun _ _ e => .inl e) (Chg.of_below (S:=fun _ => False) hb2) (fun _ _ e => e.elim)) hc3 fun i _ e => .inr e)
 have HGR:=Lib.hid (show Gr P (fun k => P1 k∨k=jx) w from fun k e => by
  rcases e with e | e
  · exact HG1.out k e
  · have:=HC1.out.size;exact .inr (by omega))
 clear hna hb2 hk2 hk3 hc3 hjn HK1 HDO HG1 HC1 HO1 HHO HK HN hq
 go_wp2_with fail
 go_ret
 exact ⟨rfl,j1,jx,_,HGR.out,HND.out,HCH.out⟩
theorem Dk.new_load (c:Nat):loadD (Dk.new c)=((0,0),0):=by
 unfold loadD
 have e:(Dk.new c).read curN=([],4):=rfl
 rw [e,if_pos rfl]
/-! ### what is written -/
theorem NA.lt (n:NA w0 P w bd j jx d h x):∀ k,P k→k<w.heap.size:=by obtain ⟨_,_,_,_,h⟩:=n;exact h
end
end Go.Proofs.YtdacanghbepjpaaGreatDoor
namespace Go.Proofs.YtdacanghbepjpaaGreatDoor
set_option linter.unusedSimpArgs false
set_option linter.unusedVariables false
set_option maxRecDepth 100000
open Go.RowKit Go.Maps
open Dsk
def spanD (n:Int):Sp.Span:=⟨3,n,0,⟨#[97]⟩,⟨#[104]⟩,10,0,⟨#[]⟩⟩
theorem spanD_may {n:Int} (h:1≤n∧n≤100):Sp.May (spanD n):=by
 have h1:Sp.NameOk ⟨#[97]⟩:=by decide
 have h2:Sp.NameOk ⟨#[104]⟩:=by decide
 exact ⟨by simp only [spanD];omega,by simp only [spanD];omega,by simp only [spanD];omega,by simp only [spanD];omega,by simp only [spanD];omega,h1,h2,by simp only [spanD];decide⟩
set_option maxHeartbeats 4000000 in
theorem beyond_span (q:Nat) (s3 s4 s7:ByteArray) (h3:s3.size≤maxLen) (h4:s4.size≤maxLen) (h7:s7.size≤maxLen) (w:World) (k3:w.cell? ⟨q,3,none⟩=some (.string s3)) (k4:w.cell? ⟨q,4,none⟩=some (.string s4)) (k7:w.cell? ⟨q,7,none⟩=some (.string s7)) :
  Calls Tryz.prog 88 #[.slice (some ⟨q,0,none⟩) 1 1,.int .i64 1] w fun e w' => (∃ b:Nat,e=.returned (.bool (b == 1)))∧w=w':=by
 unfold maxLen at h3 h4 h7
 have hlen:(1:Int)=((1:Nat):Int):=rfl
 clear hlen
 go_enter Tryz.func88,Tryz.ntmps88
 go_wp2_with fail
 go_loop [5] (fun v5 => ∃ (k:Nat),v5=.int .i64 k∧k≤1) (fun v5 => 1-(intOf v5).toNat)
 case atStart => exact ⟨0,rfl,by omega⟩
 case round =>
  obtain ⟨k,rfl,hk⟩:=hrel
  have hkc:k=0∨k=1:=by omega
  rcases hkc with rfl | rfl
  · go_wp2_with fail
    all_goals first
     | (go_ret;exact ⟨⟨1,rfl⟩,rfl⟩)
     | (go_round
        case rel => exact ⟨1,by go_num,by omega⟩
        case measure => simp [intOf])
  · go_wp2_with fail
    go_ret
    exact ⟨⟨0,rfl⟩,rfl⟩
end Go.Proofs.YtdacanghbepjpaaGreatDoor
namespace Go.Proofs.YtdacanghbepjpaaGreatDoor
set_option linter.unusedSimpArgs false
set_option linter.unusedVariables false
set_option maxRecDepth 100000
open Go.RowKit Go.Maps
open Dsk
end Go.Proofs.YtdacanghbepjpaaGreatDoor
namespace Go.Proofs.YtdacanghbepjpaaGreatDoor
set_option linter.unusedSimpArgs false
set_option linter.unusedVariables false
open Dsk
section
variable {d d':Dk} {l:List Sg} {s s' k c:Nat} {h h':Hl} {x:Dm} {Ls:List Sp.Span}
theorem NodeC.new (host:Int) (hh:Po.HostOk host) {c:Nat} (h1:1≤c) (h2:c≤1048576):NodeC (Dk.new c) ⟨0,false,[]⟩ 0 ⟨host,0,0,noB,0,0⟩ [] c 0 :=
 ⟨⟨⟨⟨rfl,rfl,rfl⟩,[],LSt.new h1 h2,CurR.start⟩,⟨Int.le_refl _,Int.le_refl _⟩,Int.le_refl _,hh,.inl ⟨rfl,rfl⟩⟩,rfl,rfl,Nat.le_refl _,Nat.le_refl _,rfl,rfl,Nat.le_refl _⟩
theorem NodeC.bounds (n:NodeC d h s x Ls c k) (hk:k≤1000) (hc:120*(k+2)≤c):d.files.length<1024∧total d.files+19≤d.room∧nextOf h.l≤900000000:=by
 have h1:=n.tot
 have h2:=n.len
 have h3:=n.room
 have h4:=n.next
 have h5:=n.many
 omega
def lsE:Nat→List Sg
 | 0 => []
 | n+1 => pushed (lsE n) (spanD ((n:Int)+1))
theorem first_lsE (hk:k≤4):firstOf (lsE k)=0:=by
 match k,hk with
 | 0,_ => rfl
 | 1,_ => rfl
 | 2,_ => rfl
 | 3,_ => rfl
 | 4,_ => rfl
end
end Go.Proofs.YtdacanghbepjpaaGreatDoor
