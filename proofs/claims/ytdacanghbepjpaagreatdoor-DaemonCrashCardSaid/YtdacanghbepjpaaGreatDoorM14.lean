/- Spans, truth values and acts of a host's log that come in. Acts of the laws on a daemon that come in. The laws on a daemon: a node that begins, that is opened; what is written; what is beyond; a span, an answer: walked. The laws on a daemon: a span, an answer, what is beyond: walked. The laws on a daemon: which acts are beyond: walked. The chapter's daemon: what it comes to, plainly. -/
import Derived.Test.YtdacanghbepjpaaGreatDoorM5
import Derived.SliceStrings
import Derived.ProofKit
import Derived.OpenShut
import Derived.Test.YtdacanghbepjpaaGreatDoorM13
namespace Go.Proofs.YtdacanghbepjpaaGreatDoor
set_option linter.unusedSimpArgs false
set_option linter.unusedVariables false
set_option maxRecDepth 100000
open Go.RowKit Go.Maps
open Go.WideShapes Go.ChangeAt Go.Deep
open Go.ChangeShapes (open_ints)
open Dsk
structure SpBnd (x:Sp.Span):Prop where
 trace:-9223372036854775808≤x.trace∧x.trace≤9223372036854775807
 id:-9223372036854775808≤x.id∧x.id≤9223372036854775807
 parent:-9223372036854775808≤x.parent∧x.parent≤9223372036854775807
 start:-9223372036854775808≤x.start∧x.start≤9223372036854775807
 dur:-9223372036854775808≤x.dur∧x.dur≤9223372036854775807
 service:x.service.size≤maxLen
 host:x.host.size≤maxLen
 note:x.note.size≤maxLen
theorem sp_fields_size:(Tryz.prog.fieldsOf 47).size=8:=by kernel_rfl
theorem sp_fields:Go.Deep.oneCellFields Tryz.prog (Tryz.prog.fieldsOf 47)=true:=by kernel_rfl
theorem sp_under:Tryz.prog.underlying 47=some (.struct (Tryz.prog.fieldsOf 47)):=by kernel_rfl
theorem sp_cells:Tryz.prog.cellsOf 47=(Tryz.prog.fieldsOf 47).size:=by kernel_rfl
theorem sp_t0:((Tryz.prog.fieldsOf 47)[0]?).map (·.type)=some 3:=by kernel_rfl
theorem sp_t1:((Tryz.prog.fieldsOf 47)[1]?).map (·.type)=some 3:=by kernel_rfl
theorem sp_t2:((Tryz.prog.fieldsOf 47)[2]?).map (·.type)=some 3:=by kernel_rfl
theorem sp_t3:((Tryz.prog.fieldsOf 47)[3]?).map (·.type)=some 9:=by kernel_rfl
theorem sp_t4:((Tryz.prog.fieldsOf 47)[4]?).map (·.type)=some 9:=by kernel_rfl
theorem sp_t5:((Tryz.prog.fieldsOf 47)[5]?).map (·.type)=some 3:=by kernel_rfl
theorem sp_t6:((Tryz.prog.fieldsOf 47)[6]?).map (·.type)=some 3:=by kernel_rfl
theorem sp_t7:((Tryz.prog.fieldsOf 47)[7]?).map (·.type)=some 9:=by kernel_rfl
theorem hl_under_int:Tryz.prog.underlying 3=some (.int .i64):=by kernel_rfl
theorem hl_under_string:Tryz.prog.underlying 9=some .string:=by kernel_rfl
theorem hl_under_u8:Tryz.prog.underlying 5=some (.int .u8):=by kernel_rfl
theorem hl_under_ints:Tryz.prog.underlying 79=some (.slice 3):=by kernel_rfl
section
variable {H:Type} {enc:TypeId×Value→H} {w:World} {base:Nat} {sp:Nat→Bool} {held:Bool}
theorem spOf {fuel:Nat} {cs:List Value} {y:DataW H×List MemPlace} (h:DataW.trod enc Tryz.prog w base sp held fuel 47 cs=some y):∃ x,cs=spRow x∧SpBnd x:=by
 obtain ⟨hl,n,hf⟩:=fieldsOf sp_under sp_fields sp_cells h
 rw [sp_fields_size] at hl
 obtain ⟨v0,y0,e0,h0⟩:=fieldVal hf 0 _ sp_t0
 obtain ⟨v1,y1,e1,h1⟩:=fieldVal hf 1 _ sp_t1
 obtain ⟨v2,y2,e2,h2⟩:=fieldVal hf 2 _ sp_t2
 obtain ⟨v3,y3,e3,h3⟩:=fieldVal hf 3 _ sp_t3
 obtain ⟨v4,y4,e4,h4⟩:=fieldVal hf 4 _ sp_t4
 obtain ⟨v5,y5,e5,h5⟩:=fieldVal hf 5 _ sp_t5
 obtain ⟨v6,y6,e6,h6⟩:=fieldVal hf 6 _ sp_t6
 obtain ⟨v7,y7,e7,h7⟩:=fieldVal hf 7 _ sp_t7
 obtain ⟨z0,k0,_,w0⟩:=DataW.trod_int hl_under_int h0
 obtain ⟨z1,k1,_,w1⟩:=DataW.trod_int hl_under_int h1
 obtain ⟨z2,k2,_,w2⟩:=DataW.trod_int hl_under_int h2
 obtain ⟨s3,k3,_,w3⟩:=DataW.trod_string hl_under_string h3
 obtain ⟨s4,k4,_,w4⟩:=DataW.trod_string hl_under_string h4
 obtain ⟨z5,k5,_,w5⟩:=DataW.trod_int hl_under_int h5
 obtain ⟨z6,k6,_,w6⟩:=DataW.trod_int hl_under_int h6
 obtain ⟨s7,k7,_,w7⟩:=DataW.trod_string hl_under_string h7
 simp at k0 k1 k2 k3 k4 k5 k6 k7
 subst k0 k1 k2 k3 k4 k5 k6 k7
 refine ⟨⟨z0,z1,z2,s3,s4,z5,z6,s7⟩,?_,⟨bounds_i64 w0,bounds_i64 w1,bounds_i64 w2,bounds_i64 w5,bounds_i64 w6,w3,w4,w7⟩⟩
 unfold spRow
 match cs,hl with
 | [c0,c1,c2,c3,c4,c5,c6,c7],_ => simp at e0 e1 e2 e3 e4 e5 e6 e7;rw [e0,e1,e2,e3,e4,e5,e6,e7]
def RdBl (w:World) (v:Value) (l:List Bool):Prop :=
 ∃ x c,v=.slice x l.length c∧∀ (j:Nat) (hj:j<l.length),∃ b off,x=some ⟨b,off,none⟩∧b<w.heap.size∧w.cell? ⟨b,off+j,none⟩=some (.bool l[j])
theorem RdBl.below {w':World} {v:Value} {l:List Bool} (h:RdBl w v l) (x:Below w.heap.size w w'):RdBl w' v l:=by
 obtain ⟨a,c,rfl,h⟩:=h
 refine ⟨a,c,rfl,fun j hj => ?_⟩
 obtain ⟨b,off,e,hb,hc⟩:=h j hj
 exact ⟨b,off,e,Nat.lt_of_lt_of_le hb x.size,(x.cell (p:=⟨b,_,none⟩) hb).trans hc⟩
theorem keepInH {fuel:Nat} {v:Value} {y:DataW H×List MemPlace} (h:DataW.trod enc Tryz.prog w base sp held fuel 79 [v]=some y) :
  ∃ l,KeepR w (fun k => w.heap.size≤k) v l∧l.length≤maxLen:=by
 rcases open_ints hl_under_ints hl_under_int (by kernel_rfl) h with ⟨hcs,_⟩ | ⟨a,len,cap,zs,hcs,_,hl,hm,hz,_,hcell,_⟩
 · simp at hcs
   subst hcs
   exact ⟨[],⟨none,0,rfl,fun _ => rfl,fun j hj => absurd hj (by simp)⟩,Nat.zero_le _⟩
 · simp at hcs
   subst hcs
   have hlen:len≤zs.length:=by rw [hz];split <;> omega
   have ht:(zs.take len).length=len:=by rw [List.length_take];omega
   refine ⟨zs.take len,⟨some a,cap,by rw [ht],fun e => (by cases e),fun j hj => ?_⟩,by rw [ht];omega⟩
   have hj':j<len:=by rw [← ht];exact hj
   have hc:=hcell j (by omega)
   have hc0:=hcell 0 (by omega)
   obtain ⟨b,off,spot⟩:=a
   have hspot:spot=none:=by simpa [Addr.add] using World.cell?_spot hc0
   subst hspot
   have e:(⟨b,off,none⟩:Addr).add j=⟨b,off+j,none⟩:=by unfold Addr.add;split <;> simp_all
   rw [e] at hc
   have hb:b<w.heap.size:=by
    rcases Nat.lt_or_ge b w.heap.size with hlt | hge
    · exact hlt
    · simp [World.cell?,Array.getElem?_eq_none hge] at hc
   refine ⟨b,off,rfl,hb,by omega,?_⟩
   rw [hc]
   simp [List.getElem_take,List.getD_eq_getElem?_getD,List.getElem?_eq_getElem (show j<zs.length by omega)]
def KeepIn (w:World) (x:Value×List Int):Prop:=KeepR w (fun k => w.heap.size≤k) x.1 x.2∧x.2.length≤maxLen
theorem openKeepH {r:Reach} {b0:Nat} {v:Value} {d:DataW H} {p:List MemPlace} (hv:Value.okWide Tryz.prog w r b0 79 v) (h:DataW.Trod enc Tryz.prog w base sp held 79 v d p) :
  ∃ a:Value×List Int,v=a.1∧KeepIn w a:=by
 obtain ⟨a0,len,cap,rfl⟩:=okWide_slice hl_under_ints hv
 obtain ⟨fuel,hf⟩:=h
 obtain ⟨l,hk,hl⟩:=keepInH (by simpa [Value.cells] using hf)
 exact ⟨(_,l),rfl,hk,hl⟩
structure HAct where
 kind:Nat
 s:Sp.Span
 n:Int
 m:Int
 kv:Value
 keep:List Int
def hactC (a:HAct):List Value:=[.int .u8 a.kind,.int .i64 a.s.trace,.int .i64 a.s.id,.int .i64 a.s.parent,.string a.s.service,.string a.s.host,.int .i64 a.s.start,.int .i64 a.s.dur,.string a.s.note,.int .i64 a.n,.int .i64 a.m,a.kv]
structure HActOk (w:World) (B:Nat) (a:HAct):Prop where
 kind:a.kind<256
 s:SpBnd a.s
 n:-9223372036854775808≤a.n∧a.n≤9223372036854775807
 m:-9223372036854775808≤a.m∧a.m≤9223372036854775807
 kv:KeepR w (fun k => B≤k) a.kv a.keep
 keep:a.keep.length≤maxLen
theorem HActOk.below {w w':World} {B:Nat} {a:HAct} (h:HActOk w B a) (x:Below w.heap.size w w'):HActOk w' B a:=⟨h.kind,h.s,h.n,h.m,h.kv.chg (T:=fun _ => False) (Chg.of_below x) (fun _ e => e.elim),h.keep⟩
def RdHA (w:World) (B:Nat) (v:Value) (l:List HAct):Prop :=
 ∃ x c,v=.slice x l.length c∧∀ (j:Nat) (hj:j<l.length),HActOk w B l[j]∧∃ b off,x=some ⟨b,off,none⟩∧b<w.heap.size∧∀ i,i<12→w.cell? ⟨b,off+(j*12+i),none⟩=(hactC l[j])[i]?
theorem RdHA.below {w w':World} {B:Nat} {v:Value} {l:List HAct} (h:RdHA w B v l) (x:Below w.heap.size w w'):RdHA w' B v l:=by
 obtain ⟨a,c,rfl,h⟩:=h
 refine ⟨a,c,rfl,fun j hj => ?_⟩
 obtain ⟨ho,b,off,e,hb,hc⟩:=h j hj
 refine ⟨ho.below x,b,off,e,Nat.lt_of_lt_of_le hb x.size,fun i hi => ?_⟩
 rw [← hc i hi]
 exact x.cell (p:=⟨b,_,none⟩) hb
theorem hk_u8:Tryz.prog.cellsOf 5=1:=by kernel_rfl
theorem hk_span:Tryz.prog.cellsOf 47=8:=by kernel_rfl
end
end Go.Proofs.YtdacanghbepjpaaGreatDoor
namespace Go.Proofs.YtdacanghbepjpaaGreatDoor
set_option linter.unusedSimpArgs false
set_option linter.unusedVariables false
set_option maxRecDepth 100000
open Go.RowKit Go.Maps
open Go.WideShapes Go.ChangeAt Go.Deep
open Dsk
structure DAct where
 kind:Nat
 s:Sp.Span
 n:Nat
 ah:Int
 af:Int
 an:Int
 data:ByteArray
def dactC (a:DAct):List Value:=[.int .u8 a.kind,.int .i64 a.s.trace,.int .i64 a.s.id,.int .i64 a.s.parent,.string a.s.service,.string a.s.host,.int .i64 a.s.start,.int .i64 a.s.dur,.string a.s.note,.int .u8 a.n,.int .i64 a.ah,.int .i64 a.af,.int .i64 a.an,.string a.data]
structure DActOk (a:DAct):Prop where
 kind:a.kind<256
 s:SpBnd a.s
 n:a.n<256
 ah:-9223372036854775808≤a.ah∧a.ah≤9223372036854775807
 af:-9223372036854775808≤a.af∧a.af≤9223372036854775807
 an:-9223372036854775808≤a.an∧a.an≤9223372036854775807
 data:a.data.size≤maxLen
def RdDA (w:World) (v:Value) (l:List DAct):Prop :=
 ∃ x c,v=.slice x l.length c∧∀ (j:Nat) (hj:j<l.length),DActOk l[j]∧∃ b off,x=some ⟨b,off,none⟩∧b<w.heap.size∧∀ i,i<14→w.cell? ⟨b,off+(j*14+i),none⟩=(dactC l[j])[i]?
theorem RdDA.below {w w':World} {v:Value} {l:List DAct} (h:RdDA w v l) (x:Below w.heap.size w w'):RdDA w' v l:=by
 obtain ⟨a,c,rfl,h⟩:=h
 refine ⟨a,c,rfl,fun j hj => ?_⟩
 obtain ⟨ho,b,off,e,hb,hc⟩:=h j hj
 refine ⟨ho,b,off,e,Nat.lt_of_lt_of_le hb x.size,fun i hi => ?_⟩
 rw [← hc i hi]
 exact x.cell (p:=⟨b,_,none⟩) hb
theorem dact_under:Tryz.prog.underlying 59=some (.struct (Tryz.prog.fieldsOf 59)):=by kernel_rfl
theorem dacts_under:Tryz.prog.underlying 55=some (.slice 59):=by kernel_rfl
theorem dact_cells:Tryz.prog.cellsOf 59=14:=by kernel_rfl
theorem dact_f0:((Tryz.prog.fieldsOf 59)[0]?).map (fun f => (f.type,f.offset))=some (5,0):=by kernel_rfl
theorem dact_f1:((Tryz.prog.fieldsOf 59)[1]?).map (fun f => (f.type,f.offset))=some (47,1):=by kernel_rfl
theorem dact_f2:((Tryz.prog.fieldsOf 59)[2]?).map (fun f => (f.type,f.offset))=some (5,9):=by kernel_rfl
theorem dact_f3:((Tryz.prog.fieldsOf 59)[3]?).map (fun f => (f.type,f.offset))=some (51,10):=by kernel_rfl
theorem dact_f4:((Tryz.prog.fieldsOf 59)[4]?).map (fun f => (f.type,f.offset))=some (9,13):=by kernel_rfl
theorem hk_ack:Tryz.prog.cellsOf 51=3:=by kernel_rfl
theorem hk_string:Tryz.prog.cellsOf 9=1:=by kernel_rfl
theorem ack_under:Tryz.prog.underlying 51=some (.struct (Tryz.prog.fieldsOf 51)):=by kernel_rfl
theorem ack_fields_size:(Tryz.prog.fieldsOf 51).size=3:=by kernel_rfl
theorem ack_fields:Go.Deep.oneCellFields Tryz.prog (Tryz.prog.fieldsOf 51)=true:=by kernel_rfl
theorem ack_cells:Tryz.prog.cellsOf 51=(Tryz.prog.fieldsOf 51).size:=by kernel_rfl
theorem ack_t0:((Tryz.prog.fieldsOf 51)[0]?).map (·.type)=some 3:=by kernel_rfl
theorem ack_t1:((Tryz.prog.fieldsOf 51)[1]?).map (·.type)=some 3:=by kernel_rfl
theorem ack_t2:((Tryz.prog.fieldsOf 51)[2]?).map (·.type)=some 3:=by kernel_rfl
section
variable {H:Type} {enc:TypeId×Value→H} {w:World} {base:Nat} {sp:Nat→Bool} {held:Bool}
theorem ackOf {fuel:Nat} {cs:List Value} {y:DataW H×List MemPlace} (h:DataW.trod enc Tryz.prog w base sp held fuel 51 cs=some y):∃ a b c:Int,cs=[.int .i64 a,.int .i64 b,.int .i64 c]∧(-9223372036854775808≤a∧a≤9223372036854775807)∧(-9223372036854775808≤b∧b≤9223372036854775807)∧(-9223372036854775808≤c∧c≤9223372036854775807):=by
 obtain ⟨hl,n,hf⟩:=fieldsOf ack_under ack_fields ack_cells h
 rw [ack_fields_size] at hl
 obtain ⟨v0,y0,e0,h0⟩:=fieldVal hf 0 _ ack_t0
 obtain ⟨v1,y1,e1,h1⟩:=fieldVal hf 1 _ ack_t1
 obtain ⟨v2,y2,e2,h2⟩:=fieldVal hf 2 _ ack_t2
 obtain ⟨z0,k0,_,w0⟩:=DataW.trod_int hl_under_int h0
 obtain ⟨z1,k1,_,w1⟩:=DataW.trod_int hl_under_int h1
 obtain ⟨z2,k2,_,w2⟩:=DataW.trod_int hl_under_int h2
 simp at k0 k1 k2
 subst k0 k1 k2
 refine ⟨z0,z1,z2,?_,bounds_i64 w0,bounds_i64 w1,bounds_i64 w2⟩
 match cs,hl with
 | [c0,c1,c2],_ => simp at e0 e1 e2;rw [e0,e1,e2]
theorem dactOf {fuel:Nat} {cs:List Value} {y:DataW H×List MemPlace} (h:DataW.trod enc Tryz.prog w base sp held fuel 59 cs=some y):∃ a,cs=dactC a∧DActOk a:=by
 obtain ⟨ys,n,_,_,hlen,hyl,hf⟩:=DataW.trod_struct dact_under h
 rw [dact_cells] at hlen
 match cs,hlen,hf with
 | [c0,c1,c2,c3,c4,c5,c6,c7,c8,c9,c10,c11,c12,c13],_,hf =>
  have fa:∀ (j:Nat) (t o k:Nat),((Tryz.prog.fieldsOf 59)[j]?).map (fun f => (f.type,f.offset))=some (t,o)→Tryz.prog.cellsOf t=k→∃ y,DataW.trod enc Tryz.prog w base sp held n t ((([c0,c1,c2,c3,c4,c5,c6,c7,c8,c9,c10,c11,c12,c13]:List Value).drop o).take k)=some y:=by
   intro j t o k hj hk
   obtain ⟨f,hfj,hto⟩:=Option.map_eq_some_iff.1 hj
   simp only [Prod.mk.injEq] at hto
   obtain ⟨rfl,rfl⟩:=hto
   have h1:=hf j f hfj
   rw [hk] at h1
   have hjl:j<(Tryz.prog.fieldsOf 59).size:=(Array.getElem?_eq_some_iff.1 hfj).1
   rw [List.getElem?_eq_getElem (show j<ys.length by omega)] at h1
   exact ⟨_,h1⟩
  obtain ⟨y0,h0⟩:=fa 0 _ _ _ dact_f0 hk_u8
  obtain ⟨y1,h1⟩:=fa 1 _ _ _ dact_f1 hk_span
  obtain ⟨y2,h2⟩:=fa 2 _ _ _ dact_f2 hk_u8
  obtain ⟨y3,h3⟩:=fa 3 _ _ _ dact_f3 hk_ack
  obtain ⟨y4,h4⟩:=fa 4 _ _ _ dact_f4 hk_string
  simp at h0 h1 h2 h3 h4
  obtain ⟨k,hk,_,w0⟩:=DataW.trod_int hl_under_u8 h0
  obtain ⟨x,hx,hxb⟩:=spOf h1
  obtain ⟨m,hm,_,w2⟩:=DataW.trod_int hl_under_u8 h2
  obtain ⟨p,q,r,hpq,g1,g2,g3⟩:=ackOf h3
  obtain ⟨z,hz,_,w4⟩:=DataW.trod_string hl_under_string h4
  simp [spRow] at hk hx hm hpq hz
  obtain ⟨rfl,rfl,rfl,rfl,rfl,rfl,rfl,rfl⟩:=hx
  obtain ⟨rfl,rfl,rfl⟩:=hpq
  subst hk hm hz
  have b0:=bounds_u8 w0
  have b2:=bounds_u8 w2
  refine ⟨⟨k.toNat,x,m.toNat,p,q,r,z⟩,?_,⟨by show k.toNat<256;omega,hxb,by show m.toNat<256;omega,g1,g2,g3,w4⟩⟩
  unfold dactC
  have ek:((k.toNat:Nat):Int)=k:=Int.toNat_of_nonneg b0.1
  have em:((m.toNat:Nat):Int)=m:=Int.toNat_of_nonneg b2.1
  rw [ek,em]
def DActsIn (w:World) (x:Value×List DAct):Prop:=RdDA w x.1 x.2∧x.2.length≤maxLen
theorem openDActs {r:Reach} {b0:Nat} {v:Value} {d:DataW H} {p:List MemPlace} (hv:Value.okWide Tryz.prog w r b0 55 v) (h:DataW.Trod enc Tryz.prog w base sp held 55 v d p) :
  ∃ a:Value×List DAct,v=a.1∧DActsIn w a:=by
 obtain ⟨a0,len,cap,rfl⟩:=okWide_slice dacts_under hv
 obtain ⟨fuel,hf⟩:=h
 have hf2:DataW.trod enc Tryz.prog w base sp held fuel 55 [.slice a0 len cap]=some (d,p):=by simpa [Value.cells] using hf
 rcases Go.Deep.open_slice dacts_under hf2 with ⟨h0,_⟩ | ⟨a',len',cap',m,n,D,Pl,hcs,hb,hl,hm,hmm,hx,hi⟩
 · simp at h0
   obtain ⟨rfl,rfl,rfl⟩:=h0
   exact ⟨(_,[]),rfl,⟨none,0,rfl,fun j hj => absurd hj (by simp)⟩,Nat.zero_le _⟩
 · simp at hcs
   obtain ⟨rfl,rfl,rfl⟩:=hcs
   have e0:∀ x:Addr,x.add 0=x:=fun x => by unfold Addr.add;simp
   have hex:∀ i:Fin len,∃ a:DAct,DActOk a∧∃ b off,a'=⟨b,off,none⟩∧b<w.heap.size∧∀ j,j<14→w.cell? ⟨b,off+(i*14+j),none⟩=(dactC a)[j]?:=fun i => by
    obtain ⟨cs',hc,htr⟩:=hi i (by rw [hmm];split <;> omega)
    rw [dact_cells] at hc
    obtain ⟨_,hcl,hat⟩:=World.cells?_some hc
    obtain ⟨a,rfl,ho⟩:=dactOf htr
    obtain ⟨cs0,hc0,_⟩:=hi 0 (by have:=i.2;rw [hmm];split <;> omega)
    rw [dact_cells,Nat.zero_mul] at hc0
    obtain ⟨_,hcl0,hat0⟩:=World.cells?_some hc0
    have h0:=hat0 0 (by omega)
    rw [List.getElem?_eq_getElem (show 0<cs0.length by omega),e0,e0] at h0
    obtain ⟨b,off,spot⟩:=a'
    have hspot:spot=none:=World.cell?_spot h0
    subst hspot
    have ea:∀ j,(((⟨b,off,none⟩:Addr).add (i*14)).add j)=⟨b,off+(i*14+j),none⟩:=fun j => by
     rw [add_none,add_none,Nat.add_assoc]
    refine ⟨a,ho,b,off,rfl,?_,fun j hj => by rw [← ea j];exact hat j hj⟩
    rcases Nat.lt_or_ge b w.heap.size with hlt | hge
    · exact hlt
    · simp [World.cell?,Array.getElem?_eq_none hge] at h0
   obtain ⟨f,hf⟩:=Classical.axiomOfChoice hex
   refine ⟨(.slice (some a') len cap,List.ofFn f),rfl,⟨some a',cap,by simp,fun j hj => ?_⟩,by simp;omega⟩
   have hj':j<len:=by simpa using hj
   obtain ⟨h1,b,off,h2,h3,h4⟩:=hf ⟨j,hj'⟩
   simp only [List.getElem_ofFn]
   exact ⟨h1,b,off,by rw [h2],h3,h4⟩
end
theorem dact_load {w:World} {b off:Nat} {a:DAct} (hc:∀ i,i<14→w.cell? ⟨b,off+i,none⟩=(dactC a)[i]?) :
  w.cell? ⟨b,off,none⟩=some (.int .u8 a.kind)∧w.cell? ⟨b,off+1,none⟩=some (.int .i64 a.s.trace)∧w.cell? ⟨b,off+2,none⟩=some (.int .i64 a.s.id)∧w.cell? ⟨b,off+3,none⟩=some (.int .i64 a.s.parent) ∧
  w.cell? ⟨b,off+4,none⟩=some (.string a.s.service)∧w.cell? ⟨b,off+5,none⟩=some (.string a.s.host)∧w.cell? ⟨b,off+6,none⟩=some (.int .i64 a.s.start)∧w.cell? ⟨b,off+7,none⟩=some (.int .i64 a.s.dur) ∧
  w.cell? ⟨b,off+8,none⟩=some (.string a.s.note)∧w.cell? ⟨b,off+9,none⟩=some (.int .u8 a.n)∧w.cell? ⟨b,off+10,none⟩=some (.int .i64 a.ah)∧w.cell? ⟨b,off+11,none⟩=some (.int .i64 a.af)∧w.cell? ⟨b,off+12,none⟩=some (.int .i64 a.an)∧w.cell? ⟨b,off+13,none⟩=some (.string a.data) :=
 ⟨hc 0 (by omega),hc 1 (by omega),hc 2 (by omega),hc 3 (by omega),hc 4 (by omega),hc 5 (by omega),hc 6 (by omega),hc 7 (by omega),hc 8 (by omega),hc 9 (by omega),hc 10 (by omega),hc 11 (by omega),hc 12 (by omega),hc 13 (by omega)⟩
end Go.Proofs.YtdacanghbepjpaaGreatDoor
namespace Go.Proofs.YtdacanghbepjpaaGreatDoor
set_option linter.unusedSimpArgs false
set_option linter.unusedVariables false
set_option maxRecDepth 100000
open Go.RowKit Go.Maps
open Dsk
def ndVs (bd j jx:Nat):Array Value:=#[.pointer (some ⟨bd,0,none⟩),.pointer (some ⟨j,0,none⟩),.pointer (some ⟨jx,0,none⟩)]
structure ND (w0:World) (P:Nat→Prop) (W:World) (jn bd j jx:Nat) (d:Dk) (h:Hl) (x:Dm):Prop where
 na:NA w0 P W bd j jx d h x
 blk:Blk W jn 43 (ndVs bd j jx)
 out:¬ P jn
 new:w0.heap.size≤jn
def NDA (w0:World) (P:Nat→Prop) (w:World) (jn bd j jx:Nat) (d':Dk) (h':Hl) (x':Dm) (w':World):Prop:=∃ P',Gr P P' w∧ND w0 P' w' jn bd j jx d' h' x'∧Chg P w w'
section
variable {w0 w w' w2:World} {P P' Q S:Nat→Prop} {jn bd j jx:Nat} {d d' d2:Dk} {h h' h2:Hl} {x x' x2:Dm} {s:Nat} {l:List Sg} {t:Str} {dr:Files}
theorem ND.acted (n:ND w0 P w jn bd j jx d h x) (a:Acted w0 P w bd j jx d' h' x' w'):NDA w0 P w jn bd j jx d' h' x' w':=by
 obtain ⟨P',h1,h2,h3⟩:=a
 exact ⟨P',h1,⟨h2,n.blk.chg h3 n.out,h1.not n.blk.lt n.out,n.new⟩,h3⟩
theorem ND.below (n:ND w0 P w jn bd j jx d h x) (y:Below w.heap.size w w'):ND w0 P w' jn bd j jx d h x:=⟨n.na.below y,n.blk.below y,n.out,n.new⟩
theorem NDA.same (n:ND w0 P w jn bd j jx d h x) (y:Below w.heap.size w w'):NDA w0 P w jn bd j jx d h x w':=⟨P,Gr.refl _ _,n.below y,Chg.of_below y⟩
theorem ND.cells (n:ND w0 P w jn bd j jx d h x):w.cell? ⟨jn,0,none⟩=some (.pointer (some ⟨bd,0,none⟩))∧w.cell? ⟨jn,1,none⟩=some (.pointer (some ⟨j,0,none⟩))∧w.cell? ⟨jn,2,none⟩=some (.pointer (some ⟨jx,0,none⟩)) :=
 ⟨n.blk.cell 0,n.blk.cell 1,n.blk.cell 2⟩
theorem NDA.after {w1:World} (hg:Gr P P' w) (hc:Chg P w w1) (n:NDA w0 P' w1 jn bd j jx d' h' x' w'):NDA w0 P w jn bd j jx d' h' x' w':=by
 obtain ⟨P2,h1,h2,h3⟩:=n
 exact ⟨P2,hg.trans hc.size h1,h2,Chg.thenOn hc h3 fun i hi e => by
  rcases hg i e with e | e
  · exact e
  · omega⟩
theorem NDA.pre (y:Below w.heap.size w w') (hU:∀ k,P k→k<w.heap.size) (n:NDA w0 P w' jn bd j jx d' h' x' w2):NDA w0 P w jn bd j jx d' h' x' w2:=NDA.after (Gr.refl _ _) (Chg.of_below y) n
theorem NDA.base (hw:w0.heap.size≤w.heap.size) (n:NDA w0 P w jn bd j jx d' h' x' w'):w.heap.size≤w'.heap.size:=by obtain ⟨_,_,_,h⟩:=n;exact h.size
theorem ND.other (n:ND w0 P w jn bd j jx d h x) (c:Chg S w w') (hS:∀ k,k<w.heap.size→S k→w0.heap.size≤k∧¬ P k∧k≠jn):ND w0 P w' jn bd j jx d h x :=
 ⟨n.na.other c fun k hk e => ⟨(hS k hk e).1,(hS k hk e).2.1⟩,n.blk.chg c fun e => (hS jn n.blk.lt e).2.2 rfl,n.out,n.new⟩
set_option maxHeartbeats 2000000 in
theorem node_open {u1 u2:Option Addr} (n:DA w0 P w bd d) (hk:Blk w jn 43 #[.pointer (some ⟨bd,0,none⟩),.pointer u1,.pointer u2]) (ho:¬ P jn) (hn:w0.heap.size≤jn)
  (HO:Calls Tryz.prog 101 #[.pointer (some ⟨bd,0,none⟩)] w fun e w' => ∃ j',e=.returned (.tuple #[.pointer (some ⟨j',0,none⟩),.int .i64 0])∧∃ P',Gr P P' w∧LA w0 P' w' bd j' d' h'∧Chg P w w') (host:Int) (hh:Po.HostOk host) {a b:Int} (hl:loadD d'=((a,b),0)) :
  Calls Tryz.prog 39 #[.pointer (some ⟨jn,0,none⟩),.int .i64 host] w fun e w' => e=.returned (.bool true)∧∃ j jx P',Gr P P' w∧ND w0 P' w' jn bd j jx d' h' ⟨host,a,b,noB,0,0⟩∧Chg (fun k => P k∨k=jn) w w':=by
 have HOP:=Lib.hid HO
 have k0:=hk.cell 0
 simp only [List.getElem?_toArray,List.getElem?_cons_zero,List.getElem?_cons_succ] at k0
 have HK:=Lib.hid hk
 have HN:=Lib.hid n
 clear HO n hk
 go_enter Tryz.func39,Tryz.ntmps39
 go_wp2_with fail
 refine HOP.out.mono ?_
 rintro e w1 ⟨j1,rfl,P1,hg1,hla,hc1⟩
 have hk1:=HK.out.chg hc1 ho
 have ho1:=hg1.not HK.out.lt ho
 have k0:=hk1.cell 0
 simp only [List.getElem?_toArray,List.getElem?_cons_zero,List.getElem?_cons_succ] at k0
 have hld:(loadD d').2=0:=by rw [hl]
 have HDO:=Lib.hid (hla.daemon host hh hld)
 rw [hl] at HDO
 have HK1:=Lib.hid hk1
 have HG1:=Lib.hid hg1
 have HC1:=Lib.hid hc1
 have HO1:=Lib.hid ho1
 have HHO:=Lib.hid ho
 clear HOP hk1 hg1 hla hc1 hld hl ho1 ho
 go_wp2_with fail
 refine HDO.out.mono ?_
 rintro e w2 ⟨jx,rfl,hq,hna,hb2⟩
 have hk2:=HK1.out.below hb2
 have f1:=hk2.free 1
 have f2:=hk2.free 2
 have c1:=hk2.cell 1
 have c2:=hk2.cell 2
 simp only [List.getElem?_toArray,List.getElem?_cons_zero,List.getElem?_cons_succ] at c1 c2
 have hk3:=(hk2.set 1 (.pointer (some ⟨j1,0,none⟩))).set 2 (.pointer (some ⟨jx,0,none⟩))
 simp only [List.setIfInBounds_toArray,List.set_cons_zero,List.set_cons_succ] at hk3
 have hc3:Chg (fun k => k=jn) w2 ((w2.setCell ⟨jn,1,none⟩ (.pointer (some ⟨j1,0,none⟩))).setCell ⟨jn,2,none⟩ (.pointer (some ⟨jx,0,none⟩))):=((Chg.refl (fun k => k=jn) w2).setCell (p:=⟨jn,_,none⟩) (fun _ => rfl) _).setCell (p:=⟨jn,_,none⟩) (fun _ => rfl) _
 have hjn:¬ (P1 jn∨jn=jx):=fun e => e.elim HO1.out fun e => by have:=HK1.out.lt;omega
 have HND:=Lib.hid (show ND w0 _ _ jn bd j1 jx d' h' ⟨host,a,b,noB,0,0⟩ from ⟨hna.other hc3 (by rintro k _ rfl;exact ⟨hn,hjn⟩),hk3,hjn,hn⟩)
 have HCH:=Lib.hid (show Chg (fun k => P k∨k=jn) w _ from Chg.thenOn (Chg.thenOn (Chg.mono HC1.out fun _ _ e => .inl e) (Chg.of_below (S:=fun _ => False) hb2) (fun _ _ e => e.elim)) hc3 fun i _ e => .inr e)
 have HGR:=Lib.hid (show Gr P (fun k => P1 k∨k=jx) w from fun k e => by
  rcases e with e | e
  · exact HG1.out k e
  · have:=HC1.out.size;exact .inr (by omega))
 clear hna hb2 hk2 hk3 hc3 hjn HK1 HDO HG1 HC1 HO1 HHO HK HN hq
 go_wp2_with fail
 go_ret
 exact ⟨rfl,j1,jx,_,HGR.out,HND.out,HCH.out⟩
theorem Dk.new_load (c:Nat):loadD (Dk.new c)=((0,0),0):=by
 unfold loadD
 have e:(Dk.new c).read curN=([],4):=rfl
 rw [e,if_pos rfl]
set_option maxHeartbeats 2000000 in
theorem begun_any (host:Int) (hh:Po.HostOk host) (w:World) :
  Calls Tryz.prog 18 #[.int .i64 host] w fun e w' => ∃ jn,e=.returned (.pointer (some ⟨jn,0,none⟩))∧∃ bd j jx P,ND w P w' jn bd j jx (Dk.new 1048576) ⟨0,false,[]⟩ ⟨host,0,0,noB,0,0⟩:=by
 have HD:=Lib.hid (DA.new 1048576 w (by decide) (by decide))
 have hcst:((1048576:Nat):Int)=1048576:=rfl
 rw [hcst] at HD
 have HH:=Lib.hid hh
 clear hcst hh
 go_enter Tryz.func18,Tryz.ntmps18
 go_wp2_with fail
 refine HD.out.mono ?_
 rintro e w1 ⟨bd,rfl,hd⟩
 obtain ⟨jn,hjn⟩:∃ q,q=w1.heap.size:=⟨_,rfl⟩
 obtain ⟨w2,hw2⟩:∃ y,y=w1.alloc (.cells #[.pointer (some ⟨bd,0,none⟩),.pointer none,.pointer none] 43 (0,0)):=⟨_,rfl⟩
 have hb2:Below w1.heap.size w1 w2:=by rw [hw2];exact (Below.refl _ _).alloc (Nat.le_refl _) _
 have hk2:Blk w2 jn 43 #[.pointer (some ⟨bd,0,none⟩),.pointer none,.pointer none]:=by rw [hw2,hjn];exact Blk.alloc_new w1 _ _
 have hd2:=hd.below hb2
 have HOP:=Lib.hid (node_open (jn:=jn) hd2 hk2 (fun e => by have:=e.2;omega) (by rw [hjn];exact hd.base.size) (hd2.openNew rfl rfl) host HH.out (Dk.new_load _))
 have HW2:=Lib.hid hw2
 have HJN:=Lib.hid hjn
 clear hd hd2 hb2 hk2 hw2 hjn HD
 go_wp2_with fail
 rw [← HW2.out,← HJN.out]
 refine HOP.out.mono ?_
 rintro e w3 ⟨rfl,j,jx,P',_,hnd,_⟩
 have HND:=Lib.hid hnd
 clear hnd HOP
 go_wp2_with fail
 go_ret
 exact ⟨jn,rfl,bd,j,jx,P',HND.out⟩
/-! ### what is written -/
def wrP (k n:Nat) (y:Sp.Span) (d:Dk) (h:Hl):Int×Hl×Dk :=
 if k % 9=0∨k % 9=1 then appP d h y else if k % 9=2 then syncP d h else if k % 9=3 then rotP d h else if k % 9=4 then retP (1+((n % 4:Nat):Int)) d h else (0,h,d)
theorem NA.lt (n:NA w0 P w bd j jx d h x):∀ k,P k→k<w.heap.size:=by obtain ⟨_,_,_,_,h⟩:=n;exact h
set_option maxHeartbeats 4000000 in
theorem writes_any (n:ND w0 P w jn bd j jx d h x) (he:LEnv w0) (p:NodeP d h s x) (hn:nextOf h.l≤900000000) (a:DAct) (ha:DActOk a) :
  Calls Tryz.prog 25 #[.pointer (some ⟨jn,0,none⟩),.agg (dactC a).toArray] w fun e w' => e=.returned (.bool (decide (a.kind % 9<5)))∧NDA w0 P w jn bd j jx (wrP a.kind a.n a.s d h).2.2 (wrP a.kind a.n a.s d h).2.1 x w':=by
 obtain ⟨q,hq⟩:∃ q,q=w.heap.size:=⟨_,rfl⟩
 obtain ⟨w1,hw1⟩:∃ w1,w1=w.alloc (.cells (dactC a).toArray 59 (0,0)):=⟨_,rfl⟩
 have hb1:Below w.heap.size w w1:=by rw [hw1];exact (Below.refl _ _).alloc (Nat.le_refl _) _
 have hk1:Blk w1 q 59 (dactC a).toArray:=by rw [hw1,hq];exact Blk.alloc_new w _ _
 have hqP:¬ P q:=fun e => by have:=n.na.lt q e;omega
 have n1:=n.below hb1
 obtain ⟨W,hW⟩:∃ W,W=wrP a.kind a.n a.s d h:=⟨_,rfl⟩
 rw [← hW]
 unfold wrP at hW
 have hcell:∀ w',Chg P w1 w'→Blk w' q 59 (dactC a).toArray:=fun w' c => hk1.chg c hqP
 have HN1:=Lib.hid n1
 have HCL:=Lib.hid hcell
 have HPRE:=Lib.hid (fun (d':Dk) (h':Hl) (W':World) (g:NDA w0 P w1 jn bd j jx d' h' x W') => NDA.pre hb1 n.na.lt g)
 have HQP:=Lib.hid hqP
 have HSAME:=Lib.hid (NDA.same n hb1)
 have HWW:=Lib.hid hW
 have HW1:=Lib.hid hw1
 have HQ:=Lib.hid hq
 have HAPP:=Lib.hid (fun (y:World) (hy:Below w1.heap.size w1 y) => (n1.na.below hy).app he p hn a.s ha.s.service ha.s.host ha.s.note)
 have HSYN:=Lib.hid (n1.na.sync he p hn)
 have HROT:=Lib.hid (n1.na.rot he p hn)
 have HRET:=Lib.hid (fun (y:World) (hy:Below w1.heap.size w1 y) => (n1.na.below hy).ret he p hn (1+((a.n % 4:Nat):Int)))
 obtain ⟨c0,c1,c2⟩:=n1.cells
 have hkd:=ha.kind
 have hnn:=ha.n
 clear n n1 hk1 hb1 hqP hcell hW hw1 hq ha p hn
 obtain ⟨kd,⟨zt,zi,zp,zs,zh,za,zd,zn⟩,an,aa,af,ab,adt⟩:=a
 unfold dactC at HCL HW1 ⊢
 unfold spV at HAPP
 simp only at *
 obtain ⟨km,hkm9⟩:∃ km:Int,km=(kd:Int).tmod 9:=⟨_,rfl⟩
 have hkm0:0≤km∧km<9:=by rw [hkm9,Int.tmod_eq_emod_of_nonneg (by omega)];omega
 have hkmn:km=((kd % 9:Nat):Int):=by rw [hkm9,Int.tmod_eq_emod_of_nonneg (by omega)];omega
 have hkmw:IntKind.u8.wrap km=km:=by
  have:IntKind.u8.wrap km=km % 256:=rfl
  rw [this];omega
 have hcs:km=0∨km=1∨km=2∨km=3∨km=4∨(km≠0∧km≠1∧km≠2∧km≠3∧km≠4):=by omega
 have hkm10:=hkm9.symm
 have HKM:=Lib.hid hkmn
 clear hkm9 hkmn
 obtain ⟨k0,k1,k2,k3,k4,k5,k6,k7,k8,k9⟩:w1.cell? ⟨q,0,none⟩=some (.int .u8 kd)∧w1.cell? ⟨q,1,none⟩=some (.int .i64 zt)∧w1.cell? ⟨q,2,none⟩=some (.int .i64 zi)∧w1.cell? ⟨q,3,none⟩=some (.int .i64 zp)∧w1.cell? ⟨q,4,none⟩=some (.string zs)∧w1.cell? ⟨q,5,none⟩=some (.string zh)∧w1.cell? ⟨q,6,none⟩=some (.int .i64 za)∧w1.cell? ⟨q,7,none⟩=some (.int .i64 zd)∧w1.cell? ⟨q,8,none⟩=some (.string zn)∧w1.cell? ⟨q,9,none⟩=some (.int .u8 an):=by
  have hk:=HCL.out w1 (Chg.refl _ _)
  exact ⟨hk.cell 0,hk.cell 1,hk.cell 2,hk.cell 3,hk.cell 4,hk.cell 5,hk.cell 6,hk.cell 7,hk.cell 8,hk.cell 9⟩
 rcases hcs with rfl | rfl | rfl | rfl | rfl | ⟨n0,n1,n2,n3,n4⟩
 · skip
   have hdd:decide (kd % 9<5)=true:=decide_eq_true (by have:=HKM.out;omega)
   rw [hdd]
   have hww:=HWW.out
   rw [if_pos (by have:=HKM.out;omega)] at hww
   rw [← hww] at HAPP
   clear hdd HWW hww
   go_enter Tryz.func25,Tryz.ntmps25
   go_wp2_with fail
   rw [← HW1.out,← HQ.out]
   obtain ⟨w2,hw2⟩:∃ w2,w2=w1.drew:=⟨_,rfl⟩
   have hb2:Below w1.heap.size w1 w2:=by rw [hw2];exact (Below.refl _ _).drew
   have n2:=HN1.out.below hb2
   obtain ⟨c0,c1,c2⟩:=n2.cells
   have hkk:=HCL.out w2 (Chg.of_below hb2)
   have hT:w2.cell? ⟨jn,1,none⟩=some (.pointer (some ⟨j,0,none⟩))∧w2.cell? ⟨q,1,none⟩=some (.int .i64 zt)∧w2.cell? ⟨q,2,none⟩=some (.int .i64 zi)∧w2.cell? ⟨q,3,none⟩=some (.int .i64 zp)∧w2.cell? ⟨q,4,none⟩=some (.string zs)∧w2.cell? ⟨q,5,none⟩=some (.string zh)∧w2.cell? ⟨q,6,none⟩=some (.int .i64 za)∧w2.cell? ⟨q,7,none⟩=some (.int .i64 zd)∧w2.cell? ⟨q,8,none⟩=some (.string zn) :=
    ⟨c1,hkk.cell 1,hkk.cell 2,hkk.cell 3,hkk.cell 4,hkk.cell 5,hkk.cell 6,hkk.cell 7,hkk.cell 8⟩
   have hS:True:=trivial
   have HAP:=Lib.hid (HAPP.out w2 hb2)
   have HN2:=Lib.hid n2
   have HB2:=Lib.hid hb2
   clear n2 hkk HAPP hb2
   go_wp2_with fail
   refine wp_region_two (T:=fun W => W.cell? ⟨jn,1,none⟩=some (.pointer (some ⟨j,0,none⟩))∧W.cell? ⟨q,1,none⟩=some (.int .i64 zt)∧W.cell? ⟨q,2,none⟩=some (.int .i64 zi)∧W.cell? ⟨q,3,none⟩=some (.int .i64 zp)∧W.cell? ⟨q,4,none⟩=some (.string zs)∧W.cell? ⟨q,5,none⟩=some (.string zh)∧W.cell? ⟨q,6,none⟩=some (.int .i64 za)∧W.cell? ⟨q,7,none⟩=some (.int .i64 zd)∧W.cell? ⟨q,8,none⟩=some (.string zn)) (S:=fun _ => True) (n:=99) (by kernel_rfl) ?_
   rw [← hw2]
   clear hw2 c0 c1 c2
   refine tk 0 11 hT hS ?_
   refine tk 1 12 hT hS ?_
   refine tk 2 13 hT hS ?_
   refine tk 3 14 hT hS ?_
   refine tk 4 15 hT hS ?_
   refine tk 5 16 hT hS ?_
   try simp only [xq]
   refine two_one 6 rfl (by kernel_rfl) ?_
   intro K hK
   go_simp
   refine HAP.out.mono ?_
   rintro e w3 ⟨rfl,hp⟩
   have hnd:=HN2.out.acted hp
   have hT1:w3.cell? ⟨jn,1,none⟩=some (.pointer (some ⟨j,0,none⟩))∧w3.cell? ⟨q,1,none⟩=some (.int .i64 zt)∧w3.cell? ⟨q,2,none⟩=some (.int .i64 zi)∧w3.cell? ⟨q,3,none⟩=some (.int .i64 zp)∧w3.cell? ⟨q,4,none⟩=some (.string zs)∧w3.cell? ⟨q,5,none⟩=some (.string zh)∧w3.cell? ⟨q,6,none⟩=some (.int .i64 za)∧w3.cell? ⟨q,7,none⟩=some (.int .i64 zd)∧w3.cell? ⟨q,8,none⟩=some (.string zn):=by
    obtain ⟨P2,_,n3,hc3⟩:=hnd
    have hkk:=HCL.out w3 ((Chg.of_below HB2.out).trans hc3)
    exact ⟨n3.cells.2.1,hkk.cell 1,hkk.cell 2,hkk.cell 3,hkk.cell 4,hkk.cell 5,hkk.cell 6,hkk.cell 7,hkk.cell 8⟩
   have HP:=Lib.hid (HPRE.out _ _ _ (NDA.after (Gr.refl _ _) (Chg.of_below HB2.out) hnd))
   refine hK.out _ _ hT1 (fun _ _ => hS) ?_
   clear hK K hp hnd HAP hT hT1
   try simp only [xq]
   refine two_done (by kernel_rfl) ?_ _
   go_wp2_with fail
   go_ret
   exact ⟨rfl,HP.out⟩
 · skip
   have hdd:decide (kd % 9<5)=true:=decide_eq_true (by have:=HKM.out;omega)
   rw [hdd]
   have hww:=HWW.out
   rw [if_pos (by have:=HKM.out;omega)] at hww
   rw [← hww] at HAPP
   clear hdd HWW hww
   go_enter Tryz.func25,Tryz.ntmps25
   go_wp2_with fail
   rw [← HW1.out,← HQ.out]
   obtain ⟨w2,hw2⟩:∃ w2,w2=w1.drew:=⟨_,rfl⟩
   have hb2:Below w1.heap.size w1 w2:=by rw [hw2];exact (Below.refl _ _).drew
   have n2:=HN1.out.below hb2
   obtain ⟨c0,c1,c2⟩:=n2.cells
   have hkk:=HCL.out w2 (Chg.of_below hb2)
   have hT:w2.cell? ⟨jn,1,none⟩=some (.pointer (some ⟨j,0,none⟩))∧w2.cell? ⟨q,1,none⟩=some (.int .i64 zt)∧w2.cell? ⟨q,2,none⟩=some (.int .i64 zi)∧w2.cell? ⟨q,3,none⟩=some (.int .i64 zp)∧w2.cell? ⟨q,4,none⟩=some (.string zs)∧w2.cell? ⟨q,5,none⟩=some (.string zh)∧w2.cell? ⟨q,6,none⟩=some (.int .i64 za)∧w2.cell? ⟨q,7,none⟩=some (.int .i64 zd)∧w2.cell? ⟨q,8,none⟩=some (.string zn) :=
    ⟨c1,hkk.cell 1,hkk.cell 2,hkk.cell 3,hkk.cell 4,hkk.cell 5,hkk.cell 6,hkk.cell 7,hkk.cell 8⟩
   have hS:True:=trivial
   have HAP:=Lib.hid (HAPP.out w2 hb2)
   have HN2:=Lib.hid n2
   have HB2:=Lib.hid hb2
   clear n2 hkk HAPP hb2
   go_wp2_with fail
   refine wp_region_two (T:=fun W => W.cell? ⟨jn,1,none⟩=some (.pointer (some ⟨j,0,none⟩))∧W.cell? ⟨q,1,none⟩=some (.int .i64 zt)∧W.cell? ⟨q,2,none⟩=some (.int .i64 zi)∧W.cell? ⟨q,3,none⟩=some (.int .i64 zp)∧W.cell? ⟨q,4,none⟩=some (.string zs)∧W.cell? ⟨q,5,none⟩=some (.string zh)∧W.cell? ⟨q,6,none⟩=some (.int .i64 za)∧W.cell? ⟨q,7,none⟩=some (.int .i64 zd)∧W.cell? ⟨q,8,none⟩=some (.string zn)) (S:=fun _ => True) (n:=99) (by kernel_rfl) ?_
   rw [← hw2]
   clear hw2 c0 c1 c2
   refine tk 0 11 hT hS ?_
   refine tk 1 12 hT hS ?_
   refine tk 2 13 hT hS ?_
   refine tk 3 14 hT hS ?_
   refine tk 4 15 hT hS ?_
   refine tk 5 16 hT hS ?_
   try simp only [xq]
   refine two_one 6 rfl (by kernel_rfl) ?_
   intro K hK
   go_simp
   refine HAP.out.mono ?_
   rintro e w3 ⟨rfl,hp⟩
   have hnd:=HN2.out.acted hp
   have hT1:w3.cell? ⟨jn,1,none⟩=some (.pointer (some ⟨j,0,none⟩))∧w3.cell? ⟨q,1,none⟩=some (.int .i64 zt)∧w3.cell? ⟨q,2,none⟩=some (.int .i64 zi)∧w3.cell? ⟨q,3,none⟩=some (.int .i64 zp)∧w3.cell? ⟨q,4,none⟩=some (.string zs)∧w3.cell? ⟨q,5,none⟩=some (.string zh)∧w3.cell? ⟨q,6,none⟩=some (.int .i64 za)∧w3.cell? ⟨q,7,none⟩=some (.int .i64 zd)∧w3.cell? ⟨q,8,none⟩=some (.string zn):=by
    obtain ⟨P2,_,n3,hc3⟩:=hnd
    have hkk:=HCL.out w3 ((Chg.of_below HB2.out).trans hc3)
    exact ⟨n3.cells.2.1,hkk.cell 1,hkk.cell 2,hkk.cell 3,hkk.cell 4,hkk.cell 5,hkk.cell 6,hkk.cell 7,hkk.cell 8⟩
   have HP:=Lib.hid (HPRE.out _ _ _ (NDA.after (Gr.refl _ _) (Chg.of_below HB2.out) hnd))
   refine hK.out _ _ hT1 (fun _ _ => hS) ?_
   clear hK K hp hnd HAP hT hT1
   try simp only [xq]
   refine two_done (by kernel_rfl) ?_ _
   go_wp2_with fail
   go_ret
   exact ⟨rfl,HP.out⟩
 · have hdd:decide (kd % 9<5)=true:=decide_eq_true (by have:=HKM.out;omega)
   rw [hdd]
   have hww:=HWW.out
   rw [if_neg (by have:=HKM.out;omega),if_pos (by have:=HKM.out;omega)] at hww
   rw [← hww] at HSYN
   clear hdd HWW hww
   have c1w:=c1
   rw [HW1.out] at c1w
   go_enter Tryz.func25,Tryz.ntmps25
   go_wp2_with fail
   rw [← HW1.out,← HQ.out]
   clear c1w
   refine HSYN.out.mono ?_
   rintro e w2 ⟨rfl,hp⟩
   have HP:=Lib.hid (HPRE.out _ _ _ (HN1.out.acted hp))
   clear hp
   go_wp2_with fail
   go_ret
   exact ⟨rfl,HP.out⟩
 · have hdd:decide (kd % 9<5)=true:=decide_eq_true (by have:=HKM.out;omega)
   rw [hdd]
   have hww:=HWW.out
   rw [if_neg (by have:=HKM.out;omega),if_neg (by have:=HKM.out;omega),if_pos (by have:=HKM.out;omega)] at hww
   rw [← hww] at HROT
   clear hdd HWW hww
   have c1w:=c1
   rw [HW1.out] at c1w
   go_enter Tryz.func25,Tryz.ntmps25
   go_wp2_with fail
   rw [← HW1.out,← HQ.out]
   clear c1w
   refine HROT.out.mono ?_
   rintro e w2 ⟨rfl,hp⟩
   have HP:=Lib.hid (HPRE.out _ _ _ (HN1.out.acted hp))
   clear hp
   go_wp2_with fail
   go_ret
   exact ⟨rfl,HP.out⟩
 · skip
   have hdd:decide (kd % 9<5)=true:=decide_eq_true (by have:=HKM.out;omega)
   rw [hdd]
   have hww:=HWW.out
   rw [if_neg (by have:=HKM.out;omega),if_neg (by have:=HKM.out;omega),if_neg (by have:=HKM.out;omega),if_pos (by have:=HKM.out;omega)] at hww
   rw [← hww] at HRET
   obtain ⟨m,hm⟩:∃ m,m=an % 4:=⟨_,rfl⟩
   rw [← hm] at HRET
   have hm4:m<4:=by omega
   have ht4:(an:Int).tmod 4=m:=by rw [Int.tmod_eq_emod_of_nonneg (by omega)];omega
   have hwa:IntKind.i64.wrap (an:Int)=an:=by rw [IntKind.wrap_i64];omega
   have hwm:IntKind.i64.wrap (1+(m:Int))=1+(m:Int):=by rw [IntKind.wrap_i64];omega
   clear hdd HWW hww hm
   go_enter Tryz.func25,Tryz.ntmps25
   go_wp2_with fail
   rw [← HW1.out,← HQ.out]
   obtain ⟨w2,hw2⟩:∃ w2,w2=w1.drew:=⟨_,rfl⟩
   have hb2:Below w1.heap.size w1 w2:=by rw [hw2];exact (Below.refl _ _).drew
   have n2:=HN1.out.below hb2
   obtain ⟨c0,c1,c2⟩:=n2.cells
   have hkk:=HCL.out w2 (Chg.of_below hb2)
   have hT:w2.cell? ⟨jn,1,none⟩=some (.pointer (some ⟨j,0,none⟩))∧w2.cell? ⟨q,9,none⟩=some (.int .u8 an):=⟨c1,hkk.cell 9⟩
   have hS:True:=trivial
   have HAP:=Lib.hid (HRET.out w2 hb2)
   have HN2:=Lib.hid n2
   have HB2:=Lib.hid hb2
   clear n2 hkk HRET hb2
   go_wp2_with fail
   refine wp_region_two (T:=fun W => W.cell? ⟨jn,1,none⟩=some (.pointer (some ⟨j,0,none⟩))∧W.cell? ⟨q,9,none⟩=some (.int .u8 an)) (S:=fun _ => True) (n:=99) (by kernel_rfl) ?_
   rw [← hw2]
   clear hw2 c0 c1 c2
   refine tk 0 34 hT hS ?_
   refine tk 1 35 hT hS ?_
   refine tk 2 36 hT hS ?_
   refine tk 3 37 hT hS ?_
   refine tk 4 38 hT hS ?_
   refine tk 5 39 hT hS ?_
   refine tk 6 40 hT hS ?_
   refine tk 7 41 hT hS ?_
   refine tk 8 42 hT hS ?_
   try simp only [xq]
   refine two_one 9 rfl (by kernel_rfl) ?_
   intro K hK
   go_simp
   refine HAP.out.mono ?_
   rintro e w3 ⟨rfl,hp⟩
   have hnd:=HN2.out.acted hp
   have hT1:w3.cell? ⟨jn,1,none⟩=some (.pointer (some ⟨j,0,none⟩))∧w3.cell? ⟨q,9,none⟩=some (.int .u8 an):=by
    obtain ⟨P2,_,n3,hc3⟩:=hnd
    have hkk:=HCL.out w3 ((Chg.of_below HB2.out).trans hc3)
    exact ⟨n3.cells.2.1,hkk.cell 9⟩
   have HP:=Lib.hid (HPRE.out _ _ _ (NDA.after (Gr.refl _ _) (Chg.of_below HB2.out) hnd))
   refine hK.out _ _ hT1 (fun _ _ => hS) ?_
   clear hK K hp hnd HAP hT hT1
   try simp only [xq]
   refine two_done (by kernel_rfl) ?_ _
   go_wp2_with fail
   go_ret
   exact ⟨rfl,HP.out⟩
 · have hdd:decide (kd % 9<5)=false:=decide_eq_false (by have:=HKM.out;omega)
   rw [hdd]
   have hww:=HWW.out
   rw [if_neg (by have:=HKM.out;omega),if_neg (by have:=HKM.out;omega),if_neg (by have:=HKM.out;omega),if_neg (by have:=HKM.out;omega)] at hww
   subst hww
   have t0:(km == 0)=false:=beq_eq_false_iff_ne.2 n0
   have t1:(km == 1)=false:=beq_eq_false_iff_ne.2 n1
   have t2:(km == 2)=false:=beq_eq_false_iff_ne.2 n2
   have t3:(km == 3)=false:=beq_eq_false_iff_ne.2 n3
   have t4:(km == 4)=false:=beq_eq_false_iff_ne.2 n4
   clear hdd HWW n0 n1 n2 n3 n4
   go_enter Tryz.func25,Tryz.ntmps25
   go_wp2_with fail
   rw [← HW1.out,← HQ.out]
   go_wp2_with fail
   go_ret
   exact ⟨rfl,HSAME.out⟩
end
end Go.Proofs.YtdacanghbepjpaaGreatDoor
namespace Go.Proofs.YtdacanghbepjpaaGreatDoor
set_option linter.unusedSimpArgs false
set_option linter.unusedVariables false
set_option maxRecDepth 100000
open Go.RowKit Go.Maps
open Dsk
def spanD (n:Int):Sp.Span:=⟨3,n,0,⟨#[97]⟩,⟨#[104]⟩,10,0,⟨#[]⟩⟩
theorem spanD_may {n:Int} (h:1≤n∧n≤100):Sp.May (spanD n):=by
 have h1:Sp.NameOk ⟨#[97]⟩:=by decide
 have h2:Sp.NameOk ⟨#[104]⟩:=by decide
 exact ⟨by simp only [spanD];omega,by simp only [spanD];omega,by simp only [spanD];omega,by simp only [spanD];omega,by simp only [spanD];omega,h1,h2,by simp only [spanD];decide⟩
set_option maxHeartbeats 2000000 in
theorem spanD_any (n:Int) (w:World):Calls Tryz.prog 21 #[.int .i64 n] w fun e w' => e=.returned (spV (spanD n))∧Below w.heap.size w w':=by
 go_enter Tryz.func21,Tryz.ntmps21
 go_wp2_with fail
 have k:=Blk.alloc_new w 47 #[.int .i64 3,.int .i64 n,.int .i64 0,.string ⟨#[97]⟩,.string ⟨#[104]⟩,.int .i64 10,.int .i64 0,.string ⟨#[]⟩]
 have k0:=k.cell 0
 have k1:=k.cell 1
 have k2:=k.cell 2
 have k3:=k.cell 3
 have k4:=k.cell 4
 have k5:=k.cell 5
 have k6:=k.cell 6
 have k7:=k.cell 7
 simp only [List.getElem?_toArray,List.getElem?_cons_zero,List.getElem?_cons_succ] at k0 k1 k2 k3 k4 k5 k6 k7
 refine bodyPost_ret (v:=.agg #[.int .i64 3,.int .i64 n,.int .i64 0,.string ⟨#[97]⟩,.string ⟨#[104]⟩,.int .i64 10,.int .i64 0,.string ⟨#[]⟩]) (by simp [results,Tryz.results21,go_sem,k0,k1,k2,k3,k4,k5,k6,k7]) rfl ⟨rfl,?_⟩
 exact (Below.refl _ _).alloc (Nat.le_refl _) _
theorem ackD_any (h f n:Int) (w:World):Calls Tryz.prog 35 #[.int .i64 h,.int .i64 f,.int .i64 n] w fun e w' => e=.returned (.string (encAck h f n).1)∧Below w.heap.size w w':=by
 have HE:=Lib.hid (encAck_any h f n w)
 unfold ackV at HE
 go_enter Tryz.func35,Tryz.ntmps35
 go_wp2_with fail
 refine HE.out.mono ?_
 rintro e w1 ⟨rfl,hb⟩
 have HB:=Lib.hid hb
 clear hb HE
 go_wp2_with fail
 go_ret
 exact ⟨rfl,HB.out⟩
set_option maxHeartbeats 4000000 in
theorem beyond_span (q:Nat) (s3 s4 s7:ByteArray) (h3:s3.size≤maxLen) (h4:s4.size≤maxLen) (h7:s7.size≤maxLen) (w:World) (k3:w.cell? ⟨q,3,none⟩=some (.string s3)) (k4:w.cell? ⟨q,4,none⟩=some (.string s4)) (k7:w.cell? ⟨q,7,none⟩=some (.string s7)) :
  Calls Tryz.prog 88 #[.slice (some ⟨q,0,none⟩) 1 1,.int .i64 1] w fun e w' => (∃ b:Nat,e=.returned (.bool (b == 1)))∧w=w':=by
 unfold maxLen at h3 h4 h7
 have hlen:(1:Int)=((1:Nat):Int):=rfl
 clear hlen
 go_enter Tryz.func88,Tryz.ntmps88
 go_wp2_with fail
 go_loop [5] (fun v5 => ∃ (k:Nat),v5=.int .i64 k∧k≤1) (fun v5 => 1-(intOf v5).toNat)
 case atStart => exact ⟨0,rfl,by omega⟩
 case round =>
  obtain ⟨k,rfl,hk⟩:=hrel
  have hkc:k=0∨k=1:=by omega
  rcases hkc with rfl | rfl
  · go_wp2_with fail
    all_goals first
     | (go_ret;exact ⟨⟨1,rfl⟩,rfl⟩)
     | (go_round
        case rel => exact ⟨1,by go_num,by omega⟩
        case measure => simp [intOf])
  · go_wp2_with fail
    go_ret
    exact ⟨⟨0,rfl⟩,rfl⟩
end Go.Proofs.YtdacanghbepjpaaGreatDoor
namespace Go.Proofs.YtdacanghbepjpaaGreatDoor
set_option linter.unusedSimpArgs false
set_option linter.unusedVariables false
set_option maxRecDepth 100000
open Go.RowKit Go.Maps
open Dsk
set_option maxHeartbeats 4000000 in
theorem beyond_acts (v:Value) (l:List DAct) (w:World) (h:RdDA w v l) (hm:l.length≤maxLen) (m:Nat) (hm2:m≤1000) :
  Calls Tryz.prog 24 #[v,.int .i64 m] w fun e w' => (∃ b:Nat,e=.returned (.bool (b == 1))∧(b≠1→l.length≤m))∧Below w.heap.size w w':=by
 obtain ⟨n,hn⟩:∃ n,n=l.length:=⟨_,rfl⟩
 obtain ⟨x,c,hv,hel⟩:=id h
 rw [← hn] at hm hv ⊢
 subst hv
 unfold maxLen at hm
 have HR:=Lib.hid (fun (W:World) (hW:Below w.heap.size w W) => h.below hW)
 have HN:=Lib.hid hn
 clear hel h hn
 by_cases hnm:m<n
 case pos =>
  have h1:(m:Int)<n:=by omega
  go_enter Tryz.func24,Tryz.ntmps24
  go_wp2_with fail
  go_ret
  exact ⟨⟨1,rfl,fun e => absurd rfl e⟩,Below.refl _ _⟩
 case neg =>
 have h1:¬ (m:Int)<n:=by omega
 go_enter Tryz.func24,Tryz.ntmps24
 go_wp2_with fail
 go_loopw [5] (fun v5 wr => ∃ (k:Nat),v5=.int .i64 k∧k≤n∧Below w.heap.size w wr) (fun v5 _ => n-(intOf v5).toNat)
 case atStart => exact ⟨0,rfl,Nat.zero_le _,Below.refl _ _⟩
 case round =>
  obtain ⟨k,rfl,hk,hbw⟩:=hrel
  have HBW:=Lib.hid hbw
  by_cases hlt:k<n
  case pos =>
   have hlt2:(k:Int)<n:=by omega
   obtain ⟨x9,c9,hv9,hel⟩:=HR.out wr hbw
   rw [← HN.out] at hv9
   obtain ⟨rfl,rfl⟩:x=x9∧c=c9:=by injection hv9 with e1 e2 e3;exact ⟨e1,e3⟩
   clear hv9 hbw
   obtain ⟨ho,b,off,rfl,hb,hc⟩:=hel k (by rw [← HN.out];exact hlt)
   obtain ⟨a,ha⟩:∃ a,a=l[k]'(by rw [← HN.out];exact hlt):=⟨_,rfl⟩
   rw [← ha] at ho hc
   obtain ⟨c0,c1,c2,c3,c4,c5,c6,c7,c8,c9,c10,c11,c12,c13⟩:=dact_load (b:=b) (off:=off+k*14) (a:=a) (fun i hi => by rw [Nat.add_assoc];exact hc i hi)
   have g13:=ho.data
   have HS3:=Lib.hid ho.s
   have HBB:=Lib.hid hb
   clear hel hc ho ha hb
   obtain ⟨kd,⟨zt,zi,zp,zs,zh,za,zd,zn⟩,an,aa,af,ab,adt⟩:=a
   simp only at *
   unfold maxLen at g13
   obtain ⟨q,hq⟩:∃ q,q=wr.heap.size:=⟨_,rfl⟩
   obtain ⟨w1,hw1⟩:∃ w1,w1=wr.alloc (.cells #[.int .i64 zt,.int .i64 zi,.int .i64 zp,.string zs,.string zh,.int .i64 za,.int .i64 zd,.string zn] 47 (0,0)):=⟨_,rfl⟩
   have hb1:Below wr.heap.size wr w1:=by rw [hw1];exact (Below.refl _ _).alloc (Nat.le_refl _) _
   have hk1:Blk w1 q 47 #[.int .i64 zt,.int .i64 zi,.int .i64 zp,.string zs,.string zh,.int .i64 za,.int .i64 zd,.string zn]:=by rw [hw1,hq];exact Blk.alloc_new wr _ _
   have HBY:=Lib.hid (beyond_span q zs zh zn HS3.out.service HS3.out.host HS3.out.note w1 (hk1.cell 3) (hk1.cell 4) (hk1.cell 7))
   have d13:w1.cell? ⟨b,off+k*14+13,none⟩=some (.string adt):=(hb1.cell (p:=⟨b,_,none⟩) HBB.out).trans c13
   have HB1:=Lib.hid (HBW.out.trans (hb1.mono HBW.out.size))
   have HW1:=Lib.hid hw1
   have HQ:=Lib.hid hq
   clear hb1 hk1 hw1 hq
   go_wp2_with fail
   rw [← HW1.out,← HQ.out]
   refine HBY.out.mono ?_
   rintro e w2 ⟨⟨r,rfl⟩,rfl⟩
   by_cases hr:r=1
   · subst hr
     go_wp2_with fail
     go_ret
     exact ⟨⟨1,rfl,fun e => absurd rfl e⟩,HB1.out⟩
   · have hrb:(r == 1)=false:=beq_eq_false_iff_ne.2 hr
     by_cases h200:200<adt.size
     · have h201:(200:Int)<adt.size:=by omega
       go_wp2_with fail
       go_ret
       exact ⟨⟨1,rfl,fun e => absurd rfl e⟩,HB1.out⟩
     · have h201:¬ (200:Int)<adt.size:=by omega
       go_wp2_with fail
       go_roundw
       case rel => exact ⟨k+1,by go_num,by omega,HB1.out⟩
       case measure => simp [intOf];omega
  case neg =>
   have hlt2:¬ (k:Int)<n:=by omega
   clear hbw
   go_wp2_with fail
   go_ret
   exact ⟨⟨0,rfl,fun _ => by omega⟩,HBW.out⟩
end Go.Proofs.YtdacanghbepjpaaGreatDoor
namespace Go.Proofs.YtdacanghbepjpaaGreatDoor
set_option linter.unusedSimpArgs false
set_option linter.unusedVariables false
open Dsk
section
variable {d d':Dk} {l:List Sg} {s s' k c:Nat} {h h':Hl} {x:Dm} {Ls:List Sp.Span}
theorem NodeC.new (host:Int) (hh:Po.HostOk host) {c:Nat} (h1:1≤c) (h2:c≤1048576):NodeC (Dk.new c) ⟨0,false,[]⟩ 0 ⟨host,0,0,noB,0,0⟩ [] c 0 :=
 ⟨⟨⟨⟨rfl,rfl,rfl⟩,[],LSt.new h1 h2,CurR.start⟩,⟨Int.le_refl _,Int.le_refl _⟩,Int.le_refl _,hh,.inl ⟨rfl,rfl⟩⟩,rfl,rfl,Nat.le_refl _,Nat.le_refl _,rfl,rfl,Nat.le_refl _⟩
theorem NodeC.bounds (n:NodeC d h s x Ls c k) (hk:k≤1000) (hc:120*(k+2)≤c):d.files.length<1024∧total d.files+19≤d.room∧nextOf h.l≤900000000:=by
 have h1:=n.tot
 have h2:=n.len
 have h3:=n.room
 have h4:=n.next
 have h5:=n.many
 omega
def lsE:Nat→List Sg
 | 0 => []
 | n+1 => pushed (lsE n) (spanD ((n:Int)+1))
def LsE:Nat→List Sp.Span
 | 0 => []
 | n+1 => LsE n++[spanD ((n:Int)+1)]
theorem sur_lsE {s:Nat} (hk:k≤3):surApp (lsE k) s=if k=0 then 0 else sureOf (lsE k) s:=by
 match k,hk with
 | 0,_ => rfl
 | 1,_ => rfl
 | 2,_ => rfl
 | 3,_ => rfl
theorem first_lsE (hk:k≤4):firstOf (lsE k)=0:=by
 match k,hk with
 | 0,_ => rfl
 | 1,_ => rfl
 | 2,_ => rfl
 | 3,_ => rfl
 | 4,_ => rfl
theorem lv_app (n:NodeC d h s x (LsE k) 1048576 k) (hl:h.l=lsE k) (hs:sureOf h.l s=0) (hk:k<3) :
  ∃ s',NodeC (appP d h (spanD ((k:Int)+1))).2.2 (appP d h (spanD ((k:Int)+1))).2.1 s' x (LsE (k+1)) 1048576 (k+1)∧(appP d h (spanD ((k:Int)+1))).2.1.l=lsE (k+1)∧sureOf (appP d h (spanD ((k:Int)+1))).2.1.l s'=0:=by
 obtain ⟨e1,e2,s',n',e3⟩:=n.app (by omega) (by omega) (spanD ((k:Int)+1)) (spanD_may (by omega))
 rw [e2]
 refine ⟨s',n',by rw [hl];rfl,?_⟩
 rw [e3,hl,sur_lsE (by omega)]
 split
 · rfl
 · rw [← hl];exact hs
theorem lv_rest (n:NodeC d h s ⟨0,0,0,noB,0,0⟩ (LsE 3) 1048576 3) (hl:h.l=lsE 3) :
  ∃ d1 s1 d2 h2 s2 d3 x3 x4 d5 x5 d6 x6,
   (syncP d h).2.1=h∧(syncP d h).2.2=d1∧NodeC d1 h s1 ⟨0,0,0,noB,0,0⟩ (LsE 3) 1048576 4 ∧
   (appP d1 h (spanD 4)).2.2=d2∧(appP d1 h (spanD 4)).2.1=h2∧NodeC d2 h2 s2 ⟨0,0,0,noB,0,0⟩ (LsE 4) 1048576 5 ∧
   stepC 5 d2 h2 ⟨0,0,0,noB,0,0⟩=((batchB 0 0 (LsE 3),0),x3,d3)∧NodeC d3 h2 s2 x3 (LsE 4) 1048576 6∧x3.sent=5 ∧
   stepC 7 d3 h2 x3=((noB,0),x3,d3) ∧
   stepC 8 d3 h2 x3=((batchB 0 0 (LsE 3),0),x4,d3)∧NodeC d3 h2 s2 x4 (LsE 4) 1048576 7∧x4.sent=8 ∧
   takeC (Po.ackS 0 0 2) d3 x4=((false,0),x4,d3) ∧
   takeC (Po.ackS 0 0 3) d3 x4=((true,0),x5,d5)∧NodeC d5 h2 s2 x5 (LsE 4) 1048576 8∧x5.sent=8 ∧
   stepC 9 d5 h2 x5=((noB,0),x6,d6)∧NodeC d6 h2 s2 x6 (LsE 4) 1048576 9∧x6.next=3∧x6.gap=0:=by
 obtain ⟨_,e2,s1,n1,su1⟩:=n.sync
 have hL3:(LsE 3).length=3:=rfl
 rw [hL3] at su1
 obtain ⟨_,e4,s2,n2,su2⟩:=n1.app (by omega) (by omega) (spanD 4) (spanD_may (by omega))
 have hsa:surApp h.l s1=3:=by rw [hl,sur_lsE (by omega),if_neg (by decide),← hl];exact su1
 rw [hsa] at su2
 obtain ⟨d1,hd1⟩:∃ d1,d1=(syncP d h).2.2:=⟨_,rfl⟩
 rw [← hd1] at n1 n2 e4
 obtain ⟨d2,hd2⟩:∃ d2,d2=(appP d1 h (spanD 4)).2.2:=⟨_,rfl⟩
 obtain ⟨h2,hh2⟩:∃ h2,h2=(appP d1 h (spanD 4)).2.1:=⟨_,rfl⟩
 rw [← hd2,← hh2] at n2
 rw [← hh2] at e4
 have n2':NodeC d2 h2 s2 ⟨0,0,0,noB,0,0⟩ (LsE 4) 1048576 5:=n2
 have hl2:h2.l=lsE 4:=by rw [e4,hl];rfl
 have hsu2:sureOf h2.l s2=3:=by rw [e4];exact su2
 have hf2:firstOf h2.l=0:=by rw [hl2];exact first_lsE (by omega)
 obtain ⟨_,_,d3,x3,t1,n3,t2,t3,t4,t5,t6⟩:=n2'.step0 (by omega) (by omega) rfl 5 0 (by rw [hf2];rfl)
 rw [hsu2] at t6
 rcases t6 with ⟨t6,_⟩ | ⟨_,t6,t7,t8⟩
 · omega
 have hpg:pageL h2.l s2 0=LsE 3:=by rw [t8.is_];rfl
 rw [hpg] at t6 t7
 have hx3o:x3.out=batchB 0 0 (LsE 3):=t6
 have hne3:x3.out≠noB:=by rw [hx3o];exact batchB_ne _ _ _
 have t7':x3.many=3:=t7
 have a7:=step_again d3 h2 x3 7 n3.node.off hne3
 rw [t5,if_pos (by decide)] at a7
 have a8:=step_again d3 h2 x3 8 n3.node.off hne3
 rw [t5,if_neg (by decide)] at a8
 have n4:=(n3.sent 8).more
 obtain ⟨x4,hx4⟩:∃ x4:Dm,x4={ x3 with sent:=8 }:=⟨_,rfl⟩
 rw [← hx4] at a8 n4
 have f1:x4.host=0:=by rw [hx4];exact t2
 have f2:x4.next=0:=by rw [hx4];exact t3
 have f3:x4.many=3:=by rw [hx4];exact t7'
 have f4:x4.out≠noB:=by rw [hx4];exact hne3
 have f5:x4.gap=0:=by rw [hx4];show x3.gap=0;rw [t4];rfl
 have k2:Po.decAck (Po.ackS 0 0 2)=some (0,0,2):=Po.decAck_ack (h:=0) (f:=0) (n:=2) ⟨by decide,by decide,by decide,by decide⟩
 have k3:Po.decAck (Po.ackS 0 0 3)=some (0,0,3):=Po.decAck_ack (h:=0) (f:=0) (n:=3) ⟨by decide,by decide,by decide,by decide⟩
 have hk2:takeC (Po.ackS 0 0 2) d3 x4=((false,0),x4,d3):=by
  rcases n4.take (by omega) (by omega) (Po.ackS 0 0 2) with ⟨e,_⟩ | ⟨_,_,e⟩ | ⟨_,e,_⟩
  · rw [k2] at e;cases e
  · exact e
  · rw [k2,f1,f2,f3] at e
    simp at e
 rcases n4.take (by omega) (by omega) (Po.ackS 0 0 3) with ⟨e,_⟩ | ⟨_,e,_⟩ | ⟨_,_,d5,b1,n5⟩
 · rw [k3] at e;cases e
 · exact absurd ⟨f4,by rw [k3,f1,f2,f3];rfl⟩ e
 rw [f2,f3] at b1 n5
 obtain ⟨x5,hx5⟩:∃ x5:Dm,x5={ x4 with next:=(0:Int)+3,out:=noB,many:=0 }:=⟨_,rfl⟩
 rw [← hx5] at b1 n5
 have g1:x5.next=3:=by rw [hx5];rfl
 have g2:x5.gap=0:=by rw [hx5];exact f5
 have g3:x5.out=noB:=by rw [hx5]
 obtain ⟨_,_,d6,x6,u1,n6,u2,u3,u4,u5,u6⟩:=n5.step0 (by omega) (by omega) g3 9 3 (by rw [hf2,g1];rfl)
 rw [hsu2] at u6
 rcases u6 with ⟨_,u6,_⟩ | ⟨u6,_⟩
 case inr => omega
 rw [u6] at u1
 rw [hx3o] at t1
 have hx4o:x3.out=batchB 0 0 (LsE 3):=hx3o
 rw [hx4o] at a8
 refine ⟨d1,s1,d2,h2,s2,d3,x3,x4,d5,x5,d6,x6,e2,hd1.symm,n1,hd2.symm,hh2.symm,n2',t1,n3,t5,a7,a8,n4,by rw [hx4],hk2,b1,n5,by rw [hx5,hx4],u1,n6,u3,by rw [u4,g2,g1];rfl⟩
end
end Go.Proofs.YtdacanghbepjpaaGreatDoor
