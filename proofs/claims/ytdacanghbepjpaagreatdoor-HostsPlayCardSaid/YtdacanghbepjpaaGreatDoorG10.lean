/- Acts of the laws on a host that come in. A host's node, plainly: what is asked of it, what it answers, what becomes of it. -/
import Derived.Test.YtdacanghbepjpaaGreatDoorG8
import Derived.Test.YtdacanghbepjpaaGreatDoorG9
import Derived.Test.YtdacanghbepjpaaGreatDoorSink2
import Derived.Defers
set_option linter.unusedSimpArgs false
set_option linter.unusedVariables false
set_option maxRecDepth 100000
namespace Go.Proofs.YtdacanghbepjpaaGreatDoor
open Go.RowKit Go.Maps
open Go.WideShapes Go.ChangeAt Go.Deep
open Dsk
structure OAct where
 kind:Int
 node:Int
 n:Int
 s:Sp.Span
 kv:Value
 keep:List Int
 own:Bool
 ah:Int
 af:Int
 an:Int
 data:ByteArray
def oactC (a:OAct):List Value:=[.int .i64 a.kind,.int .i64 a.node,.int .i64 a.n,.int .i64 a.s.trace,.int .i64 a.s.id,.int .i64 a.s.parent,.string a.s.service,.string a.s.host,.int .i64 a.s.start,.int .i64 a.s.dur,.string a.s.note,a.kv,.bool a.own,.int .i64 a.ah,.int .i64 a.af,.int .i64 a.an,.string a.data]
structure OActOk (w:World) (B:Nat) (a:OAct):Prop where
 kind:-9223372036854775808≤a.kind∧a.kind≤9223372036854775807
 node:-9223372036854775808≤a.node∧a.node≤9223372036854775807
 n:-9223372036854775808≤a.n∧a.n≤9223372036854775807
 s:SpBnd a.s
 kv:KeepR w (fun k => B≤k) a.kv a.keep
 keep:a.keep.length≤maxLen
 ah:-9223372036854775808≤a.ah∧a.ah≤9223372036854775807
 af:-9223372036854775808≤a.af∧a.af≤9223372036854775807
 an:-9223372036854775808≤a.an∧a.an≤9223372036854775807
 data:a.data.size≤maxLen
theorem OActOk.below {w w':World} {B:Nat} {a:OAct} (h:OActOk w B a) (x:Below w.heap.size w w'):OActOk w' B a:=⟨h.kind,h.node,h.n,h.s,h.kv.chg (T:=fun _ => False) (Chg.of_below x) (fun _ e => e.elim),h.keep,h.ah,h.af,h.an,h.data⟩
def RdOA (w:World) (B:Nat) (v:Value) (l:List OAct):Prop :=
 ∃ x c,v=.slice x l.length c∧∀ (j:Nat) (hj:j<l.length),OActOk w B l[j]∧∃ b off,x=some ⟨b,off,none⟩∧b<w.heap.size∧∀ i,i<17→w.cell? ⟨b,off+(j*17+i),none⟩=(oactC l[j])[i]?
theorem RdOA.below {w w':World} {B:Nat} {v:Value} {l:List OAct} (h:RdOA w B v l) (x:Below w.heap.size w w'):RdOA w' B v l:=by
 obtain ⟨a,c,rfl,h⟩:=h
 refine ⟨a,c,rfl,fun j hj => ?_⟩
 obtain ⟨ho,b,off,e,hb,hc⟩:=h j hj
 refine ⟨ho.below x,b,off,e,Nat.lt_of_lt_of_le hb x.size,fun i hi => ?_⟩
 rw [← hc i hi]
 exact x.cell (p:=⟨b,_,none⟩) hb
theorem hk_bool:Tryz.prog.cellsOf 4=1:=by kernel_rfl
theorem step_under:Tryz.prog.underlying 93=some (.struct (Tryz.prog.fieldsOf 93)):=by kernel_rfl
theorem step_cells:Tryz.prog.cellsOf 93=12:=by kernel_rfl
theorem step_f0:((Tryz.prog.fieldsOf 93)[0]?).map (fun f => (f.type,f.offset))=some (3,0):=by kernel_rfl
theorem step_f1:((Tryz.prog.fieldsOf 93)[1]?).map (fun f => (f.type,f.offset))=some (3,1):=by kernel_rfl
theorem step_f2:((Tryz.prog.fieldsOf 93)[2]?).map (fun f => (f.type,f.offset))=some (3,2):=by kernel_rfl
theorem step_f3:((Tryz.prog.fieldsOf 93)[3]?).map (fun f => (f.type,f.offset))=some (47,3):=by kernel_rfl
theorem step_f4:((Tryz.prog.fieldsOf 93)[4]?).map (fun f => (f.type,f.offset))=some (79,11):=by kernel_rfl
theorem oact_under:Tryz.prog.underlying 95=some (.struct (Tryz.prog.fieldsOf 95)):=by kernel_rfl
theorem oacts_under:Tryz.prog.underlying 87=some (.slice 95):=by kernel_rfl
theorem oact_cells:Tryz.prog.cellsOf 95=17:=by kernel_rfl
theorem oact_f0:((Tryz.prog.fieldsOf 95)[0]?).map (fun f => (f.type,f.offset))=some (93,0):=by kernel_rfl
theorem oact_f1:((Tryz.prog.fieldsOf 95)[1]?).map (fun f => (f.type,f.offset))=some (4,12):=by kernel_rfl
theorem oact_f2:((Tryz.prog.fieldsOf 95)[2]?).map (fun f => (f.type,f.offset))=some (51,13):=by kernel_rfl
theorem oact_f3:((Tryz.prog.fieldsOf 95)[3]?).map (fun f => (f.type,f.offset))=some (9,16):=by kernel_rfl
section
variable {H:Type} {enc:TypeId×Value→H} {w:World} {base:Nat} {sp:Nat→Bool} {held:Bool}
theorem fieldOf {T:TypeId} {fuel:Nat} {cs:List Value} {y:DataW H×List MemPlace} (hu:Tryz.prog.underlying T=some (.struct (Tryz.prog.fieldsOf T))) (h:DataW.trod enc Tryz.prog w base sp held fuel T cs=some y) :
  cs.length=Tryz.prog.cellsOf T∧∃ n,∀ (j:Nat) (t o k:Nat),((Tryz.prog.fieldsOf T)[j]?).map (fun f => (f.type,f.offset))=some (t,o)→Tryz.prog.cellsOf t=k→∃ y,DataW.trod enc Tryz.prog w base sp held n t ((cs.drop o).take k)=some y:=by
 obtain ⟨ys,n,_,_,hlen,hyl,hf⟩:=DataW.trod_struct hu h
 refine ⟨hlen,n,?_⟩
 intro j t o k hj hk
 obtain ⟨f,hfj,hto⟩:=Option.map_eq_some_iff.1 hj
 simp only [Prod.mk.injEq] at hto
 obtain ⟨rfl,rfl⟩:=hto
 have h1:=hf j f hfj
 rw [hk] at h1
 have hjl:j<(Tryz.prog.fieldsOf T).size:=(Array.getElem?_eq_some_iff.1 hfj).1
 rw [List.getElem?_eq_getElem (show j<ys.length by omega)] at h1
 exact ⟨_,h1⟩
theorem stepOf {fuel:Nat} {cs:List Value} {y:DataW H×List MemPlace} (h:DataW.trod enc Tryz.prog w base sp held fuel 93 cs=some y) :
  ∃ (z0 z1 z2:Int) (x:Sp.Span) (kv:Value) (l:List Int),cs=[.int .i64 z0,.int .i64 z1,.int .i64 z2,.int .i64 x.trace,.int .i64 x.id,.int .i64 x.parent,.string x.service,.string x.host,.int .i64 x.start,.int .i64 x.dur,.string x.note,kv] ∧
   (-9223372036854775808≤z0∧z0≤9223372036854775807)∧(-9223372036854775808≤z1∧z1≤9223372036854775807)∧(-9223372036854775808≤z2∧z2≤9223372036854775807)∧SpBnd x∧KeepR w (fun k => w.heap.size≤k) kv l∧l.length≤maxLen:=by
 obtain ⟨hlen,n,fa⟩:=fieldOf step_under h
 rw [step_cells] at hlen
 match cs,hlen,fa with
 | [c0,c1,c2,c3,c4,c5,c6,c7,c8,c9,c10,c11],_,fa =>
  obtain ⟨y0,h0⟩:=fa 0 _ _ _ step_f0 hk_int
  obtain ⟨y1,h1⟩:=fa 1 _ _ _ step_f1 hk_int
  obtain ⟨y2,h2⟩:=fa 2 _ _ _ step_f2 hk_int
  obtain ⟨y3,h3⟩:=fa 3 _ _ _ step_f3 hk_span
  obtain ⟨y4,h4⟩:=fa 4 _ _ _ step_f4 hk_ints
  simp at h0 h1 h2 h3 h4
  obtain ⟨z0,hz0,_,w0⟩:=DataW.trod_int hl_under_int h0
  obtain ⟨z1,hz1,_,w1⟩:=DataW.trod_int hl_under_int h1
  obtain ⟨z2,hz2,_,w2⟩:=DataW.trod_int hl_under_int h2
  obtain ⟨x,hx,hxb⟩:=spOf h3
  obtain ⟨l,hkr,hll⟩:=keepInH h4
  simp [spRow] at hz0 hz1 hz2 hx
  obtain ⟨rfl,rfl,rfl,rfl,rfl,rfl,rfl,rfl⟩:=hx
  subst hz0 hz1 hz2
  exact ⟨z0,z1,z2,x,c11,l,rfl,bounds_i64 w0,bounds_i64 w1,bounds_i64 w2,hxb,hkr,hll⟩
theorem oactOf {fuel:Nat} {cs:List Value} {y:DataW H×List MemPlace} (h:DataW.trod enc Tryz.prog w base sp held fuel 95 cs=some y):∃ a,cs=oactC a∧OActOk w w.heap.size a:=by
 obtain ⟨hlen,n,fa⟩:=fieldOf oact_under h
 rw [oact_cells] at hlen
 match cs,hlen,fa with
 | [c0,c1,c2,c3,c4,c5,c6,c7,c8,c9,c10,c11,c12,c13,c14,c15,c16],_,fa =>
  obtain ⟨y0,h0⟩:=fa 0 _ _ _ oact_f0 step_cells
  obtain ⟨y1,h1⟩:=fa 1 _ _ _ oact_f1 hk_bool
  obtain ⟨y2,h2⟩:=fa 2 _ _ _ oact_f2 hk_ack
  obtain ⟨y3,h3⟩:=fa 3 _ _ _ oact_f3 hk_string
  simp at h0 h1 h2 h3
  obtain ⟨z0,z1,z2,x,kv,l,he,b0,b1,b2,hxb,hkr,hll⟩:=stepOf h0
  obtain ⟨bo,hbo,_⟩:=DataW.trod_bool hl_under_bool h1
  obtain ⟨p,q,r,hpq,g1,g2,g3⟩:=ackOf h2
  obtain ⟨z,hz,_,w4⟩:=DataW.trod_string hl_under_string h3
  simp at he hbo hpq hz
  obtain ⟨rfl,rfl,rfl,rfl,rfl,rfl,rfl,rfl,rfl,rfl,rfl,rfl⟩:=he
  obtain ⟨rfl,rfl,rfl⟩:=hpq
  subst hbo hz
  exact ⟨⟨z0,z1,z2,x,c11,l,bo,p,q,r,z⟩,rfl,⟨b0,b1,b2,hxb,hkr,hll,g1,g2,g3,w4⟩⟩
def OActsIn (w:World) (x:Value×List OAct):Prop:=RdOA w w.heap.size x.1 x.2∧x.2.length≤maxLen
theorem openOActs {r:Reach} {b0:Nat} {v:Value} {d:DataW H} {p:List MemPlace} (hv:Value.okWide Tryz.prog w r b0 87 v) (h:DataW.Trod enc Tryz.prog w base sp held 87 v d p) :
  ∃ a:Value×List OAct,v=a.1∧OActsIn w a:=by
 obtain ⟨a0,len,cap,rfl⟩:=okWide_slice oacts_under hv
 obtain ⟨fuel,hf⟩:=h
 have hf2:DataW.trod enc Tryz.prog w base sp held fuel 87 [.slice a0 len cap]=some (d,p):=by simpa [Value.cells] using hf
 rcases Go.Deep.open_slice oacts_under hf2 with ⟨h0,_⟩ | ⟨a',len',cap',m,n,D,Pl,hcs,hb,hl,hm,hmm,hx,hi⟩
 · simp at h0
   obtain ⟨rfl,rfl,rfl⟩:=h0
   exact ⟨(_,[]),rfl,⟨none,0,rfl,fun j hj => absurd hj (by simp)⟩,Nat.zero_le _⟩
 simp at hcs
 obtain ⟨rfl,rfl,rfl⟩:=hcs
 have e0:∀ x:Addr,x.add 0=x:=fun x => by unfold Addr.add;simp
 have hex:∀ i:Fin len,∃ a:OAct,OActOk w w.heap.size a∧∃ b off,a'=⟨b,off,none⟩∧b<w.heap.size∧∀ j,j<17→w.cell? ⟨b,off+(i*17+j),none⟩=(oactC a)[j]?:=fun i => by
  obtain ⟨cs',hc,htr⟩:=hi i (by rw [hmm];split <;> omega)
  rw [oact_cells] at hc
  obtain ⟨_,hcl,hat⟩:=World.cells?_some hc
  obtain ⟨a,rfl,ho⟩:=oactOf htr
  obtain ⟨cs0,hc0,_⟩:=hi 0 (by have:=i.2;rw [hmm];split <;> omega)
  rw [oact_cells,Nat.zero_mul] at hc0
  obtain ⟨_,hcl0,hat0⟩:=World.cells?_some hc0
  have h0:=hat0 0 (by omega)
  rw [List.getElem?_eq_getElem (show 0<cs0.length by omega),e0,e0] at h0
  obtain ⟨b,off,spot⟩:=a'
  have hspot:spot=none:=World.cell?_spot h0
  subst hspot
  have ea:∀ j,(((⟨b,off,none⟩:Addr).add (i*17)).add j)=⟨b,off+(i*17+j),none⟩:=fun j => by
   rw [add_none,add_none,Nat.add_assoc]
  refine ⟨a,ho,b,off,rfl,?_,fun j hj => by rw [← ea j];exact hat j hj⟩
  rcases Nat.lt_or_ge b w.heap.size with hlt | hge
  · exact hlt
  simp [World.cell?,Array.getElem?_eq_none hge] at h0
 obtain ⟨f,hf⟩:=Classical.axiomOfChoice hex
 refine ⟨(.slice (some a') len cap,List.ofFn f),rfl,⟨some a',cap,by simp,fun j hj => ?_⟩,by simp;omega⟩
 have hj':j<len:=by simpa using hj
 obtain ⟨h1,b,off,h2,h3,h4⟩:=hf ⟨j,hj'⟩
 simp only [List.getElem_ofFn]
 exact ⟨h1,b,off,by rw [h2],h3,h4⟩
end
theorem oact_load {w:World} {b off:Nat} {a:OAct} (hc:∀ i,i<17→w.cell? ⟨b,off+i,none⟩=(oactC a)[i]?) :
  w.cell? ⟨b,off,none⟩=some (.int .i64 a.kind)∧w.cell? ⟨b,off+1,none⟩=some (.int .i64 a.node)∧w.cell? ⟨b,off+2,none⟩=some (.int .i64 a.n)∧w.cell? ⟨b,off+3,none⟩=some (.int .i64 a.s.trace)∧w.cell? ⟨b,off+4,none⟩=some (.int .i64 a.s.id)∧w.cell? ⟨b,off+5,none⟩=some (.int .i64 a.s.parent)∧w.cell? ⟨b,off+6,none⟩=some (.string a.s.service)∧w.cell? ⟨b,off+7,none⟩=some (.string a.s.host)∧w.cell? ⟨b,off+8,none⟩=some (.int .i64 a.s.start)∧w.cell? ⟨b,off+9,none⟩=some (.int .i64 a.s.dur)∧w.cell? ⟨b,off+10,none⟩=some (.string a.s.note)∧w.cell? ⟨b,off+11,none⟩=some (a.kv)∧w.cell? ⟨b,off+12,none⟩=some (.bool a.own)∧w.cell? ⟨b,off+13,none⟩=some (.int .i64 a.ah)∧w.cell? ⟨b,off+14,none⟩=some (.int .i64 a.af)∧w.cell? ⟨b,off+15,none⟩=some (.int .i64 a.an)∧w.cell? ⟨b,off+16,none⟩=some (.string a.data) :=
 ⟨hc 0 (by omega),hc 1 (by omega),hc 2 (by omega),hc 3 (by omega),hc 4 (by omega),hc 5 (by omega),hc 6 (by omega),hc 7 (by omega),hc 8 (by omega),hc 9 (by omega),hc 10 (by omega),hc 11 (by omega),hc 12 (by omega),hc 13 (by omega),hc 14 (by omega),hc 15 (by omega),hc 16 (by omega)⟩
end Go.Proofs.YtdacanghbepjpaaGreatDoor
namespace Go.Proofs.YtdacanghbepjpaaGreatDoor
open Dsk
structure Hs where
 id:Int
 now:Int
 refused:Int
 up:Bool
 d:Dk
 h:Hl
 x:Dm
structure HoI (d:Dk) (h:Hl) (s:Nat) (x:Dm) (id:Int) (c k:Nat):Prop where
 node:NodeP d h s x
 host:x.host=id
 next:nextOf h.l≤140000*(k+1)
 tot:total d.files≤120*k
 fls:d.files.length≤k
 room:d.room=c
structure HoD (d:Dk) (h:Hl) (s:Nat) (x:Dm) (d':Dk) (id:Int) (c k:Nat):Prop where
 node:NodeP d h s x
 fell:NodeF d h s x d'
 host:x.host=id
 next:nextOf h.l≤140000*k
 tot:total d'.files≤120*k
 fls:d'.files.length≤k
 room:d'.room=c
structure HoM (h:Hl) (s:Nat) (x:Dm) (h':Hl) (s':Nat) (x':Dm):Prop where
 sure:sureOf h.l s≤sureOf h'.l s'
 next:x.next≤x'.next
 gap:x.gap≤x'.gap
theorem HoM.refl (h:Hl) (s:Nat) (x:Dm):HoM h s x h s x:=⟨Nat.le_refl _,Int.le_refl _,Int.le_refl _⟩
section
variable {d d':Dk} {l l':List Sg} {t':Str} {s s' k c:Nat} {h h':Hl} {x x':Dm} {id:Int}
theorem HoI.few (i:HoI d h s x id c k) (hk:k≤800) (hc:250*(k+2)≤c):Few d h s x:=by
 have h1:=i.fls
 have h2:=i.tot
 have h3:=i.room
 have h4:=i.next
 exact ⟨i.node,by omega,by omega,by omega⟩
theorem HoI.grw (i:HoI d h s x id c k) (g:Grw d d' 120 1):total d'.files≤120*(k+1)∧d'.files.length≤k+1∧d'.room=c:=by
 have h1:=g.total
 have h2:=g.len
 have h3:=i.tot
 have h4:=i.fls
 exact ⟨by omega,by omega,g.room.trans i.room⟩
theorem HoI.later (i:HoI d h s x id c k):HoI d h s x id c (k+1) :=
 ⟨i.node,i.host,Nat.le_trans i.next (by omega),Nat.le_trans i.tot (by omega),Nat.le_succ_of_le i.fls,i.room⟩
theorem HoD.later (i:HoD d h s x d' id c k):HoD d h s x d' id c (k+1) :=
 ⟨i.node,i.fell,i.host,Nat.le_trans i.next (by omega),Nat.le_trans i.tot (by omega),Nat.le_succ_of_le i.fls,i.room⟩
def HoA (d:Dk) (h:Hl) (s:Nat) (x:Dm) (d':Dk) (h':Hl) (x':Dm) (id:Int) (c k:Nat):Prop :=
 (d'.off=false∧∃ s',HoI d' h' s' x' id c k∧HoM h s x h' s' x')∨(d'.off=true∧HoD d h s x d' id c k)
theorem NodeF.off (f:NodeF d h s x d'):d'.off=true:=by
 obtain ⟨l',t',fl,st⟩:=f
 exact fl.off
theorem HoI.fail (i:HoI d h s x id c k) (n:Int) (keep:List Int) (hk:keep.length≤1000):HoA d h s x (d.failAt n keep).2 h x id c (k+1):=by
 have r:=i.node.run.fail n keep (by omega)
 obtain ⟨e1,e2,e3,e4,_⟩:=failAt_head d n keep (by omega) i.node.ok
 have p:NodeP (d.failAt n keep).2 h s x:=i.node.moved r ⟨KR.refl _ _,first_le_sure i.node.run.chain s⟩
 have l:=i.later
 exact .inl ⟨p.off,s,⟨p,i.host,l.next,by rw [e1];exact l.tot,by rw [e1];exact l.fls,e4.trans i.room⟩,HoM.refl h s x⟩
theorem HoI.act (i:HoI d h s x id c k) (g:Grw d d' 120 1) (a:ActC d h s x.next x.gap d' h'):HoA d h s x d' h' x id c (k+1):=by
 obtain ⟨g1,g2,g3⟩:=i.grw g
 have hn:=i.next
 rcases i.node.act a with ⟨s',p,st⟩ | f
 · have:=st.nextC p
   exact .inl ⟨p.off,s',⟨p,i.host,by omega,g1,g2,g3⟩,st.kr.sure,Int.le_refl _,Int.le_refl _⟩
 exact .inr ⟨f.off,i.node,f,i.host,by omega,g1,g2,g3⟩
theorem HoI.app (i:HoI d h s x id c k) (hk:k≤800) (y:Sp.Span):HoA d h s x (appP d h y).2.2 (appP d h y).2.1 x id c (k+1) :=
 i.act (i.node.ok.app_grw h y) (i.node.run.app (by have:=i.next;omega) y)
theorem HoI.sync (i:HoI d h s x id c k):HoA d h s x (syncP d h).2.2 (syncP d h).2.1 x id c (k+1):=i.act (i.node.ok.syncP_grw h) i.node.run.sync
theorem HoI.rot (i:HoI d h s x id c k) (hk:k≤800):HoA d h s x (rotP d h).2.2 (rotP d h).2.1 x id c (k+1) :=
 i.act (i.node.ok.rot_grw h) (i.node.run.rot (by have:=i.next;omega))
theorem HoI.ret (i:HoI d h s x id c k) (n:Int):HoA d h s x (retP n d h).2.2 (retP n d h).2.1 x id c (k+1):=i.act (i.node.ok.ret_grw h _) (i.node.run.ret _)
theorem HoI.crash (i:HoI d h s x id c k) (keep:List Int):(d.crash keep).1=0∧HoA d h s x (d.crash keep).2 h x id c (k+1):=by
 obtain ⟨l',t',f,st⟩:=i.node.run.crash keep
 obtain ⟨dr,f0,_⟩:=i.node.run.file
 have e:d.crash keep=(0,d.crashed keep):=by unfold Dk.crash;rw [i.node.off,if_neg (by decide)]
 obtain ⟨g1,g2,g3⟩:=i.grw ((f0.ok.crash_grw keep).more (Nat.zero_le _) (Nat.zero_le _))
 have hn:=i.next
 exact ⟨by rw [e],.inr ⟨f.off,i.node,⟨l',t',f,st⟩,i.host,by omega,g1,g2,g3⟩⟩
theorem HoI.step (i:HoI d h s x id c k) (hk:k≤800) (hc:250*(k+2)≤c) (now:Int):HoA d h s x (stepC now d h x).2.2 h (stepC now d h x).2.1 id c (k+1):=by
 obtain ⟨_,b0,b1,b2⟩:=i.few hk hc
 have b4:sureOf h.l s≤2147483647:=by have:=sureOf_le h.l s;omega
 obtain ⟨g1,g2,g3⟩:=i.grw (step_grw i.node.ok now h x)
 have hh:(stepC now d h x).2.1.host=x.host:=step_host now d h x
 have l:=i.later
 rcases i.node.step now b1 b2 b4 with ⟨e1,p,e2,e3,e4⟩ | ⟨e1,e2,e3⟩
 · exact .inl ⟨p.off,s,⟨p,hh.trans i.host,l.next,g1,g2,g3⟩,Nat.le_refl _,e3,by omega⟩
 exact .inr ⟨e3.off,i.node,e3,i.host,by have:=i.next;omega,g1,g2,g3⟩
theorem HoI.take (i:HoI d h s x id c k) (hk:k≤800) (hc:250*(k+2)≤c) (b:Po.Str):HoA d h s x (takeC b d x).2.2 h (takeC b d x).2.1 id c (k+1):=by
 obtain ⟨_,b0,b1,b2⟩:=i.few hk hc
 have b4:sureOf h.l s≤2147483647:=by have:=sureOf_le h.l s;omega
 obtain ⟨g1,g2,g3⟩:=i.grw (take_grw i.node.ok b x)
 have l:=i.later
 rcases i.node.take b b1 b2 b4 with ⟨e1,e2,_⟩ | ⟨e1,e2,e3,e4,p⟩ | ⟨e1,e2,e3,e4,f⟩
 · rw [e2]
   exact .inl ⟨i.node.off,s,l,HoM.refl h s x⟩
 · have hm:0≤x.many:=by
    rcases i.node.out with ⟨o,_⟩ | ⟨ss,_,e,_⟩
    · exact absurd o e2
    omega
   rw [← e4] at p
   refine .inl ⟨p.off,s,⟨p,by rw [e4];exact i.host,l.next,g1,g2,g3⟩,Nat.le_refl _,?_,?_⟩
   · rw [e4];show x.next≤x.next+x.many;omega
   rw [e4];exact Int.le_refl _
 exact .inr ⟨f.off,i.node,f,i.host,by have:=i.next;omega,g1,g2,g3⟩
theorem HoD.again (f:HoD d h s x d' id c k) (hk:k≤800) (hc:250*(k+2)≤c):d'.off=true∧d'.start.1=0∧d'.start.2.off=false∧∃ l' t' dr,LSt d'.start.2 l' t' (lastT l'++t').length dr∧nextOf l'≤999999999∧∃ d3 s3,openP d'.start.2 l' t'=(0,d3)∧loadD d3=((x.next,x.gap),0)∧HoI d3 ⟨d'.start.2.starts,false,l'⟩ s3 ⟨id,x.next,x.gap,noB,0,0⟩ id c (k+1)∧HoM h s x ⟨d'.start.2.starts,false,l'⟩ s3 ⟨id,x.next,x.gap,noB,0,0⟩:=by
 have h1:=f.fls
 have h2:=f.tot
 have h3:=f.room
 have h4:=f.next
 obtain ⟨a1,a2,a3,l',t',dr,a4,a5,d3,s3,a6,a7,a8,a9,_⟩:=f.fell.again f.node (by omega) (by omega) (by omega)
 have hroom:d'.start.2.room=d'.room:=by unfold Dk.start;split <;> rfl
 have hfiles:d'.start.2.files=d'.files:=by unfold Dk.start;split <;> rfl
 obtain ⟨b1,b2,b3⟩:=open_small a4 a3 (by omega) a6
 rw [hfiles] at b1 b2
 rw [f.host] at a7
 exact ⟨a1,a2,a3,l',t',dr,a4,by omega,d3,s3,a6,a9,⟨a7,rfl,by show nextOf l'≤_;omega,by omega,by omega,b3.trans (hroom.trans h3)⟩,a8.kr.sure,Int.le_refl _,Int.le_refl _⟩
end
end Go.Proofs.YtdacanghbepjpaaGreatDoor
namespace Go.Proofs.YtdacanghbepjpaaGreatDoor
open Go.RowKit Go.Maps
open Dsk
def upP (b:Bool) (j:Nat):Option Addr:=if b then some ⟨j,0,none⟩ else none
def hsV (o:Hs) (bd j jx:Nat):Array Value:=#[.int .i64 o.id,.int .i64 o.now,.int .i64 o.refused,.pointer (some ⟨bd,0,none⟩),.pointer (upP o.up j),.pointer (upP o.up jx)]
def HN (w0:World) (P:Nat→Prop) (W:World) (bd j jx:Nat) (o:Hs):Prop:=(o.up=true→NA w0 P W bd j jx o.d o.h o.x)∧DA w0 P W bd o.d
def HE (w0 W:World) (K:Nat→Prop) (jh bd j jx:Nat) (o:Hs):Prop :=
 ∃ P,HN w0 P W bd j jx o∧Blk W jh 122 (hsV o bd j jx)∧¬ P jh∧w0.heap.size≤jh∧∀ k,K k→¬ P k∧k<W.heap.size∧k≠jh
section
variable {w0 w w' w2:World} {P P' S K:Nat→Prop} {jh bd j jx:Nat} {o o':Hs} {c:FuncId} {args:Array Value} {E:Ending}
theorem HN.lt (n:HN w0 P w bd j jx o):∀ k,P k→k<w.heap.size:=by obtain ⟨_,X,_,_,hU⟩:=n;exact hU
theorem HN.base (n:HN w0 P w bd j jx o):Below w0.heap.size w0 w:=n.2.base
theorem HN.other (n:HN w0 P w bd j jx o) (c:Chg S w w') (hS:∀ k,k<w.heap.size→S k→w0.heap.size≤k∧¬ P k):HN w0 P w' bd j jx o:=⟨fun e => (n.1 e).other c hS,n.2.other c hS⟩
theorem HN.below (n:HN w0 P w bd j jx o) (y:Below w.heap.size w w'):HN w0 P w' bd j jx o:=n.other (S:=fun _ => False) (Chg.of_below y) fun _ _ e => e.elim
theorem HE.base (n:HE w0 w K jh bd j jx o):Below w0.heap.size w0 w:=by obtain ⟨P,n,_⟩:=n;exact n.base
theorem HE.blk (n:HE w0 w K jh bd j jx o):Blk w jh 122 (hsV o bd j jx):=by obtain ⟨P,_,n,_⟩:=n;exact n
theorem HE.cells (n:HE w0 w K jh bd j jx o):w.cell? ⟨jh,0,none⟩=some (.int .i64 o.id)∧w.cell? ⟨jh,1,none⟩=some (.int .i64 o.now)∧w.cell? ⟨jh,2,none⟩=some (.int .i64 o.refused)∧w.cell? ⟨jh,3,none⟩=some (.pointer (some ⟨bd,0,none⟩))∧w.cell? ⟨jh,4,none⟩=some (.pointer (upP o.up j))∧w.cell? ⟨jh,5,none⟩=some (.pointer (upP o.up jx)) :=
 ⟨n.blk.cell 0,n.blk.cell 1,n.blk.cell 2,n.blk.cell 3,n.blk.cell 4,n.blk.cell 5⟩
theorem HE.below (n:HE w0 w K jh bd j jx o) (y:Below w.heap.size w w'):HE w0 w' K jh bd j jx o:=by
 obtain ⟨P,n,hb,h1,h2,hK⟩:=n
 exact ⟨P,n.below y,hb.below y,h1,h2,fun k e => ⟨(hK k e).1,Nat.lt_of_lt_of_le (hK k e).2.1 y.size,(hK k e).2.2⟩⟩
theorem HE.add (n:HE w0 w K jh bd j jx o) (y:Below w.heap.size w w'):HE w0 w' (Also K w w') jh bd j jx o:=by
 obtain ⟨P,n,hb,h1,h2,hK⟩:=n
 refine ⟨P,n.below y,hb.below y,h1,h2,fun k e => ?_⟩
 rcases e with e | e
 · exact ⟨(hK k e).1,Nat.lt_of_lt_of_le (hK k e).2.1 y.size,(hK k e).2.2⟩
 exact ⟨fun e2 => by have:=n.lt k e2;omega,e.2,by have:=hb.lt;omega⟩
theorem HE.drop {K2:Nat→Prop} (n:HE w0 w K jh bd j jx o) (hK2:∀ k,K2 k→K k):HE w0 w K2 jh bd j jx o:=by
 obtain ⟨P,n,hb,h1,h2,hK⟩:=n
 exact ⟨P,n,hb,h1,h2,fun k e => hK k (hK2 k e)⟩
theorem HE.row (n:HE w0 w K jh bd j jx o) (c:Chg S w w') (hS:∀ k,S k→k<w.heap.size→K k∧w0.heap.size≤k):HE w0 w' K jh bd j jx o:=by
 obtain ⟨P,n,hb,h1,h2,hK⟩:=n
 have c2:Chg (fun k => S k∧k<w.heap.size) w w':=⟨c.os,c.tape,c.output,c.size,fun i hi hs => c.block i hi fun e => hs ⟨e,hi⟩⟩
 exact ⟨P,n.other c2 fun k hk e => ⟨(hS k e.1 e.2).2,(hK k (hS k e.1 e.2).1).1⟩,hb.chg c2 fun e => (hK _ (hS _ e.1 e.2).1).2.2 rfl,h1,h2,fun k e => ⟨(hK k e).1,Nat.lt_of_lt_of_le (hK k e).2.1 c.size,(hK k e).2.2⟩⟩
theorem HE.acted {d':Dk} {h':Hl} {x':Dm} (hK:HE w0 w K jh bd j jx o) (hu:o.up=true)
  (f:∀ P,NA w0 P w bd j jx o.d o.h o.x→Calls Tryz.prog c args w fun e w' => e=E∧Acted w0 P w bd j jx d' h' x' w') :
  Calls Tryz.prog c args w fun e w' => e=E∧HE w0 w' K jh bd j jx { o with d:=d',h:=h',x:=x' }∧Keeps K w w':=by
 obtain ⟨P,n,hb,h1,h2,hK⟩:=hK
 refine (f P (n.1 hu)).mono ?_
 rintro e w' ⟨rfl,P',g,n',hc⟩
 refine ⟨rfl,⟨P',⟨fun _ => n',n'.disk⟩,hb.chg hc h1,g.not hb.lt h1,h2,fun k e => ⟨g.not (hK k e).2.1 (hK k e).1,Nat.lt_of_lt_of_le (hK k e).2.1 hc.size,(hK k e).2.2⟩⟩,Chg.mono hc fun k _ e e2 => (hK k e2).1 e⟩
theorem HE.app {s:Nat} (n:HE w0 w K jh bd j jx o) (hu:o.up=true) (he:LEnv w0) (f:Few o.d o.h s o.x) (y:Sp.Span) (h1:y.service.size≤maxLen) (h2:y.host.size≤maxLen) (h3:y.note.size≤maxLen) :
  Calls Tryz.prog 20 #[.pointer (some ⟨j,0,none⟩),spV y] w fun e w' => e=.returned (.int .i64 (appP o.d o.h y).1)∧HE w0 w' K jh bd j jx { o with d:=(appP o.d o.h y).2.2,h:=(appP o.d o.h y).2.1 }∧Keeps K w w' :=
 n.acted hu fun P na => na.app he f.node f.next y h1 h2 h3
theorem HE.sync {s:Nat} (n:HE w0 w K jh bd j jx o) (hu:o.up=true) (he:LEnv w0) (f:Few o.d o.h s o.x) :
  Calls Tryz.prog 22 #[.pointer (some ⟨j,0,none⟩)] w fun e w' => e=.returned (.int .i64 (syncP o.d o.h).1)∧HE w0 w' K jh bd j jx { o with d:=(syncP o.d o.h).2.2,h:=(syncP o.d o.h).2.1 }∧Keeps K w w' :=
 n.acted hu fun P na => na.sync he f.node f.next
theorem HE.rot {s:Nat} (n:HE w0 w K jh bd j jx o) (hu:o.up=true) (he:LEnv w0) (f:Few o.d o.h s o.x) :
  Calls Tryz.prog 89 #[.pointer (some ⟨j,0,none⟩)] w fun e w' => e=.returned (.int .i64 (rotP o.d o.h).1)∧HE w0 w' K jh bd j jx { o with d:=(rotP o.d o.h).2.2,h:=(rotP o.d o.h).2.1 }∧Keeps K w w' :=
 n.acted hu fun P na => na.rot he f.node f.next
theorem HE.ret {s:Nat} (n:HE w0 w K jh bd j jx o) (hu:o.up=true) (he:LEnv w0) (f:Few o.d o.h s o.x) (m:Int) :
  Calls Tryz.prog 90 #[.pointer (some ⟨j,0,none⟩),.int .i64 m] w fun e w' => e=.returned (.int .i64 (retP m o.d o.h).1)∧HE w0 w' K jh bd j jx { o with d:=(retP m o.d o.h).2.2,h:=(retP m o.d o.h).2.1 }∧Keeps K w w' :=
 n.acted hu fun P na => na.ret he f.node f.next m
theorem HE.step {s:Nat} (n:HE w0 w K jh bd j jx o) (hu:o.up=true) (he:LEnv w0) (f:Few o.d o.h s o.x) (now:Int) (ho:NowB now o.x.sent) :
  Calls Tryz.prog 14 #[.pointer (some ⟨jx,0,none⟩),.int .i64 now] w fun e w' => e=.returned (.tuple #[.string (stepC now o.d o.h o.x).1.1,.int .i64 (stepC now o.d o.h o.x).1.2])∧HE w0 w' K jh bd j jx { o with d:=(stepC now o.d o.h o.x).2.2,x:=(stepC now o.d o.h o.x).2.1 }∧Keeps K w w' :=
 n.acted hu fun P na => na.step he f.node f.next f.len f.room now ho
theorem HE.take {s:Nat} (n:HE w0 w K jh bd j jx o) (hu:o.up=true) (f:Few o.d o.h s o.x) (b:ByteArray) (hb:b.size≤maxLen) :
  Calls Tryz.prog 15 #[.pointer (some ⟨jx,0,none⟩),.string b] w fun e w' => e=.returned (.tuple #[.bool (takeC b.data.toList o.d o.x).1.1,.int .i64 (takeC b.data.toList o.d o.x).1.2])∧HE w0 w' K jh bd j jx { o with d:=(takeC b.data.toList o.d o.x).2.2,x:=(takeC b.data.toList o.d o.x).2.1 }∧Keeps K w w' :=
 n.acted hu fun P na => na.take f.node f.next b hb
theorem HE.crash (n:HE w0 w K jh bd j jx o) (hu:o.up=true) (kv:Value) (keep:List Int) (hk:KeepR w (fun k => w0.heap.size≤k) kv keep) (hkl:keep.length≤1000000) :
  Calls Tryz.prog 120 #[.pointer (some ⟨bd,0,none⟩),kv] w fun e w' => e=.returned (.int .i64 (o.d.crash keep).1)∧HE w0 w' K jh bd j jx { o with d:=(o.d.crash keep).2 }∧Keeps K w w' :=
 n.acted hu fun P na => na.crash kv keep hk hkl
theorem HE.failAt (n:HE w0 w K jh bd j jx o) (hu:o.up=true) (m:Int) (hm:m≤9223372036854775807) (kv:Value) (keep:List Int) (hk:KeepR w (fun k => w0.heap.size≤k) kv keep) (hkl:keep.length≤1000000) :
  Calls Tryz.prog 34 #[.pointer (some ⟨bd,0,none⟩),.int .i64 m,kv] w fun e w' => e=.returned (.int .i64 (o.d.failAt m keep).1)∧HE w0 w' K jh bd j jx { o with d:=(o.d.failAt m keep).2 }∧Keeps K w w' :=
 n.acted hu fun P na => na.failAt m hm kv keep hk hkl
theorem HE.isUp (n:HE w0 w K jh bd j jx o):Calls Tryz.prog 37 #[.pointer (some ⟨bd,0,none⟩)] w fun e w' => e=.returned (.bool (!o.d.off))∧w=w':=by
 obtain ⟨P,n,_⟩:=n
 exact n.2.up
theorem HE.first {s:Nat} (n:HE w0 w K jh bd j jx o) (hu:o.up=true) (f:Few o.d o.h s o.x):Calls Tryz.prog 26 #[.pointer (some ⟨j,0,none⟩)] w fun e w' => e=.returned (.int .i64 (firstOf o.h.l:Nat))∧Below w.heap.size w w':=by
 obtain ⟨P,n,_⟩:=n
 exact (n.1 hu).first f.node f.next
theorem HE.sure {s:Nat} (n:HE w0 w K jh bd j jx o) (hu:o.up=true) (he:LEnv w0) (f:Few o.d o.h s o.x):Calls Tryz.prog 27 #[.pointer (some ⟨j,0,none⟩)] w fun e w' => e=.returned (.int .i64 (sureOf o.h.l s:Nat))∧Below w.heap.size w w':=by
 obtain ⟨P,n,_⟩:=n
 exact (n.1 hu).sure he f.node f.next
theorem HE.end_ {s:Nat} (n:HE w0 w K jh bd j jx o) (hu:o.up=true) (f:Few o.d o.h s o.x):Calls Tryz.prog 30 #[.pointer (some ⟨j,0,none⟩)] w fun e w' => e=.returned (.int .i64 (nextOf o.h.l:Nat))∧Below w.heap.size w w':=by
 obtain ⟨P,n,_⟩:=n
 exact (n.1 hu).end_ f.node f.next
theorem HE.cursor (n:HE w0 w K jh bd j jx o) (hu:o.up=true):Calls Tryz.prog 16 #[.pointer (some ⟨jx,0,none⟩)] w fun e w' => e=.returned (curV o.x.next o.x.gap)∧Below w.heap.size w w':=by
 obtain ⟨P,n,_⟩:=n
 exact (n.1 hu).cursor
theorem HE.waiting (n:HE w0 w K jh bd j jx o) (hu:o.up=true):Calls Tryz.prog 17 #[.pointer (some ⟨jx,0,none⟩)] w fun e w' => e=.returned (.bool (!o.x.out.toList.isEmpty))∧w=w':=by
 obtain ⟨P,n,_⟩:=n
 exact (n.1 hu).waiting
theorem HE.set {v:Value} {i:Nat} (n:HE w0 w K jh bd j jx o) (hv:(hsV o bd j jx).setIfInBounds i v=hsV o' bd j jx) (hu:o'.up=true→o.up=true) (hd:o'.d=o.d∧o'.h=o.h∧o'.x=o.x) :
  HE w0 (w.setCell ⟨jh,i,none⟩ v) K jh bd j jx o'∧Keeps K w (w.setCell ⟨jh,i,none⟩ v):=by
 obtain ⟨P,n,hb,h1,h2,hK⟩:=n
 have hc:Chg (fun k => k=jh) w (w.setCell ⟨jh,i,none⟩ v):=(Chg.refl (fun k => k=jh) w).setCell (p:=⟨jh,i,none⟩) (fun _ => rfl) v
 have n':=n.other hc fun k _ e => ⟨e ▸ h2,e ▸ h1⟩
 refine ⟨⟨P,⟨fun e => ?_,?_⟩,by rw [← hv];exact hb.set i v,h1,h2,fun k e => ⟨(hK k e).1,Nat.lt_of_lt_of_le (hK k e).2.1 hc.size,(hK k e).2.2⟩⟩,Chg.mono hc fun k _ e e2 => (hK k e2).2.2 e⟩
 · rw [hd.1,hd.2.1,hd.2.2];exact n'.1 (hu e)
 rw [hd.1];exact n'.2
end
end Go.Proofs.YtdacanghbepjpaaGreatDoor
namespace Go.Proofs.YtdacanghbepjpaaGreatDoor
open Go.RowKit Go.Maps
open Dsk
def Hs.settle (o:Hs):Hs:={ o with up:=o.up && !o.d.off }
section
variable {w0 w w':World} {P S K:Nat→Prop} {jh bd j jx:Nat} {o o':Hs}
theorem ho_state (n:HE w0 w K jh bd j jx o):Calls Tryz.prog 104 #[.pointer (some ⟨jh,0,none⟩)] w fun e w' => e=.returned (.int .i64 (if o.up=true then 0 else 250))∧w=w':=by
 obtain ⟨c0,c1,c2,c3,c4,c5⟩:=n.cells
 cases hu:o.up
 · rw [hu] at c4
   unfold upP at c4
   simp only [Bool.false_eq_true,if_false] at c4 ⊢
   clear n c0 c1 c2 c5 hu
   go_enter Tryz.func104,Tryz.ntmps104
   go_wp2_with fail
   go_ret
   exact ⟨rfl,rfl⟩
 rw [hu] at c4
 unfold upP at c4
 simp only [if_true] at c4 ⊢
 clear n c0 c1 c2 c5 hu
 go_enter Tryz.func104,Tryz.ntmps104
 go_wp2_with fail
 go_ret
 exact ⟨rfl,rfl⟩
theorem ho_up (n:HE w0 w K jh bd j jx o):Calls Tryz.prog 47 #[.pointer (some ⟨jh,0,none⟩)] w fun e w' => e=.returned (.bool o.up)∧w=w':=by
 have HS:=Zh (ho_state n)
 clear n
 obtain ⟨u,hu⟩:∃ u,u=o.up:=⟨_,rfl⟩
 rw [← hu] at HS ⊢
 clear hu
 go_enter Tryz.func47,Tryz.ntmps47
 go_wp2_with fail
 refine HS.out.mono ?_
 rintro e w1 ⟨rfl,rfl⟩
 clear HS
 cases u
 · go_wp2_with fail
   go_ret
   exact ⟨rfl,rfl⟩
 go_wp2_with fail
 go_ret
 exact ⟨rfl,rfl⟩
theorem HE.letGo (n:HE w0 w K jh bd j jx o):HE w0 ((w.setCell ⟨jh,4,none⟩ (.pointer none)).setCell ⟨jh,5,none⟩ (.pointer none)) K jh bd j jx { o with up:=false }∧Keeps K w ((w.setCell ⟨jh,4,none⟩ (.pointer none)).setCell ⟨jh,5,none⟩ (.pointer none)):=by
 obtain ⟨P,n,hb,h1,h2,hK⟩:=n
 have hc:Chg (fun k => k=jh) w ((w.setCell ⟨jh,4,none⟩ (.pointer none)).setCell ⟨jh,5,none⟩ (.pointer none)):=((Chg.refl (fun k => k=jh) w).setCell (p:=⟨jh,4,none⟩) (fun _ => rfl) _).setCell (p:=⟨jh,5,none⟩) (fun _ => rfl) _
 have n':=n.other hc fun k _ e => ⟨e ▸ h2,e ▸ h1⟩
 exact ⟨⟨P,⟨fun e => (by cases e),n'.2⟩,(hb.set 4 _).set 5 _,h1,h2,fun k e => ⟨(hK k e).1,Nat.lt_of_lt_of_le (hK k e).2.1 hc.size,(hK k e).2.2⟩⟩,Chg.mono hc fun k _ e e2 => (hK k e2).2.2 e⟩
def DownP (w0 w:World) (K:Nat→Prop) (jh bd j jx:Nat) (o:Hs) (w':World):Prop:=HE w0 w' K jh bd j jx o.settle∧Keeps K w w'
theorem ho_down_d (n:HE w0 w K jh bd j jx o) (u:FrameMode):CallsD Tryz.prog 105 #[.pointer (some ⟨jh,0,none⟩)] u w fun e u' w' => u'=u∧e=.returned (.tuple #[])∧DownP w0 w K jh bd j jx o w':=by
 obtain ⟨c0,c1,c2,c3,c4,c5⟩:=n.cells
 have HU:=Zh n.isUp
 have f4:=n.blk.free 4
 have f5:=n.blk.free 5
 have HD:=Zh n.letGo
 have HN:=Zh n
 cases hoff:o.d.off
 case true =>
  have HP:=Zh (show DownP w0 w K jh bd j jx o ((w.setCell ⟨jh,4,none⟩ (.pointer none)).setCell ⟨jh,5,none⟩ (.pointer none)) from by
   unfold DownP Hs.settle
   rw [hoff,Bool.not_true,Bool.and_false]
   exact HD.out)
  rw [hoff] at HU
  clear hoff HD n HN c0 c1 c2
  go_enter_d Tryz.func105,Tryz.ntmps105
  go_wp2_with fail
  refine HU.out.mono ?_
  rintro e w1 ⟨rfl,rfl⟩
  clear HU
  go_wp2_with fail
  go_end0
  exact ⟨rfl,HP.out⟩
 case false =>
 have HP:=Zh (show DownP w0 w K jh bd j jx o w from by
  unfold DownP Hs.settle
  rw [hoff,Bool.not_false,Bool.and_true]
  exact ⟨HN.out,Chg.refl _ _⟩)
 rw [hoff] at HU
 clear hoff HD n HN c0 c1 c2
 go_enter_d Tryz.func105,Tryz.ntmps105
 go_wp2_with fail
 refine HU.out.mono ?_
 rintro e w1 ⟨rfl,rfl⟩
 clear HU
 go_wp2_with fail
 go_end0
 exact ⟨rfl,HP.out⟩
theorem ho_down (n:HE w0 w K jh bd j jx o):Calls Tryz.prog 105 #[.pointer (some ⟨jh,0,none⟩)] w fun e w' => e=.returned (.tuple #[])∧DownP w0 w K jh bd j jx o w':=by
 obtain ⟨c0,c1,c2,c3,c4,c5⟩:=n.cells
 have HU:=Zh n.isUp
 have f4:=n.blk.free 4
 have f5:=n.blk.free 5
 have HD:=Zh n.letGo
 have HN:=Zh n
 cases hoff:o.d.off
 case true =>
  have HP:=Zh (show DownP w0 w K jh bd j jx o ((w.setCell ⟨jh,4,none⟩ (.pointer none)).setCell ⟨jh,5,none⟩ (.pointer none)) from by
   unfold DownP Hs.settle
   rw [hoff,Bool.not_true,Bool.and_false]
   exact HD.out)
  rw [hoff] at HU
  clear hoff HD n HN c0 c1 c2
  go_enter Tryz.func105,Tryz.ntmps105
  go_wp2_with fail
  refine HU.out.mono ?_
  rintro e w1 ⟨rfl,rfl⟩
  clear HU
  go_wp2_with fail
  go_end0
  exact ⟨rfl,HP.out⟩
 case false =>
 have HP:=Zh (show DownP w0 w K jh bd j jx o w from by
  unfold DownP Hs.settle
  rw [hoff,Bool.not_false,Bool.and_true]
  exact ⟨HN.out,Chg.refl _ _⟩)
 rw [hoff] at HU
 clear hoff HD n HN c0 c1 c2
 go_enter Tryz.func105,Tryz.ntmps105
 go_wp2_with fail
 refine HU.out.mono ?_
 rintro e w1 ⟨rfl,rfl⟩
 clear HU
 go_wp2_with fail
 go_end0
 exact ⟨rfl,HP.out⟩
theorem ho_does (n:HE w0 w K jh bd j jx o) (hup:o.up=true) {f:FuncId} {caps:Array Value} (hent:Go.Proofs.Enters Tryz.prog f) {T:Int→Hs→(Nat→Prop)→World→Prop}
  (hdo:Calls Tryz.prog f caps w fun e w2 => ∃ r o2 K2,e=.returned (.int .i64 r)∧HE w0 w2 K2 jh bd j jx o2∧T r o2 K2 w2) :
  Calls Tryz.prog 112 #[.pointer (some ⟨jh,0,none⟩),.func (.func f) #[] caps] w fun e w' => ∃ r o2 K2 w2,e=.returned (.int .i64 r)∧T r o2 K2 w2∧DownP w0 w2 K2 jh bd j jx o2 w':=by
 have Hent:=Zh (fun w => hent caps w)
 have HST:=Zh (ho_state n)
 rw [if_pos hup] at HST
 have HDO:=Zh hdo
 clear hent hdo n hup
 go_enter_defers Tryz.func112,Tryz.ntmps112
 go_wp2_with fail
 refine HST.out.mono ?_
 rintro e w1 ⟨rfl,rfl⟩
 clear HST
 go_wp2_with fail
 rw [Hent.out]
 refine HDO.out.mono ?_
 rintro e w2 ⟨r,o2,K2,rfl,hn2,ht⟩
 have HN2:=Zh hn2
 have HT:=Zh ht
 clear hn2 ht HDO Hent
 go_wp2_with fail
 refine leaves_cons (f:=105) (args:=#[.pointer (some ⟨jh,0,none⟩)]) (by simp) (by simp [go_sem]) ?_
 refine (ho_down_d HN2.out .returning).mono ?_
 rintro e u' w3 ⟨rfl,rfl,hd⟩
 exact ⟨_,results_tmp rfl _ _ _,r,o2,K2,w2,rfl,HT.out,hd⟩
theorem ho_does_no (n:HE w0 w K jh bd j jx o) (hup:o.up=false) (v:Value) :
  Calls Tryz.prog 112 #[.pointer (some ⟨jh,0,none⟩),v] w fun e w' => e=.returned (.int .i64 250)∧w=w':=by
 have HST:=Zh (ho_state n)
 rw [if_neg (by rw [hup];decide)] at HST
 clear n hup
 go_enter_defers Tryz.func112,Tryz.ntmps112
 go_wp2_with fail
 refine HST.out.mono ?_
 rintro e w1 ⟨rfl,rfl⟩
 clear HST
 go_wp2_with fail
 exact ⟨_,results_tmp rfl _ _ _,rfl,rfl⟩
end
end Go.Proofs.YtdacanghbepjpaaGreatDoor
namespace Go.Proofs.YtdacanghbepjpaaGreatDoor
open Go.RowKit Go.Maps
open Dsk
structure Bx (w:World) (K:Nat→Prop) (b:Nat) (t:TypeId) (cs:Array Value):Prop where
 blk:Blk w b t cs
 kept:K b
section
variable {w0 w w':World} {P S K:Nat→Prop} {jh bd j jx b1 b2 b3 s:Nat} {o o':Hs} {t t1 t2 t3:TypeId} {cs:Array Value}
theorem Bx.below (h:Bx w K b1 t cs) (y:Below w.heap.size w w'):Bx w' K b1 t cs:=⟨h.blk.below y,h.kept⟩
theorem Bx.keeps (h:Bx w K b1 t cs) (y:Keeps K w w'):Bx w' K b1 t cs:=⟨h.blk.chg y fun e => e h.kept,h.kept⟩
def wroteO (o:Hs) (y:Sp.Span):Hs:={ o with d:=(appP o.d o.h y).2.2,h:=(appP o.d o.h y).2.1,refused:=if (appP o.d o.h y).1=0 then o.refused else o.refused+1 }
theorem ho_sync1 (n:HE w0 w K jh bd j jx o) (hu:o.up=true) (he:LEnv w0) (f:Few o.d o.h s o.x) (k1:Bx w K b1 t #[.pointer (some ⟨jh,0,none⟩)]) :
  Calls Tryz.prog 115 #[.pointer (some ⟨b1,0,none⟩)] w fun e w2 => e=.returned (.int .i64 (syncP o.d o.h).1)∧HE w0 w2 K jh bd j jx { o with d:=(syncP o.d o.h).2.2,h:=(syncP o.d o.h).2.1 }∧Keeps K w w2:=by
 have HN:=Zh n
 have HC:=Zh (HN.out.sync hu he f)
 obtain ⟨R,hR⟩:∃ R,R=syncP o.d o.h:=⟨_,rfl⟩
 rw [← hR] at HC ⊢
 obtain ⟨c0,c1,c2,c3,c4,c5⟩:=n.cells
 rw [hu] at c4 c5
 unfold upP at c4 c5
 simp only [if_true] at c4 c5
 have kb:=k1.blk.cell 0
 simp only [Zx] at kb
 clear n hR hu
 go_enter Tryz.func115,Tryz.ntmps115
 go_wp2_with fail
 refine HC.out.mono ?_
 rintro e w1 ⟨rfl,hh⟩
 have HH:=Zh hh
 clear hh HC
 go_wp2_with fail
 go_ret
 exact ⟨rfl,HH.out⟩
theorem ho_rotate1 (n:HE w0 w K jh bd j jx o) (hu:o.up=true) (he:LEnv w0) (f:Few o.d o.h s o.x) (k1:Bx w K b1 t #[.pointer (some ⟨jh,0,none⟩)]) :
  Calls Tryz.prog 116 #[.pointer (some ⟨b1,0,none⟩)] w fun e w2 => e=.returned (.int .i64 (rotP o.d o.h).1)∧HE w0 w2 K jh bd j jx { o with d:=(rotP o.d o.h).2.2,h:=(rotP o.d o.h).2.1 }∧Keeps K w w2:=by
 have HN:=Zh n
 have HC:=Zh (HN.out.rot hu he f)
 obtain ⟨R,hR⟩:∃ R,R=rotP o.d o.h:=⟨_,rfl⟩
 rw [← hR] at HC ⊢
 obtain ⟨c0,c1,c2,c3,c4,c5⟩:=n.cells
 rw [hu] at c4 c5
 unfold upP at c4 c5
 simp only [if_true] at c4 c5
 have kb:=k1.blk.cell 0
 simp only [Zx] at kb
 clear n hR hu
 go_enter Tryz.func116,Tryz.ntmps116
 go_wp2_with fail
 refine HC.out.mono ?_
 rintro e w1 ⟨rfl,hh⟩
 have HH:=Zh hh
 clear hh HC
 go_wp2_with fail
 go_ret
 exact ⟨rfl,HH.out⟩
theorem ho_retain1 (n:HE w0 w K jh bd j jx o) (hu:o.up=true) (he:LEnv w0) (f:Few o.d o.h s o.x) (k1:Bx w K b1 t1 #[.pointer (some ⟨jh,0,none⟩)]) {m:Int} (k2:Bx w K b2 t2 #[.int .i64 m]) :
  Calls Tryz.prog 117 #[.pointer (some ⟨b1,0,none⟩),.pointer (some ⟨b2,0,none⟩)] w fun e w2 => e=.returned (.int .i64 (retP m o.d o.h).1)∧HE w0 w2 K jh bd j jx { o with d:=(retP m o.d o.h).2.2,h:=(retP m o.d o.h).2.1 }∧Keeps K w w2:=by
 obtain ⟨w1,hw1⟩:∃ y,y=w.drew:=⟨_,rfl⟩
 have HB1:=Zh (Zd hw1)
 have HN:=Zh (n.below HB1.out)
 have HC:=Zh (HN.out.ret hu he f m)
 have K1:=Zh (k1.below HB1.out)
 have K2:=Zh (k2.below HB1.out)
 have hcel:∀ (W:World) (o':Hs),HE w0 W K jh bd j jx o'→o'.up=true→W.cell? ⟨jh,4,none⟩=some (.pointer (some ⟨j,0,none⟩)):=fun W o' h e => by
  have:=h.cells.2.2.2.2.1
  rw [e] at this
  exact this
 have hT:w1.cell? ⟨b1,0,none⟩=some (.pointer (some ⟨jh,0,none⟩))∧w1.cell? ⟨jh,4,none⟩=some (.pointer (some ⟨j,0,none⟩))∧w1.cell? ⟨b2,0,none⟩=some (.int .i64 m):=⟨K1.out.blk.cell 0,hcel w1 _ HN.out hu,K2.out.blk.cell 0⟩
 have hS:True:=trivial
 obtain ⟨R,hR⟩:∃ R,R=retP m o.d o.h:=⟨_,rfl⟩
 rw [← hR] at HC ⊢
 have HUU:=Zh hu
 clear n hR k1 hu
 go_enter Tryz.func117,Tryz.ntmps117
 go_wp2_with fail
 refine wp_region_two (T:=fun W => W.cell? ⟨b1,0,none⟩=some (.pointer (some ⟨jh,0,none⟩))∧W.cell? ⟨jh,4,none⟩=some (.pointer (some ⟨j,0,none⟩))∧W.cell? ⟨b2,0,none⟩=some (.int .i64 m)) (S:=fun _ => True) (n:=99) (by kernel_rfl) ?_
 rw [← hw1]
 clear hw1
 refine tk 0 3 hT hS ?_
 refine tk 1 4 hT hS ?_
 try simp only [xq]
 refine tk 2 5 hT hS ?_
 refine tk 3 6 hT hS ?_
 try simp only [xq]
 refine tk 4 7 hT hS ?_
 try simp only [xq]
 refine two_one 5 rfl (by kernel_rfl) ?_
 intro K0 hK0
 go_simp
 refine HC.out.mono ?_
 rintro e w2 ⟨rfl,hn2,hk2⟩
 have HN2:=Zh hn2
 have HK2:=Zh ((Keeps.below HB1.out).trans hk2)
 have hT3:w2.cell? ⟨b1,0,none⟩=some (.pointer (some ⟨jh,0,none⟩))∧w2.cell? ⟨jh,4,none⟩=some (.pointer (some ⟨j,0,none⟩))∧w2.cell? ⟨b2,0,none⟩=some (.int .i64 m):=⟨(K1.out.keeps hk2).blk.cell 0,hcel w2 _ hn2 HUU.out,(K2.out.keeps hk2).blk.cell 0⟩
 refine hK0.out _ _ hT3 (fun _ _ => hS) ?_
 clear hK0 K0
 try simp only [xq]
 clear hT hk2 hn2 HC
 have hT:=hT3
 clear hT3
 refine tk 6 2 hT hS ?_
 try simp only [xq]
 refine two_done (by kernel_rfl) ?_ _
 clear hT
 go_wp2_with fail
 go_ret
 exact ⟨rfl,HN2.out,HK2.out⟩
theorem ho_crash1 (n:HE w0 w K jh bd j jx o) (hu:o.up=true) (k1:Bx w K b1 t1 #[.pointer (some ⟨jh,0,none⟩)]) {kv:Value} {keep:List Int} (k2:Bx w K b2 t2 #[kv]) (hk:KeepR w (fun k => w0.heap.size≤k) kv keep) (hkl:keep.length≤1000000) :
  Calls Tryz.prog 119 #[.pointer (some ⟨b1,0,none⟩),.pointer (some ⟨b2,0,none⟩)] w fun e w2 => e=.returned (.int .i64 (o.d.crash keep).1)∧HE w0 w2 K jh bd j jx { o with d:=(o.d.crash keep).2 }∧Keeps K w w2:=by
 obtain ⟨w1,hw1⟩:∃ y,y=w.drew:=⟨_,rfl⟩
 have HB1:=Zh (Zd hw1)
 have HN:=Zh (n.below HB1.out)
 have HC:=Zh (HN.out.crash hu kv keep (hk.chg (T:=fun _ => False) (Chg.of_below HB1.out) (fun _ e => e.elim)) hkl)
 have K1:=Zh (k1.below HB1.out)
 have K2:=Zh (k2.below HB1.out)
 have hcel:∀ (W:World) (o':Hs),HE w0 W K jh bd j jx o'→o'.up=true→W.cell? ⟨jh,3,none⟩=some (.pointer (some ⟨bd,0,none⟩)):=fun W o' h e => by
  have:=h.cells.2.2.2.1
  skip
  exact this
 have hT:w1.cell? ⟨b1,0,none⟩=some (.pointer (some ⟨jh,0,none⟩))∧w1.cell? ⟨jh,3,none⟩=some (.pointer (some ⟨bd,0,none⟩))∧w1.cell? ⟨b2,0,none⟩=some kv:=⟨K1.out.blk.cell 0,hcel w1 _ HN.out hu,K2.out.blk.cell 0⟩
 have hS:True:=trivial
 obtain ⟨R,hR⟩:∃ R,R=o.d.crash keep:=⟨_,rfl⟩
 rw [← hR] at HC ⊢
 have HUU:=Zh hu
 clear n hR k1 hu
 go_enter Tryz.func119,Tryz.ntmps119
 go_wp2_with fail
 refine wp_region_two (T:=fun W => W.cell? ⟨b1,0,none⟩=some (.pointer (some ⟨jh,0,none⟩))∧W.cell? ⟨jh,3,none⟩=some (.pointer (some ⟨bd,0,none⟩))∧W.cell? ⟨b2,0,none⟩=some kv) (S:=fun _ => True) (n:=99) (by kernel_rfl) ?_
 rw [← hw1]
 clear hw1
 refine tk 0 3 hT hS ?_
 refine tk 1 4 hT hS ?_
 try simp only [xq]
 refine tk 2 5 hT hS ?_
 refine tk 3 6 hT hS ?_
 try simp only [xq]
 refine tk 4 7 hT hS ?_
 try simp only [xq]
 refine two_one 5 rfl (by kernel_rfl) ?_
 intro K0 hK0
 go_simp
 refine HC.out.mono ?_
 rintro e w2 ⟨rfl,hn2,hk2⟩
 have HN2:=Zh hn2
 have HK2:=Zh ((Keeps.below HB1.out).trans hk2)
 have hT3:w2.cell? ⟨b1,0,none⟩=some (.pointer (some ⟨jh,0,none⟩))∧w2.cell? ⟨jh,3,none⟩=some (.pointer (some ⟨bd,0,none⟩))∧w2.cell? ⟨b2,0,none⟩=some kv:=⟨(K1.out.keeps hk2).blk.cell 0,hcel w2 _ hn2 HUU.out,(K2.out.keeps hk2).blk.cell 0⟩
 refine hK0.out _ _ hT3 (fun _ _ => hS) ?_
 clear hK0 K0
 try simp only [xq]
 clear hT hk2 hn2 HC
 have hT:=hT3
 clear hT3
 refine tk 6 2 hT hS ?_
 try simp only [xq]
 refine two_done (by kernel_rfl) ?_ _
 clear hT
 go_wp2_with fail
 go_ret
 exact ⟨rfl,HN2.out,HK2.out⟩
theorem ho_fail1 (n:HE w0 w K jh bd j jx o) (hu:o.up=true) (k1:Bx w K b1 t1 #[.pointer (some ⟨jh,0,none⟩)]) {m:Int} {kv:Value} {keep:List Int} (k2:Bx w K b2 t2 #[.int .i64 m]) (k3:Bx w K b3 t3 #[kv]) (hm:m≤9223372036854775807) (hk:KeepR w (fun k => w0.heap.size≤k) kv keep) (hkl:keep.length≤1000000) :
  Calls Tryz.prog 121 #[.pointer (some ⟨b1,0,none⟩),.pointer (some ⟨b2,0,none⟩),.pointer (some ⟨b3,0,none⟩)] w fun e w2 => e=.returned (.int .i64 (o.d.failAt m keep).1)∧HE w0 w2 K jh bd j jx { o with d:=(o.d.failAt m keep).2 }∧Keeps K w w2:=by
 obtain ⟨w1,hw1⟩:∃ y,y=w.drew:=⟨_,rfl⟩
 have HB1:=Zh (Zd hw1)
 have HN:=Zh (n.below HB1.out)
 have HC:=Zh (HN.out.failAt hu m hm kv keep (hk.chg (T:=fun _ => False) (Chg.of_below HB1.out) (fun _ e => e.elim)) hkl)
 have K1:=Zh (k1.below HB1.out)
 have K2:=Zh (k2.below HB1.out)
 have K3:=Zh (k3.below HB1.out)
 have hcel:∀ (W:World) (o':Hs),HE w0 W K jh bd j jx o'→o'.up=true→W.cell? ⟨jh,3,none⟩=some (.pointer (some ⟨bd,0,none⟩)):=fun W o' h e => by
  have:=h.cells.2.2.2.1
  skip
  exact this
 have hT:w1.cell? ⟨b1,0,none⟩=some (.pointer (some ⟨jh,0,none⟩))∧w1.cell? ⟨jh,3,none⟩=some (.pointer (some ⟨bd,0,none⟩))∧w1.cell? ⟨b2,0,none⟩=some (.int .i64 m)∧w1.cell? ⟨b3,0,none⟩=some kv:=⟨K1.out.blk.cell 0,hcel w1 _ HN.out hu,K2.out.blk.cell 0,K3.out.blk.cell 0⟩
 have hS:True:=trivial
 obtain ⟨R,hR⟩:∃ R,R=o.d.failAt m keep:=⟨_,rfl⟩
 rw [← hR] at HC ⊢
 have HUU:=Zh hu
 clear n hR k1 hu
 go_enter Tryz.func121,Tryz.ntmps121
 go_wp2_with fail
 refine wp_region_two (T:=fun W => W.cell? ⟨b1,0,none⟩=some (.pointer (some ⟨jh,0,none⟩))∧W.cell? ⟨jh,3,none⟩=some (.pointer (some ⟨bd,0,none⟩))∧W.cell? ⟨b2,0,none⟩=some (.int .i64 m)∧W.cell? ⟨b3,0,none⟩=some kv) (S:=fun _ => True) (n:=99) (by kernel_rfl) ?_
 rw [← hw1]
 clear hw1
 refine tk 0 4 hT hS ?_
 refine tk 1 5 hT hS ?_
 try simp only [xq]
 refine tk 2 6 hT hS ?_
 refine tk 3 7 hT hS ?_
 try simp only [xq]
 refine tk 4 8 hT hS ?_
 refine tk 5 9 hT hS ?_
 try simp only [xq]
 refine two_one 6 rfl (by kernel_rfl) ?_
 intro K0 hK0
 go_simp
 refine HC.out.mono ?_
 rintro e w2 ⟨rfl,hn2,hk2⟩
 have HN2:=Zh hn2
 have HK2:=Zh ((Keeps.below HB1.out).trans hk2)
 have hT3:w2.cell? ⟨b1,0,none⟩=some (.pointer (some ⟨jh,0,none⟩))∧w2.cell? ⟨jh,3,none⟩=some (.pointer (some ⟨bd,0,none⟩))∧w2.cell? ⟨b2,0,none⟩=some (.int .i64 m)∧w2.cell? ⟨b3,0,none⟩=some kv:=⟨(K1.out.keeps hk2).blk.cell 0,hcel w2 _ hn2 HUU.out,(K2.out.keeps hk2).blk.cell 0,(K3.out.keeps hk2).blk.cell 0⟩
 refine hK0.out _ _ hT3 (fun _ _ => hS) ?_
 clear hK0 K0
 try simp only [xq]
 clear hT hk2 hn2 HC
 have hT:=hT3
 clear hT3
 refine tk 7 3 hT hS ?_
 try simp only [xq]
 refine two_done (by kernel_rfl) ?_ _
 clear hT
 go_wp2_with fail
 go_ret
 exact ⟨rfl,HN2.out,HK2.out⟩
theorem ho_write1 (n:HE w0 w K jh bd j jx o) (hu:o.up=true) (he:LEnv w0) (f:Few o.d o.h s o.x) (k1:Bx w K b1 t1 #[.pointer (some ⟨jh,0,none⟩)]) (y:Sp.Span) (h1:y.service.size≤maxLen) (h2:y.host.size≤maxLen) (h3:y.note.size≤maxLen) (k2:Bx w K b2 t2 (spRow y).toArray) (hr:0≤o.refused∧o.refused≤1000000) :
  Calls Tryz.prog 114 #[.pointer (some ⟨b1,0,none⟩),.pointer (some ⟨b2,0,none⟩)] w fun e w2 => e=.returned (.int .i64 (appP o.d o.h y).1)∧HE w0 w2 K jh bd j jx (wroteO o y)∧Keeps K w w2:=by
 obtain ⟨w1,hw1⟩:∃ y,y=w.drew:=⟨_,rfl⟩
 have HB1:=Zh (Zd hw1)
 have HN:=Zh (n.below HB1.out)
 have HC:=Zh (HN.out.app hu he f y h1 h2 h3)
 have K1:=Zh (k1.below HB1.out)
 have K2:=Zh (k2.below HB1.out)
 have hcel:∀ (W:World) (o':Hs),HE w0 W K jh bd j jx o'→o'.up=true→W.cell? ⟨jh,4,none⟩=some (.pointer (some ⟨j,0,none⟩)):=fun W o' h e => by
  have:=h.cells.2.2.2.2.1
  rw [e] at this
  exact this
 have hT:w1.cell? ⟨b1,0,none⟩=some (.pointer (some ⟨jh,0,none⟩))∧w1.cell? ⟨jh,4,none⟩=some (.pointer (some ⟨j,0,none⟩))∧w1.cell? ⟨b2,0,none⟩=some (.int .i64 y.trace)∧w1.cell? ⟨b2,1,none⟩=some (.int .i64 y.id)∧w1.cell? ⟨b2,2,none⟩=some (.int .i64 y.parent)∧w1.cell? ⟨b2,3,none⟩=some (.string y.service)∧w1.cell? ⟨b2,4,none⟩=some (.string y.host)∧w1.cell? ⟨b2,5,none⟩=some (.int .i64 y.start)∧w1.cell? ⟨b2,6,none⟩=some (.int .i64 y.dur)∧w1.cell? ⟨b2,7,none⟩=some (.string y.note):=⟨K1.out.blk.cell 0,hcel w1 _ HN.out hu,K2.out.blk.cell 0,K2.out.blk.cell 1,K2.out.blk.cell 2,K2.out.blk.cell 3,K2.out.blk.cell 4,K2.out.blk.cell 5,K2.out.blk.cell 6,K2.out.blk.cell 7⟩
 have hS:True:=trivial
 obtain ⟨R,hR⟩:∃ R,R=appP o.d o.h y:=⟨_,rfl⟩
 rw [← hR] at HC ⊢
 unfold wroteO
 rw [← hR]
 obtain ⟨rf,hrf⟩:∃ rf,rf=(if R.1=0 then o.refused else o.refused+1):=⟨_,rfl⟩
 rw [← hrf]
 have HRF:=Zh hrf
 clear hrf
 have HUU:=Zh hu
 clear n hR k1 hu
 go_enter Tryz.func114,Tryz.ntmps114
 go_wp2_with fail
 refine wp_region_two (T:=fun W => W.cell? ⟨b1,0,none⟩=some (.pointer (some ⟨jh,0,none⟩))∧W.cell? ⟨jh,4,none⟩=some (.pointer (some ⟨j,0,none⟩))∧W.cell? ⟨b2,0,none⟩=some (.int .i64 y.trace)∧W.cell? ⟨b2,1,none⟩=some (.int .i64 y.id)∧W.cell? ⟨b2,2,none⟩=some (.int .i64 y.parent)∧W.cell? ⟨b2,3,none⟩=some (.string y.service)∧W.cell? ⟨b2,4,none⟩=some (.string y.host)∧W.cell? ⟨b2,5,none⟩=some (.int .i64 y.start)∧W.cell? ⟨b2,6,none⟩=some (.int .i64 y.dur)∧W.cell? ⟨b2,7,none⟩=some (.string y.note)) (S:=fun _ => True) (n:=99) (by kernel_rfl) ?_
 rw [← hw1]
 clear hw1
 refine tk 0 4 hT hS ?_
 refine tk 1 5 hT hS ?_
 try simp only [xq]
 refine tk 2 6 hT hS ?_
 refine tk 3 7 hT hS ?_
 try simp only [xq]
 refine tk 4 8 hT hS ?_
 try simp only [xq]
 refine two_one 5 rfl (by kernel_rfl) ?_
 intro K0 hK0
 go_simp
 refine HC.out.mono ?_
 rintro e w2 ⟨rfl,hn2,hk2⟩
 have HN2:=Zh hn2
 have HK2:=Zh ((Keeps.below HB1.out).trans hk2)
 have hT3:w2.cell? ⟨b1,0,none⟩=some (.pointer (some ⟨jh,0,none⟩))∧w2.cell? ⟨jh,4,none⟩=some (.pointer (some ⟨j,0,none⟩))∧w2.cell? ⟨b2,0,none⟩=some (.int .i64 y.trace)∧w2.cell? ⟨b2,1,none⟩=some (.int .i64 y.id)∧w2.cell? ⟨b2,2,none⟩=some (.int .i64 y.parent)∧w2.cell? ⟨b2,3,none⟩=some (.string y.service)∧w2.cell? ⟨b2,4,none⟩=some (.string y.host)∧w2.cell? ⟨b2,5,none⟩=some (.int .i64 y.start)∧w2.cell? ⟨b2,6,none⟩=some (.int .i64 y.dur)∧w2.cell? ⟨b2,7,none⟩=some (.string y.note):=⟨(K1.out.keeps hk2).blk.cell 0,hcel w2 _ hn2 HUU.out,(K2.out.keeps hk2).blk.cell 0,(K2.out.keeps hk2).blk.cell 1,(K2.out.keeps hk2).blk.cell 2,(K2.out.keeps hk2).blk.cell 3,(K2.out.keeps hk2).blk.cell 4,(K2.out.keeps hk2).blk.cell 5,(K2.out.keeps hk2).blk.cell 6,(K2.out.keeps hk2).blk.cell 7⟩
 refine hK0.out _ _ hT3 (fun _ _ => hS) ?_
 clear hK0 K0
 try simp only [xq]
 clear hT hk2 hn2 HC
 have hT:=hT3
 clear hT3
 refine tk 6 3 hT hS ?_
 try simp only [xq]
 refine two_done (by kernel_rfl) ?_ _
 have kb:=hT.1
 obtain ⟨c0,c1,c2,c3,c4,c5⟩:=HN2.out.cells
 have f2:=HN2.out.blk.free 2
 have hwr:IntKind.i64.wrap (o.refused+1)=o.refused+1:=by rw [IntKind.wrap_i64];omega
 have HSE:=Zh (HN2.out.set (i:=2) (v:=.int .i64 (o.refused+1)) (o':={ o with d:=R.2.2,h:=R.2.1,refused:=o.refused+1 }) rfl (fun e => e) ⟨rfl,rfl,rfl⟩)
 clear hT
 by_cases hz:R.1=0
 case pos =>
  have hz2:(R.1 != 0)=false:=by rw [hz];rfl
  have HH:=Zh (show HE w0 w2 K jh bd j jx { o with d:=R.2.2,h:=R.2.1,refused:=rf } from by rw [HRF.out,if_pos hz];exact HN2.out)
  clear hz
  go_wp2_with fail
  go_ret
  exact ⟨rfl,HH.out,HK2.out⟩
 case neg =>
 have hz2:(R.1 != 0)=true:=by rw [bne_iff_ne];exact hz
 have HH:=Zh (show HE w0 (w2.setCell ⟨jh,2,none⟩ (.int .i64 (o.refused+1))) K jh bd j jx { o with d:=R.2.2,h:=R.2.1,refused:=rf } from by rw [HRF.out,if_neg hz];exact HSE.out.1)
 clear hz
 go_wp2_with fail
 go_ret
 exact ⟨rfl,HH.out,HK2.out.trans HSE.out.2⟩
end
end Go.Proofs.YtdacanghbepjpaaGreatDoor
namespace Go.Proofs.YtdacanghbepjpaaGreatDoor
open Go.RowKit Go.Maps
open Dsk
def HoR (o:Hs) (r:Int) (o2:Hs):Int×Hs:=if o.up=true then (r,o2.settle) else (250,o)
theorem HoR.up {o:Hs} (h:o.up=true) (r:Int) (o2:Hs):HoR o r o2=(r,o2.settle):=if_pos h
theorem HoR.no {o:Hs} (h:o.up=false) (r:Int) (o2:Hs):HoR o r o2=(250,o):=if_neg (by rw [h];decide)
def NilH (w:World) (v:Value):Prop:=v=.pointer none∨∃ b,b<w.heap.size∧v=.pointer (some ⟨b,0,none⟩)∧w.cell? ⟨b,3,none⟩=some (.pointer none)
theorem enters_hsync:Go.Proofs.Enters Tryz.prog 115:=enters_of Tryz.func115 (by kernel_rfl) rfl
section
variable {w0 w w':World} {P S K:Nat→Prop} {jh bd j jx s:Nat} {o:Hs}
theorem ho_sync (n:HE w0 w K jh bd j jx o) (he:LEnv w0) (ok:o.up=true→Few o.d o.h s o.x) :
  Calls Tryz.prog 63 #[.pointer (some ⟨jh,0,none⟩)] w fun e w' => e=.returned (.int .i64 (HoR o (syncP o.d o.h).1 { o with d:=(syncP o.d o.h).2.2,h:=(syncP o.d o.h).2.1 }).1)∧HE w0 w' K jh bd j jx (HoR o (syncP o.d o.h).1 { o with d:=(syncP o.d o.h).2.2,h:=(syncP o.d o.h).2.1 }).2∧Keeps K w w':=by
 obtain ⟨w1,hw1⟩:∃ w1,w1=(w.alloc (.cells #[.pointer (some ⟨jh,0,none⟩)] 89 (0,0))):=⟨_,rfl⟩
 have hb1:Below w.heap.size w w1:=by rw [hw1];exact ((Below.refl _ _).alloc (by first | exact Nat.le_refl _ | (simp only [alloc_size];omega)) _)
 have hp0:Blk w1 w.heap.size 89 #[.pointer (some ⟨jh,0,none⟩)]:=by
  have:=Blk.alloc_new w 89 #[.pointer (some ⟨jh,0,none⟩)]
  rw [hw1]
  exact (by simpa using this:Blk (w.alloc (.cells #[.pointer (some ⟨jh,0,none⟩)] 89 (0,0))) w.heap.size 89 #[.pointer (some ⟨jh,0,none⟩)])
 have n1:=n.add hb1
 by_cases hu:o.up=true
 case pos =>
  rw [HoR.up hu]
  have hd:=ho_does n1 hu enters_hsync (T:=fun r o2 K2 w2 => r=(syncP o.d o.h).1∧o2={ o with d:=(syncP o.d o.h).2.2,h:=(syncP o.d o.h).2.1 }∧K2=Also K w w1∧Keeps (Also K w w1) w1 w2) (by
   refine (ho_sync1 n1 hu he (ok hu) ⟨hp0,.inr ⟨by omega,hp0.lt⟩⟩).mono ?_
   rintro e w2 ⟨rfl,hn,hk⟩
   exact ⟨_,_,_,rfl,hn,rfl,rfl,rfl,hk⟩)
  have HD:=Zh hd
  have HB1:=Zh hb1
  have HW1:=Zh hw1
  clear hd hb1 hw1 n n1 hp0 hu
  go_enter Tryz.func63,Tryz.ntmps63
  go_wp2_with fail
  rw [← HW1.out]
  refine HD.out.mono ?_
  rintro e w3 ⟨r,o2,K2,w2,rfl,⟨rfl,rfl,rfl,hk2⟩,hn3,hk3⟩
  have HH:=Zh (And.intro (hn3.drop fun k e => (.inl e:Also K w w1 k)) ((Keeps.below HB1.out).trans ((hk2.trans hk3).mono fun k e => (.inl e:Also K w w1 k))))
  clear hk2 hn3 hk3 HD
  go_wp2_with fail
  go_ret
  exact ⟨rfl,HH.out⟩
 case neg =>
 rw [Bool.not_eq_true] at hu
 rw [HoR.no hu]
 have HD:=Zh (fun v => ho_does_no n1 hu v)
 have HH:=Zh (And.intro (n.below hb1) (Keeps.below (X:=K) hb1))
 have HW1:=Zh hw1
 clear hb1 hw1 n n1 hp0 hu
 go_enter Tryz.func63,Tryz.ntmps63
 go_wp2_with fail
 rw [← HW1.out]
 refine (HD.out _).mono ?_
 rintro e w3 ⟨rfl,rfl⟩
 clear HD
 go_wp2_with fail
 go_ret
 exact ⟨rfl,HH.out⟩
end
theorem enters_hrotate:Go.Proofs.Enters Tryz.prog 116:=enters_of Tryz.func116 (by kernel_rfl) rfl
section
variable {w0 w w':World} {P S K:Nat→Prop} {jh bd j jx s:Nat} {o:Hs}
theorem ho_rotate (n:HE w0 w K jh bd j jx o) (he:LEnv w0) (ok:o.up=true→Few o.d o.h s o.x) :
  Calls Tryz.prog 64 #[.pointer (some ⟨jh,0,none⟩)] w fun e w' => e=.returned (.int .i64 (HoR o (rotP o.d o.h).1 { o with d:=(rotP o.d o.h).2.2,h:=(rotP o.d o.h).2.1 }).1)∧HE w0 w' K jh bd j jx (HoR o (rotP o.d o.h).1 { o with d:=(rotP o.d o.h).2.2,h:=(rotP o.d o.h).2.1 }).2∧Keeps K w w':=by
 obtain ⟨w1,hw1⟩:∃ w1,w1=(w.alloc (.cells #[.pointer (some ⟨jh,0,none⟩)] 89 (0,0))):=⟨_,rfl⟩
 have hb1:Below w.heap.size w w1:=by rw [hw1];exact ((Below.refl _ _).alloc (by first | exact Nat.le_refl _ | (simp only [alloc_size];omega)) _)
 have hp0:Blk w1 w.heap.size 89 #[.pointer (some ⟨jh,0,none⟩)]:=by
  have:=Blk.alloc_new w 89 #[.pointer (some ⟨jh,0,none⟩)]
  rw [hw1]
  exact (by simpa using this:Blk (w.alloc (.cells #[.pointer (some ⟨jh,0,none⟩)] 89 (0,0))) w.heap.size 89 #[.pointer (some ⟨jh,0,none⟩)])
 have n1:=n.add hb1
 by_cases hu:o.up=true
 case pos =>
  rw [HoR.up hu]
  have hd:=ho_does n1 hu enters_hrotate (T:=fun r o2 K2 w2 => r=(rotP o.d o.h).1∧o2={ o with d:=(rotP o.d o.h).2.2,h:=(rotP o.d o.h).2.1 }∧K2=Also K w w1∧Keeps (Also K w w1) w1 w2) (by
   refine (ho_rotate1 n1 hu he (ok hu) ⟨hp0,.inr ⟨by omega,hp0.lt⟩⟩).mono ?_
   rintro e w2 ⟨rfl,hn,hk⟩
   exact ⟨_,_,_,rfl,hn,rfl,rfl,rfl,hk⟩)
  have HD:=Zh hd
  have HB1:=Zh hb1
  have HW1:=Zh hw1
  clear hd hb1 hw1 n n1 hp0 hu
  go_enter Tryz.func64,Tryz.ntmps64
  go_wp2_with fail
  rw [← HW1.out]
  refine HD.out.mono ?_
  rintro e w3 ⟨r,o2,K2,w2,rfl,⟨rfl,rfl,rfl,hk2⟩,hn3,hk3⟩
  have HH:=Zh (And.intro (hn3.drop fun k e => (.inl e:Also K w w1 k)) ((Keeps.below HB1.out).trans ((hk2.trans hk3).mono fun k e => (.inl e:Also K w w1 k))))
  clear hk2 hn3 hk3 HD
  go_wp2_with fail
  go_ret
  exact ⟨rfl,HH.out⟩
 case neg =>
 rw [Bool.not_eq_true] at hu
 rw [HoR.no hu]
 have HD:=Zh (fun v => ho_does_no n1 hu v)
 have HH:=Zh (And.intro (n.below hb1) (Keeps.below (X:=K) hb1))
 have HW1:=Zh hw1
 clear hb1 hw1 n n1 hp0 hu
 go_enter Tryz.func64,Tryz.ntmps64
 go_wp2_with fail
 rw [← HW1.out]
 refine (HD.out _).mono ?_
 rintro e w3 ⟨rfl,rfl⟩
 clear HD
 go_wp2_with fail
 go_ret
 exact ⟨rfl,HH.out⟩
end
theorem enters_hretain:Go.Proofs.Enters Tryz.prog 117:=enters_of Tryz.func117 (by kernel_rfl) rfl
section
variable {w0 w w':World} {P S K:Nat→Prop} {jh bd j jx s:Nat} {o:Hs}
theorem ho_retain (n:HE w0 w K jh bd j jx o) (he:LEnv w0) (m:Int) (ok:o.up=true→Few o.d o.h s o.x) :
  Calls Tryz.prog 65 #[.pointer (some ⟨jh,0,none⟩),.int .i64 m] w fun e w' => e=.returned (.int .i64 (HoR o (retP m o.d o.h).1 { o with d:=(retP m o.d o.h).2.2,h:=(retP m o.d o.h).2.1 }).1)∧HE w0 w' K jh bd j jx (HoR o (retP m o.d o.h).1 { o with d:=(retP m o.d o.h).2.2,h:=(retP m o.d o.h).2.1 }).2∧Keeps K w w':=by
 obtain ⟨w1,hw1⟩:∃ w1,w1=((w.alloc (.cells #[.pointer (some ⟨jh,0,none⟩)] 89 (0,0))).alloc (.cells #[.int .i64 m] 3 (0,0))):=⟨_,rfl⟩
 have hb1:Below w.heap.size w w1:=by rw [hw1];exact (((Below.refl _ _).alloc (by first | exact Nat.le_refl _ | (simp only [alloc_size];omega)) _).alloc (by first | exact Nat.le_refl _ | (simp only [alloc_size];omega)) _)
 have hp0:Blk w1 w.heap.size 89 #[.pointer (some ⟨jh,0,none⟩)]:=by
  have:=Blk.alloc_new w 89 #[.pointer (some ⟨jh,0,none⟩)]
  rw [hw1]
  exact (by simpa using this:Blk (w.alloc (.cells #[.pointer (some ⟨jh,0,none⟩)] 89 (0,0))) w.heap.size 89 #[.pointer (some ⟨jh,0,none⟩)]).below ((Below.refl _ _).alloc (by first | exact Nat.le_refl _ | (simp only [alloc_size];omega)) _)
 have hp1:Blk w1 (w.heap.size+1) 3 #[.int .i64 m]:=by
  have:=Blk.alloc_new (w.alloc (.cells #[.pointer (some ⟨jh,0,none⟩)] 89 (0,0))) 3 #[.int .i64 m]
  rw [hw1]
  exact (by simpa using this:Blk ((w.alloc (.cells #[.pointer (some ⟨jh,0,none⟩)] 89 (0,0))).alloc (.cells #[.int .i64 m] 3 (0,0))) (w.heap.size+1) 3 #[.int .i64 m])
 have n1:=n.add hb1
 by_cases hu:o.up=true
 case pos =>
  rw [HoR.up hu]
  have hd:=ho_does n1 hu enters_hretain (T:=fun r o2 K2 w2 => r=(retP m o.d o.h).1∧o2={ o with d:=(retP m o.d o.h).2.2,h:=(retP m o.d o.h).2.1 }∧K2=Also K w w1∧Keeps (Also K w w1) w1 w2) (by
   refine (ho_retain1 n1 hu he (ok hu) ⟨hp0,.inr ⟨by omega,hp0.lt⟩⟩ ⟨hp1,.inr ⟨by omega,hp1.lt⟩⟩).mono ?_
   rintro e w2 ⟨rfl,hn,hk⟩
   exact ⟨_,_,_,rfl,hn,rfl,rfl,rfl,hk⟩)
  have HD:=Zh hd
  have HB1:=Zh hb1
  have HW1:=Zh hw1
  clear hd hb1 hw1 n n1 hp0 hp1 hu
  go_enter Tryz.func65,Tryz.ntmps65
  go_wp2_with fail
  rw [← HW1.out]
  refine HD.out.mono ?_
  rintro e w3 ⟨r,o2,K2,w2,rfl,⟨rfl,rfl,rfl,hk2⟩,hn3,hk3⟩
  have HH:=Zh (And.intro (hn3.drop fun k e => (.inl e:Also K w w1 k)) ((Keeps.below HB1.out).trans ((hk2.trans hk3).mono fun k e => (.inl e:Also K w w1 k))))
  clear hk2 hn3 hk3 HD
  go_wp2_with fail
  go_ret
  exact ⟨rfl,HH.out⟩
 case neg =>
 rw [Bool.not_eq_true] at hu
 rw [HoR.no hu]
 have HD:=Zh (fun v => ho_does_no n1 hu v)
 have HH:=Zh (And.intro (n.below hb1) (Keeps.below (X:=K) hb1))
 have HW1:=Zh hw1
 clear hb1 hw1 n n1 hp0 hp1 hu
 go_enter Tryz.func65,Tryz.ntmps65
 go_wp2_with fail
 rw [← HW1.out]
 refine (HD.out _).mono ?_
 rintro e w3 ⟨rfl,rfl⟩
 clear HD
 go_wp2_with fail
 go_ret
 exact ⟨rfl,HH.out⟩
end
theorem enters_hwrite:Go.Proofs.Enters Tryz.prog 114:=enters_of Tryz.func114 (by kernel_rfl) rfl
section
variable {w0 w w':World} {P S K:Nat→Prop} {jh bd j jx s:Nat} {o:Hs}
theorem ho_write (n:HE w0 w K jh bd j jx o) (he:LEnv w0) (y:Sp.Span) (h1:y.service.size≤maxLen) (h2:y.host.size≤maxLen) (h3:y.note.size≤maxLen) (ok:o.up=true→Few o.d o.h s o.x∧0≤o.refused∧o.refused≤1000000) :
  Calls Tryz.prog 62 #[.pointer (some ⟨jh,0,none⟩),spV y] w fun e w' => e=.returned (.int .i64 (HoR o (appP o.d o.h y).1 (wroteO o y)).1)∧HE w0 w' K jh bd j jx (HoR o (appP o.d o.h y).1 (wroteO o y)).2∧Keeps K w w':=by
 obtain ⟨w1,hw1⟩:∃ w1,w1=((w.alloc (.cells #[.pointer (some ⟨jh,0,none⟩)] 89 (0,0))).alloc (.cells (spRow y).toArray 47 (0,0))):=⟨_,rfl⟩
 have hb1:Below w.heap.size w w1:=by rw [hw1];exact (((Below.refl _ _).alloc (by first | exact Nat.le_refl _ | (simp only [alloc_size];omega)) _).alloc (by first | exact Nat.le_refl _ | (simp only [alloc_size];omega)) _)
 have hp0:Blk w1 w.heap.size 89 #[.pointer (some ⟨jh,0,none⟩)]:=by
  have:=Blk.alloc_new w 89 #[.pointer (some ⟨jh,0,none⟩)]
  rw [hw1]
  exact (by simpa using this:Blk (w.alloc (.cells #[.pointer (some ⟨jh,0,none⟩)] 89 (0,0))) w.heap.size 89 #[.pointer (some ⟨jh,0,none⟩)]).below ((Below.refl _ _).alloc (by first | exact Nat.le_refl _ | (simp only [alloc_size];omega)) _)
 have hp1:Blk w1 (w.heap.size+1) 47 (spRow y).toArray:=by
  have:=Blk.alloc_new (w.alloc (.cells #[.pointer (some ⟨jh,0,none⟩)] 89 (0,0))) 47 (spRow y).toArray
  rw [hw1]
  exact (by simpa using this:Blk ((w.alloc (.cells #[.pointer (some ⟨jh,0,none⟩)] 89 (0,0))).alloc (.cells (spRow y).toArray 47 (0,0))) (w.heap.size+1) 47 (spRow y).toArray)
 have n1:=n.add hb1
 by_cases hu:o.up=true
 case pos =>
  rw [HoR.up hu]
  have hd:=ho_does n1 hu enters_hwrite (T:=fun r o2 K2 w2 => r=(appP o.d o.h y).1∧o2=(wroteO o y)∧K2=Also K w w1∧Keeps (Also K w w1) w1 w2) (by
   refine (ho_write1 n1 hu he (ok hu).1 ⟨hp0,.inr ⟨by omega,hp0.lt⟩⟩ y h1 h2 h3 ⟨hp1,.inr ⟨by omega,hp1.lt⟩⟩ (ok hu).2).mono ?_
   rintro e w2 ⟨rfl,hn,hk⟩
   exact ⟨_,_,_,rfl,hn,rfl,rfl,rfl,hk⟩)
  have HD:=Zh hd
  have HB1:=Zh hb1
  have HW1:=Zh hw1
  clear hd hb1 hw1 n n1 hp0 hp1 hu
  unfold spV spRow at *
  go_enter Tryz.func62,Tryz.ntmps62
  go_wp2_with fail
  rw [← HW1.out]
  refine HD.out.mono ?_
  rintro e w3 ⟨r,o2,K2,w2,rfl,⟨rfl,rfl,rfl,hk2⟩,hn3,hk3⟩
  have HH:=Zh (And.intro (hn3.drop fun k e => (.inl e:Also K w w1 k)) ((Keeps.below HB1.out).trans ((hk2.trans hk3).mono fun k e => (.inl e:Also K w w1 k))))
  clear hk2 hn3 hk3 HD
  go_wp2_with fail
  go_ret
  exact ⟨rfl,HH.out⟩
 case neg =>
 rw [Bool.not_eq_true] at hu
 rw [HoR.no hu]
 have HD:=Zh (fun v => ho_does_no n1 hu v)
 have HH:=Zh (And.intro (n.below hb1) (Keeps.below (X:=K) hb1))
 have HW1:=Zh hw1
 clear hb1 hw1 n n1 hp0 hp1 hu
 unfold spV spRow at *
 go_enter Tryz.func62,Tryz.ntmps62
 go_wp2_with fail
 rw [← HW1.out]
 refine (HD.out _).mono ?_
 rintro e w3 ⟨rfl,rfl⟩
 clear HD
 go_wp2_with fail
 go_ret
 exact ⟨rfl,HH.out⟩
end
theorem enters_hcrash:Go.Proofs.Enters Tryz.prog 119:=enters_of Tryz.func119 (by kernel_rfl) rfl
section
variable {w0 w w':World} {P S K:Nat→Prop} {jh bd j jx s:Nat} {o:Hs}
theorem ho_crash (n:HE w0 w K jh bd j jx o) (kv:Value) (keep:List Int) (hk:KeepR w (fun k => w0.heap.size≤k) kv keep) (hkl:keep.length≤1000000)  :
  Calls Tryz.prog 68 #[.pointer (some ⟨jh,0,none⟩),kv] w fun e w' => e=.returned (.int .i64 (HoR o (o.d.crash keep).1 { o with d:=(o.d.crash keep).2 }).1)∧HE w0 w' K jh bd j jx (HoR o (o.d.crash keep).1 { o with d:=(o.d.crash keep).2 }).2∧Keeps K w w':=by
 obtain ⟨kx,kc,hkv,_⟩:=id hk
 subst hkv
 obtain ⟨w1,hw1⟩:∃ w1,w1=((w.alloc (.cells #[.pointer (some ⟨jh,0,none⟩)] 89 (0,0))).alloc (.cells #[.slice kx keep.length kc] 79 (0,0))):=⟨_,rfl⟩
 have hb1:Below w.heap.size w w1:=by rw [hw1];exact (((Below.refl _ _).alloc (by first | exact Nat.le_refl _ | (simp only [alloc_size];omega)) _).alloc (by first | exact Nat.le_refl _ | (simp only [alloc_size];omega)) _)
 have hp0:Blk w1 w.heap.size 89 #[.pointer (some ⟨jh,0,none⟩)]:=by
  have:=Blk.alloc_new w 89 #[.pointer (some ⟨jh,0,none⟩)]
  rw [hw1]
  exact (by simpa using this:Blk (w.alloc (.cells #[.pointer (some ⟨jh,0,none⟩)] 89 (0,0))) w.heap.size 89 #[.pointer (some ⟨jh,0,none⟩)]).below ((Below.refl _ _).alloc (by first | exact Nat.le_refl _ | (simp only [alloc_size];omega)) _)
 have hp1:Blk w1 (w.heap.size+1) 79 #[.slice kx keep.length kc]:=by
  have:=Blk.alloc_new (w.alloc (.cells #[.pointer (some ⟨jh,0,none⟩)] 89 (0,0))) 79 #[.slice kx keep.length kc]
  rw [hw1]
  exact (by simpa using this:Blk ((w.alloc (.cells #[.pointer (some ⟨jh,0,none⟩)] 89 (0,0))).alloc (.cells #[.slice kx keep.length kc] 79 (0,0))) (w.heap.size+1) 79 #[.slice kx keep.length kc])
 have n1:=n.add hb1
 by_cases hu:o.up=true
 case pos =>
  rw [HoR.up hu]
  have hd:=ho_does n1 hu enters_hcrash (T:=fun r o2 K2 w2 => r=(o.d.crash keep).1∧o2={ o with d:=(o.d.crash keep).2 }∧K2=Also K w w1∧Keeps (Also K w w1) w1 w2) (by
   refine (ho_crash1 n1 hu ⟨hp0,.inr ⟨by omega,hp0.lt⟩⟩ ⟨hp1,.inr ⟨by omega,hp1.lt⟩⟩ (hk.chg (T:=fun _ => False) (Chg.of_below hb1) (fun _ e => e.elim)) hkl).mono ?_
   rintro e w2 ⟨rfl,hn,hk⟩
   exact ⟨_,_,_,rfl,hn,rfl,rfl,rfl,hk⟩)
  have HD:=Zh hd
  have HB1:=Zh hb1
  have HW1:=Zh hw1
  clear hd hb1 hw1 n n1 hp0 hp1 hu
  go_enter Tryz.func68,Tryz.ntmps68
  go_wp2_with fail
  rw [← HW1.out]
  refine HD.out.mono ?_
  rintro e w3 ⟨r,o2,K2,w2,rfl,⟨rfl,rfl,rfl,hk2⟩,hn3,hk3⟩
  have HH:=Zh (And.intro (hn3.drop fun k e => (.inl e:Also K w w1 k)) ((Keeps.below HB1.out).trans ((hk2.trans hk3).mono fun k e => (.inl e:Also K w w1 k))))
  clear hk2 hn3 hk3 HD
  go_wp2_with fail
  go_ret
  exact ⟨rfl,HH.out⟩
 case neg =>
 rw [Bool.not_eq_true] at hu
 rw [HoR.no hu]
 have HD:=Zh (fun v => ho_does_no n1 hu v)
 have HH:=Zh (And.intro (n.below hb1) (Keeps.below (X:=K) hb1))
 have HW1:=Zh hw1
 clear hb1 hw1 n n1 hp0 hp1 hu
 go_enter Tryz.func68,Tryz.ntmps68
 go_wp2_with fail
 rw [← HW1.out]
 refine (HD.out _).mono ?_
 rintro e w3 ⟨rfl,rfl⟩
 clear HD
 go_wp2_with fail
 go_ret
 exact ⟨rfl,HH.out⟩
end
theorem enters_hfail:Go.Proofs.Enters Tryz.prog 121:=enters_of Tryz.func121 (by kernel_rfl) rfl
section
variable {w0 w w':World} {P S K:Nat→Prop} {jh bd j jx s:Nat} {o:Hs}
theorem ho_fail (n:HE w0 w K jh bd j jx o) (m:Int) (kv:Value) (keep:List Int) (hm:m≤9223372036854775807) (hk:KeepR w (fun k => w0.heap.size≤k) kv keep) (hkl:keep.length≤1000000)  :
  Calls Tryz.prog 69 #[.pointer (some ⟨jh,0,none⟩),.int .i64 m,kv] w fun e w' => e=.returned (.int .i64 (HoR o (o.d.failAt m keep).1 { o with d:=(o.d.failAt m keep).2 }).1)∧HE w0 w' K jh bd j jx (HoR o (o.d.failAt m keep).1 { o with d:=(o.d.failAt m keep).2 }).2∧Keeps K w w':=by
 obtain ⟨kx,kc,hkv,_⟩:=id hk
 subst hkv
 obtain ⟨w1,hw1⟩:∃ w1,w1=(((w.alloc (.cells #[.pointer (some ⟨jh,0,none⟩)] 89 (0,0))).alloc (.cells #[.int .i64 m] 3 (0,0))).alloc (.cells #[.slice kx keep.length kc] 79 (0,0))):=⟨_,rfl⟩
 have hb1:Below w.heap.size w w1:=by rw [hw1];exact ((((Below.refl _ _).alloc (by first | exact Nat.le_refl _ | (simp only [alloc_size];omega)) _).alloc (by first | exact Nat.le_refl _ | (simp only [alloc_size];omega)) _).alloc (by first | exact Nat.le_refl _ | (simp only [alloc_size];omega)) _)
 have hp0:Blk w1 w.heap.size 89 #[.pointer (some ⟨jh,0,none⟩)]:=by
  have:=Blk.alloc_new w 89 #[.pointer (some ⟨jh,0,none⟩)]
  rw [hw1]
  exact (by simpa using this:Blk (w.alloc (.cells #[.pointer (some ⟨jh,0,none⟩)] 89 (0,0))) w.heap.size 89 #[.pointer (some ⟨jh,0,none⟩)]).below (((Below.refl _ _).alloc (by first | exact Nat.le_refl _ | (simp only [alloc_size];omega)) _).alloc (by first | exact Nat.le_refl _ | (simp only [alloc_size];omega)) _)
 have hp1:Blk w1 (w.heap.size+1) 3 #[.int .i64 m]:=by
  have:=Blk.alloc_new (w.alloc (.cells #[.pointer (some ⟨jh,0,none⟩)] 89 (0,0))) 3 #[.int .i64 m]
  rw [hw1]
  exact (by simpa using this:Blk ((w.alloc (.cells #[.pointer (some ⟨jh,0,none⟩)] 89 (0,0))).alloc (.cells #[.int .i64 m] 3 (0,0))) (w.heap.size+1) 3 #[.int .i64 m]).below ((Below.refl _ _).alloc (by first | exact Nat.le_refl _ | (simp only [alloc_size];omega)) _)
 have hp2:Blk w1 (w.heap.size+1+1) 79 #[.slice kx keep.length kc]:=by
  have:=Blk.alloc_new ((w.alloc (.cells #[.pointer (some ⟨jh,0,none⟩)] 89 (0,0))).alloc (.cells #[.int .i64 m] 3 (0,0))) 79 #[.slice kx keep.length kc]
  rw [hw1]
  exact (by simpa using this:Blk (((w.alloc (.cells #[.pointer (some ⟨jh,0,none⟩)] 89 (0,0))).alloc (.cells #[.int .i64 m] 3 (0,0))).alloc (.cells #[.slice kx keep.length kc] 79 (0,0))) (w.heap.size+1+1) 79 #[.slice kx keep.length kc])
 have n1:=n.add hb1
 by_cases hu:o.up=true
 case pos =>
  rw [HoR.up hu]
  have hd:=ho_does n1 hu enters_hfail (T:=fun r o2 K2 w2 => r=(o.d.failAt m keep).1∧o2={ o with d:=(o.d.failAt m keep).2 }∧K2=Also K w w1∧Keeps (Also K w w1) w1 w2) (by
   refine (ho_fail1 n1 hu ⟨hp0,.inr ⟨by omega,hp0.lt⟩⟩ ⟨hp1,.inr ⟨by omega,hp1.lt⟩⟩ ⟨hp2,.inr ⟨by omega,hp2.lt⟩⟩ hm (hk.chg (T:=fun _ => False) (Chg.of_below hb1) (fun _ e => e.elim)) hkl).mono ?_
   rintro e w2 ⟨rfl,hn,hk⟩
   exact ⟨_,_,_,rfl,hn,rfl,rfl,rfl,hk⟩)
  have HD:=Zh hd
  have HB1:=Zh hb1
  have HW1:=Zh hw1
  clear hd hb1 hw1 n n1 hp0 hp1 hp2 hu
  go_enter Tryz.func69,Tryz.ntmps69
  go_wp2_with fail
  rw [← HW1.out]
  refine HD.out.mono ?_
  rintro e w3 ⟨r,o2,K2,w2,rfl,⟨rfl,rfl,rfl,hk2⟩,hn3,hk3⟩
  have HH:=Zh (And.intro (hn3.drop fun k e => (.inl e:Also K w w1 k)) ((Keeps.below HB1.out).trans ((hk2.trans hk3).mono fun k e => (.inl e:Also K w w1 k))))
  clear hk2 hn3 hk3 HD
  go_wp2_with fail
  go_ret
  exact ⟨rfl,HH.out⟩
 case neg =>
 rw [Bool.not_eq_true] at hu
 rw [HoR.no hu]
 have HD:=Zh (fun v => ho_does_no n1 hu v)
 have HH:=Zh (And.intro (n.below hb1) (Keeps.below (X:=K) hb1))
 have HW1:=Zh hw1
 clear hb1 hw1 n n1 hp0 hp1 hp2 hu
 go_enter Tryz.func69,Tryz.ntmps69
 go_wp2_with fail
 rw [← HW1.out]
 refine (HD.out _).mono ?_
 rintro e w3 ⟨rfl,rfl⟩
 clear HD
 go_wp2_with fail
 go_ret
 exact ⟨rfl,HH.out⟩
end
end Go.Proofs.YtdacanghbepjpaaGreatDoor
