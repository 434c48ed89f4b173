/- Go's slices.Insert at segments of a host's log, walked. Go's slices.Insert at segments of a host's log, walked: at the end, in between where there is room, and where there is none. Go's slices.Insert at strings, walked: at the end, in between where there is room, and where there is none. A segment's file read back: walked. Where a segment lies among those that are there: Open's binary search, walked. Open's list: the segments whose files' names came so far; a segment put into a log's rows. Open's first loop: what it keeps, and a segment and its text put into their rows. What Open's second loop asks of two segments that follow each other. No program in sight. Open makes a torn segment whole anew: three acts, one behind the other: walked. Open over any log's files: walked. A log is opened on a disk that has files: walked. What the rows say of the library's variables. A daemon's node whose disk may fail, and which records were answered, over the law's acts: plainly. No program in sight. Rows of truth values: which records were answered: walked. The chapter's daemon: walked. A law's node whose disk may fail, in memory: other rows change, it falls, is started and opened again: walked. A law's node whose disk may fail, with a cursor and a row beside it: what stays. -/
import Derived.Test.YtdacanghbepjpaaGreatDoorG5
import Derived.Shelf.Spec.SlicesInsertGrow
import Derived.Test.YtdacanghbepjpaaGreatDoorM3
import Derived.Test.YtdacanghbepjpaaGreatDoorG4
import Derived.Test.YtdacanghbepjpaaGreatDoorM5
import Derived.Test.YtdacanghbepjpaaGreatDoorG6
import Derived.Test.YtdacanghbepjpaaGreatDoorG8
import Derived.Test.YtdacanghbepjpaaGreatDoorG3
import Derived.Test.YtdacanghbepjpaaGreatDoorRows
import Derived.LaidMore
import Derived.LaidHandle
import Derived.LaidSub
import Derived.Stop.LaidErr
namespace Go.Proofs.YtdacanghbepjpaaGreatDoor
set_option linter.unusedSimpArgs false
set_option linter.unusedVariables false
set_option maxRecDepth 100000
open Go.RowKit Go.Lib
section
variable {α:Type} {row:α→List Value} {z:Nat}
end
end Go.Proofs.YtdacanghbepjpaaGreatDoor
namespace Go.Proofs.YtdacanghbepjpaaGreatDoor
set_option linter.unusedSimpArgs false
set_option linter.unusedVariables false
set_option maxRecDepth 100000
open Go.RowKit Go.Lib
section
variable {w:World} {B vb n:Nat} {v:Value} {vs:List SegV} {x:SegV}
end
end Go.Proofs.YtdacanghbepjpaaGreatDoor
namespace Go.Proofs.YtdacanghbepjpaaGreatDoor
set_option linter.unusedSimpArgs false
set_option linter.unusedVariables false
set_option maxRecDepth 100000
open Go.RowKit Go.Lib
def strRow (s:ByteArray):List Value:=[.string s]
section
variable {w:World} {B vb n:Nat} {v:Value} {vs:List ByteArray} {x:ByteArray}
end
end Go.Proofs.YtdacanghbepjpaaGreatDoor
namespace Go.Proofs.YtdacanghbepjpaaGreatDoor
set_option linter.unusedSimpArgs false
set_option linter.unusedVariables false
set_option maxRecDepth 100000
open Go.RowKit Go.Maps
open Dsk
section
variable {w0 w w':World} {X:Nat→Prop} {v:Value} {d:Dk}
end
end Go.Proofs.YtdacanghbepjpaaGreatDoor
namespace Go.Proofs.YtdacanghbepjpaaGreatDoor
set_option linter.unusedSimpArgs false
set_option linter.unusedVariables false
set_option maxRecDepth 100000
open Go.RowKit Go.Maps
section
variable {w w':World}
end
end Go.Proofs.YtdacanghbepjpaaGreatDoor
namespace Go.Proofs.YtdacanghbepjpaaGreatDoor
set_option linter.unusedSimpArgs false
set_option linter.unusedVariables false
set_option maxRecDepth 100000
open Go.RowKit Go.Maps
open Dsk
def came (l:List Sg) (ns:List Str):List Sg:=l.filter fun a => decide (ln a.first∈ns)
section
variable {l:List Sg} {ns:List Str} {a:Sg} {x:Str}
end
section
variable {w w':World} {B:Nat} {lv u:Value} {vs:List SegV} {c:List Sg} {x:SegV} {a:Sg}
end
end Go.Proofs.YtdacanghbepjpaaGreatDoor
namespace Go.Proofs.YtdacanghbepjpaaGreatDoor
set_option linter.unusedSimpArgs false
set_option linter.unusedVariables false
set_option maxRecDepth 100000
open Go.RowKit Go.Maps
open Dsk
structure PendO (B:Nat) (x0 V:World) (lv tv:Value) (vs:List SegV) (ts:List ByteArray) (r:Nat) (xv:SegV) (xt:ByteArray) (lu tu:Option Value):Prop where
 chg:Chg (fun k => lv.ownBlock=some k∨tv.ownBlock=some k) x0 V
 seg:match lu with
  | none => OwnRow segRow 3 132 V B lv vs
  | some u => OwnRow segRow 3 132 V B u (vs.take r++xv::vs.drop r)∧∀ k,u.ownBlock=some k→lv.ownBlock=some k∨x0.heap.size≤k
 str:match tu with
  | none => OwnRow strRow 1 9 V B tv ts
  | some u => OwnRow strRow 1 9 V B u (ts.take r++xt::ts.drop r)∧∀ k,u.ownBlock=some k→tv.ownBlock=some k∨x0.heap.size≤k
section
variable {B:Nat} {x0 V V' w wr:World} {lv tv u:Value} {vs:List SegV} {ts:List ByteArray} {r:Nat} {xv:SegV} {xt:ByteArray} {lu tu:Option Value}
theorem PendO.size (h:PendO B x0 V lv tv vs ts r xv xt lu tu):x0.heap.size≤V.heap.size:=h.chg.size
end
end Go.Proofs.YtdacanghbepjpaaGreatDoor
namespace Go.Proofs.YtdacanghbepjpaaGreatDoor
set_option linter.unusedSimpArgs false
set_option linter.unusedVariables false
open Dsk
end Go.Proofs.YtdacanghbepjpaaGreatDoor
namespace Go.Proofs.YtdacanghbepjpaaGreatDoor
set_option linter.unusedSimpArgs false
set_option linter.unusedVariables false
set_option maxRecDepth 100000
open Go.RowKit Go.Maps
open Dsk
section
variable {w0 w w':World} {X:Nat→Prop} {d d':Dk} {bd j bl bs bt fn sn sc ec:Nat} {sx ex:Option Addr} {FT:ByteArray} {B:Nat} {xs:List Sp.Span} {r:Int}
end
end Go.Proofs.YtdacanghbepjpaaGreatDoor
namespace Go.Proofs.YtdacanghbepjpaaGreatDoor
set_option linter.unusedSimpArgs false
set_option linter.unusedVariables false
set_option maxRecDepth 100000
open Go.RowKit Go.Maps
open Dsk
section
variable {w0 w w':World} {X:Nat→Prop} {v:Value} {d:Dk} {l:List Sg} {t:Str} {s:Nat} {dr:Files}
end
end Go.Proofs.YtdacanghbepjpaaGreatDoor
namespace Go.Proofs.YtdacanghbepjpaaGreatDoor
set_option linter.unusedSimpArgs false
set_option linter.unusedVariables false
set_option maxRecDepth 100000
open Go.RowKit Go.Maps
open Dsk
section
variable {w0 w w' w2:World} {P P' Q S:Nat→Prop} {bd j jx:Nat} {d d' d2:Dk} {h h' h2:Hl} {x x' x2:Dm} {s:Nat} {l:List Sg} {t:Str} {dr:Files}
end
end Go.Proofs.YtdacanghbepjpaaGreatDoor
namespace Go.Proofs.YtdacanghbepjpaaGreatDoor
set_option maxRecDepth 100000
open Go.RowKit Go.ChangeShapes
theorem es_star : "*" ++ "errors.errorString" = "*errors.errorString" := by decide
theorem es_row (u : TypeId) (h : Tryz.prog.typeName? 3 u = some "*errors.errorString") : u = 285 :=
 typeName_ptr_named (nm := "errors.errorString") (by rw [es_star]; kernel_rfl) (by kernel_rfl) (by decide) u (by rw [es_star]; exact h)
theorem hl_env {W:World} (h:laidMetH Tryz.prog Rows.daemonNoneRow.laid W):LEnv W:=by
 refine ⟨?_,?_⟩
 · have h1 := ((laidMetH_iff.1 h).1).filter fun x => x.1 == "internal/strconv.uint64pow10"
   have e : ((Rows.daemonNoneRow.laid.filter fun x => x.2.handleName?.isNone).filter fun x => x.1 == "internal/strconv.uint64pow10") = [("internal/strconv.uint64pow10", Lib.tabData .u64 Lib.pow10Tab)] := by kernel_rfl
   rw [e] at h1
   exact Lib.tabIs_of_head (g:=0) (t:=264) (e:=216) (n:=20) (by kernel_rfl) (by kernel_rfl) (by kernel_rfl) (by kernel_rfl) (by kernel_rfl) (by kernel_rfl) h1
 · have h1 := ((laidMetH_iff.1 h).1).filter fun x => x.1 == "strconv.ErrSyntax"
   have e : ((Rows.daemonNoneRow.laid.filter fun x => x.2.handleName?.isNone).filter fun x => x.1 == "strconv.ErrSyntax") = [("strconv.ErrSyntax", .iface "*errors.errorString" (.ptr (.agg [.lit (.string [105, 110, 118, 97, 108, 105, 100, 32, 115, 121, 110, 116, 97, 120])])))] := by kernel_rfl
   rw [e] at h1
   obtain ⟨a,s,hv,_⟩:=laid_sentinel (g:=1) (ti:=171) (tp:=285) (te:=287) (ts:=9) h1 (by kernel_rfl) (by kernel_rfl) Tryz.underlying171 es_row (by kernel_rfl) Tryz.underlying287 rfl rfl (by kernel_rfl) (by kernel_rfl) (by kernel_rfl)
   exact ⟨_,_,hv⟩
end Go.Proofs.YtdacanghbepjpaaGreatDoor
namespace Go.Proofs.YtdacanghbepjpaaGreatDoor
set_option linter.unusedSimpArgs false
set_option linter.unusedVariables false
open Dsk
/-! ### which were answered -/
def missN (had:List Bool) (n:Nat):Nat:=(List.range n).countP fun i => !(had.getD i false)
theorem missN_succ (had:List Bool) (n:Nat):missN had (n+1)=missN had n+if had.getD n false=true then 0 else 1:=by
 unfold missN
 rw [List.range_succ,List.countP_append,List.countP_singleton]
 cases had.getD n false <;> rfl
theorem missN_more {had had':List Bool} (h:∀ i,had.getD i false=true→had'.getD i false=true):∀ n,missN had' n≤missN had n
 | 0 => Nat.le_refl _
 | n+1 => by
  have:=missN_more h n
  rw [missN_succ,missN_succ]
  by_cases e:had.getD n false=true
  · rw [if_pos e,if_pos (h n e)];omega
  · rw [if_neg e];split <;> omega
theorem missN_all {had had':List Bool} (h:∀ i,had.getD i false=true→had'.getD i false=true) (n:Nat):∀ m,(∀ i,n≤i→i<n+m→had'.getD i false=true)→missN had' (n+m)≤missN had n
 | 0,_ => missN_more h n
 | m+1,ha => by
  have:=missN_all h n m fun i h1 h2 => ha i h1 (by omega)
  rw [← Nat.add_assoc,missN_succ,if_pos (ha (n+m) (by omega) (by omega))]
  omega
/-! ### the law's acts -/
structure CrI (d:Dk) (h:Hl) (s:Nat) (x:Dm) (had:List Bool) (many:Int) (k:Nat):Prop where
 node:NodeP d h s x
 host:x.host=1
 mny:x.out=noB∨many=x.many
 mb:0≤many∧many≤8
 miss:(missN had x.next.toNat:Int)≤x.gap
 len:had.length≤140000*(k+1)
 next:nextOf h.l≤140000*(k+1)
 tot:total d.files≤120*k
 fls:d.files.length≤k
 room:d.room=1048576
structure CrD (d:Dk) (h:Hl) (s:Nat) (x:Dm) (d':Dk) (had:List Bool) (k:Nat):Prop where
 node:NodeP d h s x
 fell:NodeF d h s x d'
 host:x.host=1
 miss:(missN had x.next.toNat:Int)≤x.gap
 len:had.length≤140000*(k+1)
 next:nextOf h.l≤140000*k
 tot:total d'.files≤120*k
 fls:d'.files.length≤k
 room:d'.room=1048576
section
variable {d d':Dk} {l l':List Sg} {t':Str} {s s' k:Nat} {h h':Hl} {x x':Dm} {had had':List Bool} {many:Int}
theorem keep_grw (ok:Ok d) (x:Dm) (a b:Int):Grw d (keepC d x a b).2.2 120 1:=by
 unfold keepC
 have:=ok.save_grw a b
 simp only
 split
 · exact this
 · exact this
theorem take_grw (ok:Ok d) (b:Po.Str) (x:Dm):Grw d (takeC b d x).2.2 120 1:=by
 have z:Grw d d 120 1:=(Grw.refl d).more (Nat.zero_le _) (Nat.zero_le _)
 unfold takeC
 split
 · exact z
 · split
   · exact z
   · split
     · exact z
     · have g:=keep_grw ok x (by assumption:Int) x.gap
       simp only
       split
       · exact keep_grw ok x _ _
       · exact keep_grw ok x _ _
theorem NodeP.ok (p:NodeP d h s x):Ok d:=by obtain ⟨dr,f,_⟩:=p.run.file;exact f.ok
theorem CrI.few (i:CrI d h s x had many k) (hk:k≤200):d.files.length<1024∧total d.files+19≤d.room∧nextOf h.l≤900000000∧sureOf h.l s≤2147483647:=by
 have h1:=i.fls
 have h2:=i.tot
 have h3:=i.room
 have h4:=i.next
 have h5:=sureOf_le h.l s
 omega
theorem CrI.grw (i:CrI d h s x had many k) (g:Grw d d' 120 1):total d'.files≤120*(k+1)∧d'.files.length≤k+1∧d'.room=1048576:=by
 have h1:=g.total
 have h2:=g.len
 have h3:=i.tot
 have h4:=i.fls
 exact ⟨by omega,by omega,g.room.trans i.room⟩
theorem CrI.take (i:CrI d h s x had many k) (hk:k≤200) (b:Po.Str) (hm:∀ j,had.getD j false=true→had'.getD j false=true) (hl:had'.length≤140000*(k+2))
  (hall:x.out≠noB→Po.decAck b=some (x.host,x.next,x.next+x.many)→∀ j,x.next.toNat≤j→j<x.next.toNat+x.many.toNat→had'.getD j false=true) :
  ((takeC b d x).1.1=false∧(takeC b d x).2=(x,d)∧CrI d h s x had' many (k+1)) ∨
  ((takeC b d x).1.1=true∧CrI (takeC b d x).2.2 h s (takeC b d x).2.1 had' 0 (k+1)∧x.next≤(takeC b d x).2.1.next∧x.gap≤(takeC b d x).2.1.gap) ∨
  ((takeC b d x).1.1=false∧(takeC b d x).2.1=x∧CrD d h s x (takeC b d x).2.2 had' (k+1)):=by
 obtain ⟨b1,b2,b3,b4⟩:=i.few hk
 obtain ⟨g1,g2,g3⟩:=i.grw (take_grw i.node.ok b x)
 obtain ⟨q1,q2⟩:=i.node.gap
 have hmi:=i.miss
 have hmo:=missN_more hm x.next.toNat
 rcases i.node.take b b1 b2 b4 with ⟨e1,e2,_⟩ | ⟨e1,e2,e3,e4,p⟩ | ⟨e1,e2,e3,e4,f⟩
 · exact .inl ⟨e1,e2,i.node,i.host,i.mny,i.mb,by omega,hl,Nat.le_trans i.next (by omega),Nat.le_trans i.tot (by omega),Nat.le_succ_of_le i.fls,i.room⟩
 · right;left
   have hmn:1≤x.many∧x.many≤8:=by
    rcases i.node.out with ⟨e,_⟩ | ⟨ss,_,e,e5,e6,_⟩
    · exact absurd e e2
    · omega
   have hms:=missN_all hm x.next.toNat x.many.toNat (hall e2 e3)
   rw [e1]
   rw [e4] at *
   refine ⟨rfl,⟨p,i.host,.inl rfl,⟨Int.le_refl _,by decide⟩,?_,hl,Nat.le_trans i.next (by omega),g1,g2,g3⟩,by show x.next≤x.next+x.many;omega,Int.le_refl _⟩
   show (missN had' (x.next+x.many).toNat:Int)≤x.gap
   have:(x.next+x.many).toNat=x.next.toNat+x.many.toNat:=by omega
   rw [this]
   omega
 · right;right
   rw [e1]
   exact ⟨rfl,e4,i.node,f,i.host,by omega,hl,i.next,g1,g2,g3⟩
end
end Go.Proofs.YtdacanghbepjpaaGreatDoor
namespace Go.Proofs.YtdacanghbepjpaaGreatDoor
set_option linter.unusedSimpArgs false
set_option linter.unusedVariables false
set_option maxRecDepth 100000
open Go.RowKit Go.Maps
open Dsk
section
variable {w w':World} {B:Nat} {hv:Value} {had:List Bool}
end
end Go.Proofs.YtdacanghbepjpaaGreatDoor
namespace Go.Proofs.YtdacanghbepjpaaGreatDoor
set_option linter.unusedSimpArgs false
set_option linter.unusedVariables false
set_option maxRecDepth 100000
open Go.RowKit Go.Maps
open Dsk
theorem ackS_list (h f n:Int):(ackB h f n).data.toList=Po.ackS h f (n-f):=rfl
theorem encAck_of {h f n:Int} (k:Po.AckOk h f n):(encAck h f n).1=ackB h f n:=by unfold encAck;rw [if_pos k]
theorem ackB_size {h f n:Int} (k:Po.AckOk h f n):(ackB h f n).size≤maxLen:=by
 obtain ⟨⟨h1,h2⟩,⟨f1,f2⟩,le,⟨n1,n2⟩⟩:=k
 have e:ackB h f n=putsB ⟨#[65]⟩ h f (n-f) 3:=(putsB_list 65 h f (n-f)).symm
 rw [e]
 have:=putsB_size ⟨#[65]⟩ (by decide) (a:=h) (b:=f) (c:=n-f) (by omega) (by omega) (by omega) 3
 unfold maxLen
 omega
def NE (w0 W:World) (K:Nat→Prop) (jn bd j jx:Nat) (d:Dk) (h:Hl) (x:Dm):Prop:=∃ P,ND w0 P W jn bd j jx d h x∧∀ k,K k→¬ P k∧k<W.heap.size
def NEP (w0 W:World) (K:Nat→Prop) (jn bd j jx:Nat) (d:Dk) (h:Hl) (x:Dm) (w':World):Prop:=NE w0 w' K jn bd j jx d h x∧Keeps K W w'
def NoK (_:Nat):Prop:=False
section
variable {w0 w w':World} {K:Nat→Prop} {jn bd j jx:Nat} {d d':Dk} {h h':Hl} {x x':Dm} {s c k:Nat} {Ls:List Sp.Span}
theorem NDA.ne {P:Nat→Prop} (hK:∀ k,K k→¬ P k∧k<w.heap.size) (n:NDA w0 P w jn bd j jx d h x w'):NEP w0 w K jn bd j jx d h x w':=by
 obtain ⟨P',h1,n,h3⟩:=n
 exact ⟨⟨P',n,fun k e => ⟨h1.not (hK k e).2 (hK k e).1,Nat.lt_of_lt_of_le (hK k e).2 h3.size⟩⟩,Chg.mono h3 fun k _ e e2 => (hK k e2).1 e⟩
theorem NE.below (n:NE w0 w K jn bd j jx d h x) (y:Below w.heap.size w w'):NE w0 w' K jn bd j jx d h x:=by
 obtain ⟨P,n,hK⟩:=n
 exact ⟨P,n.below y,fun k e => ⟨(hK k e).1,Nat.lt_of_lt_of_le (hK k e).2 y.size⟩⟩
theorem NE.add (n:NE w0 w K jn bd j jx d h x) (y:Below w.heap.size w w'):NE w0 w' (Also K w w') jn bd j jx d h x:=by
 obtain ⟨P,n,hK⟩:=n
 refine ⟨P,n.below y,fun k e => ?_⟩
 rcases e with e | e
 · exact ⟨(hK k e).1,Nat.lt_of_lt_of_le (hK k e).2 y.size⟩
 · exact ⟨fun e2 => by have:=n.na.lt k e2;omega,e.2⟩
theorem NE.drop {K2:Nat→Prop} (n:NE w0 w K jn bd j jx d h x) (hK2:∀ k,K2 k→K k):NE w0 w K2 jn bd j jx d h x:=by
 obtain ⟨P,n,hK⟩:=n
 exact ⟨P,n,fun k e => hK k (hK2 k e)⟩
theorem ND.ne {P:Nat→Prop} (n:ND w0 P w jn bd j jx d h x):NE w0 w NoK jn bd j jx d h x:=⟨P,n,fun k e => e.elim⟩
theorem NE.base (n:NE w0 w K jn bd j jx d h x):Below w0.heap.size w0 w:=by obtain ⟨P,n,_⟩:=n;exact n.na.base
theorem NE.cells (n:NE w0 w K jn bd j jx d h x):w.cell? ⟨jn,0,none⟩=some (.pointer (some ⟨bd,0,none⟩))∧w.cell? ⟨jn,1,none⟩=some (.pointer (some ⟨j,0,none⟩))∧w.cell? ⟨jn,2,none⟩=some (.pointer (some ⟨jx,0,none⟩)):=by obtain ⟨P,n,_⟩:=n;exact n.cells
structure Few (d:Dk) (h:Hl) (s:Nat) (x:Dm):Prop where
 node:NodeP d h s x
 next:nextOf h.l≤900000000
 len:d.files.length<1024
 room:total d.files+19≤d.room
theorem NodeC.few (n:NodeC d h s x Ls c k) (hk:k≤1000) (hc:120*(k+2)≤c):Few d h s x:=by
 obtain ⟨a,b,e⟩:=n.bounds hk hc
 exact ⟨n.node,e,a,b⟩
theorem NE.app (n:NE w0 w K jn bd j jx d h x) (he:LEnv w0) (f:Few d h s x) (y:Sp.Span) (h1:y.service.size≤maxLen) (h2:y.host.size≤maxLen) (h3:y.note.size≤maxLen) {R:Int×Hl×Dk} (hR:appP d h y=R) :
  Calls Tryz.prog 20 #[.pointer (some ⟨j,0,none⟩),spV y] w fun e w' => e=.returned (.int .i64 R.1)∧NEP w0 w K jn bd j jx R.2.2 R.2.1 x w':=by
 subst hR
 obtain ⟨P,n,hK⟩:=n
 refine (n.na.app he f.node f.next y h1 h2 h3).mono ?_
 rintro e w' ⟨rfl,hp⟩
 exact ⟨rfl,(n.acted hp).ne hK⟩
theorem NE.sync (n:NE w0 w K jn bd j jx d h x) (he:LEnv w0) (f:Few d h s x) {R:Int×Hl×Dk} (hR:syncP d h=R) :
  Calls Tryz.prog 22 #[.pointer (some ⟨j,0,none⟩)] w fun e w' => e=.returned (.int .i64 R.1)∧NEP w0 w K jn bd j jx R.2.2 R.2.1 x w':=by
 subst hR
 obtain ⟨P,n,hK⟩:=n
 refine (n.na.sync he f.node f.next).mono ?_
 rintro e w' ⟨rfl,hp⟩
 exact ⟨rfl,(n.acted hp).ne hK⟩
theorem NE.step (n:NE w0 w K jn bd j jx d h x) (he:LEnv w0) (f:Few d h s x) (now:Int) (ho:NowB now x.sent) {R:(ByteArray×Int)×Dm×Dk} (hR:stepC now d h x=R) :
  Calls Tryz.prog 14 #[.pointer (some ⟨jx,0,none⟩),.int .i64 now] w fun e w' => e=.returned (.tuple #[.string R.1.1,.int .i64 R.1.2])∧NEP w0 w K jn bd j jx R.2.2 h R.2.1 w':=by
 subst hR
 obtain ⟨P,n,hK⟩:=n
 refine (n.na.step he f.node f.next f.len f.room now ho).mono ?_
 rintro e w' ⟨rfl,hp⟩
 exact ⟨rfl,(n.acted hp).ne hK⟩
theorem NE.take (n:NE w0 w K jn bd j jx d h x) (f:Few d h s x) (b:ByteArray) (hb:b.size≤maxLen) {R:(Bool×Int)×Dm×Dk} (hR:takeC b.data.toList d x=R) :
  Calls Tryz.prog 15 #[.pointer (some ⟨jx,0,none⟩),.string b] w fun e w' => e=.returned (.tuple #[.bool R.1.1,.int .i64 R.1.2])∧NEP w0 w K jn bd j jx R.2.2 h R.2.1 w':=by
 subst hR
 obtain ⟨P,n,hK⟩:=n
 refine (n.na.take f.node f.next b hb).mono ?_
 rintro e w' ⟨rfl,hp⟩
 exact ⟨rfl,(n.acted hp).ne hK⟩
theorem NE.cursor (n:NE w0 w K jn bd j jx d h x):Calls Tryz.prog 16 #[.pointer (some ⟨jx,0,none⟩)] w fun e w' => e=.returned (curV x.next x.gap)∧Below w.heap.size w w':=by obtain ⟨P,n,_⟩:=n;exact n.na.cursor
theorem NE.waiting (n:NE w0 w K jn bd j jx d h x):Calls Tryz.prog 17 #[.pointer (some ⟨jx,0,none⟩)] w fun e w' => e=.returned (.bool (!x.out.toList.isEmpty))∧w=w':=by obtain ⟨P,n,_⟩:=n;exact n.na.waiting
theorem NE.first (n:NE w0 w K jn bd j jx d h x) (f:Few d h s x):Calls Tryz.prog 26 #[.pointer (some ⟨j,0,none⟩)] w fun e w' => e=.returned (.int .i64 (firstOf h.l:Nat))∧Below w.heap.size w w':=by obtain ⟨P,n,_⟩:=n;exact n.na.first f.node f.next
theorem NE.sure (n:NE w0 w K jn bd j jx d h x) (he:LEnv w0) (f:Few d h s x):Calls Tryz.prog 27 #[.pointer (some ⟨j,0,none⟩)] w fun e w' => e=.returned (.int .i64 (sureOf h.l s:Nat))∧Below w.heap.size w w':=by obtain ⟨P,n,_⟩:=n;exact n.na.sure he f.node f.next
theorem NE.end_ (n:NE w0 w K jn bd j jx d h x) (f:Few d h s x):Calls Tryz.prog 30 #[.pointer (some ⟨j,0,none⟩)] w fun e w' => e=.returned (.int .i64 (nextOf h.l:Nat))∧Below w.heap.size w w':=by obtain ⟨P,n,_⟩:=n;exact n.na.end_ f.node f.next
theorem NE.writes (n:NE w0 w K jn bd j jx d h x) (he:LEnv w0) (f:Few d h s x) (a:DAct) (ha:DActOk a) :
  Calls Tryz.prog 25 #[.pointer (some ⟨jn,0,none⟩),.agg (dactC a).toArray] w fun e w' => e=.returned (.bool (decide (a.kind % 9<5)))∧NEP w0 w K jn bd j jx (wrP a.kind a.n a.s d h).2.2 (wrP a.kind a.n a.s d h).2.1 x w':=by
 obtain ⟨P,n,hK⟩:=n
 refine (writes_any n he f.node f.next a ha).mono ?_
 rintro e w' ⟨rfl,hp⟩
 exact ⟨rfl,hp.ne hK⟩
end
set_option maxHeartbeats 16000000 in
theorem lives_any (w:World) (he:LEnv w):Calls Tryz.prog 13 #[] w fun e w' => e=.returned (.bool true)∧Below w.heap.size w w':=by
 have HBG:=Lib.hid (begun_any 0 (by decide) w)
 have HE:=Lib.hid he
 clear he
 go_enter Tryz.func13,Tryz.ntmps13
 go_wp2_with fail
 refine HBG.out.mono ?_
 rintro e w1 ⟨jn,rfl,bd,j,jx,P,hnd⟩
 have HND:=Lib.hid hnd
 clear hnd HBG
 go_wp2_with fail
 go_loopg [2] 3 (fun g v2 wr => ∃ (k:Nat),v2=.int .i64 ((k:Int)+1)∧k≤3∧g=3-k∧∃ d h s,NE w wr NoK jn bd j jx d h ⟨0,0,0,noB,0,0⟩∧NodeC d h s ⟨0,0,0,noB,0,0⟩ (LsE k) 1048576 k∧h.l=lsE k∧sureOf h.l s=0)
 case atStart => exact ⟨0,rfl,by omega,by omega,_,_,0,HND.out.ne,NodeC.new 0 (by decide) (by decide) (by decide),rfl,rfl⟩
 case round =>
  obtain ⟨k,rfl,hk,rfl,d,h,s,nd,nc,hl,hs⟩:=hrel
  by_cases hlt:k<3
  case pos =>
   have hlt2:((k:Int)+1)≤3:=by omega
   have hwk:IntKind.i64.wrap ((k:Int)+1+1)=(k:Int)+1+1:=by rw [IntKind.wrap_i64];omega
   obtain ⟨s',n',hl',hs'⟩:=lv_app nc hl hs hlt
   obtain ⟨R,hR⟩:∃ R,R=appP d h (spanD ((k:Int)+1)):=⟨_,rfl⟩
   have HAP:=Lib.hid (fun (W:World) (hW:Below wr.heap.size wr W) => (nd.below hW).app HE.out (nc.few (by omega) (by omega)) (spanD ((k:Int)+1)) (by show (⟨#[97]⟩:ByteArray).size≤maxLen;decide) (by show (⟨#[104]⟩:ByteArray).size≤maxLen;decide) (by show (⟨#[]⟩:ByteArray).size≤maxLen;decide) hR.symm)
   have HCEL:=Lib.hid (fun (W:World) (hW:Below wr.heap.size wr W) => (nd.below hW).cells)
   rw [← hR] at n' hl' hs'
   obtain ⟨r9,h',d'⟩:=R
   simp only at n' hl' hs' HAP
   have HNC:=Lib.hid (show NodeC d' h' s' ⟨0,0,0,noB,0,0⟩ (LsE (k+1)) 1048576 (k+1)∧h'.l=lsE (k+1)∧sureOf h'.l s'=0 from ⟨n',hl',hs'⟩)
   obtain ⟨w2,hw2⟩:∃ w2,w2=wr.drew:=⟨_,rfl⟩
   have HB2:=Lib.hid (show Below wr.heap.size wr w2 by rw [hw2];exact (Below.refl _ _).drew)
   have hT:w2.cell? ⟨jn,1,none⟩=some (.pointer (some ⟨j,0,none⟩)):=(HCEL.out w2 HB2.out).2.1
   have hS:True:=trivial
   clear nd nc hl hs n' hl' hs' hR
   go_wp2_with fail
   refine wp_region_two (T:=fun W => W.cell? ⟨jn,1,none⟩=some (.pointer (some ⟨j,0,none⟩))) (S:=fun _ => True) (n:=99) (by kernel_rfl) ?_
   rw [← hw2]
   clear hw2
   refine tk 0 24 hT hS ?_
   refine tk 1 25 hT hS ?_
   try simp only [xq]
   refine tk 2 26 hT hS ?_
   refine tk 3 27 hT hS ?_
   try simp only [xq]
   refine tk 4 28 hT hS ?_
   try simp only [xq]
   refine two_one 5 rfl (by kernel_rfl) ?_
   intro K hK
   go_simp
   refine (spanD_any _ _).mono ?_
   rintro e w3 ⟨rfl,hb3⟩
   have HB3:=Lib.hid (HB2.out.trans (hb3.mono HB2.out.size))
   have hT1:w3.cell? ⟨jn,1,none⟩=some (.pointer (some ⟨j,0,none⟩)):=(HCEL.out w3 HB3.out).2.1
   refine hK.out _ _ hT1 (fun _ _ => hS) ?_
   clear hK K hb3 hT
   try simp only [xq]
   refine two_one 6 rfl (by kernel_rfl) ?_
   intro K hK
   go_simp
   refine (HAP.out w3 HB3.out).mono ?_
   rintro e w4 ⟨rfl,hnd4,_⟩
   have hT2:w4.cell? ⟨jn,1,none⟩=some (.pointer (some ⟨j,0,none⟩)):=hnd4.cells.2.1
   have HN4:=Lib.hid hnd4
   refine hK.out _ _ hT2 (fun _ _ => hS) ?_
   clear hK K hnd4 hT1 hT2 HAP HCEL
   try simp only [xq]
   refine two_done (by kernel_rfl) ?_ _
   go_wp2_with fail
   go_roundg (3-(k+1))
   case measure => omega
   case rel =>
    exact ⟨k+1,by go_num,by omega,rfl,d',h',s',HN4.out,HNC.out.1,HNC.out.2.1,HNC.out.2.2⟩
  case neg =>
   obtain rfl:k=3:=by omega
   clear hlt hk
   obtain ⟨d1,s1,d2,h2,s2,d3,x3,x4,d5,x5,d6,x6,e1,e2,n1,e3,e4,n2,e5,n3,e6,e7,e8,n4,e9,e10,e11,n5,e12,e13,n6,e14,e15⟩:=lv_rest nc hl
   have hsy:=nd.sync HE.out (nc.few (by omega) (by omega)) rfl
   rw [e1,e2] at hsy
   have HSY:=Lib.hid hsy
   clear hsy
   have HF1:=Lib.hid (n1.few (by omega) (by omega))
   have HF2:=Lib.hid (n2.few (by omega) (by omega))
   have HF3:=Lib.hid (n3.few (by omega) (by omega))
   have HF4:=Lib.hid (n4.few (by omega) (by omega))
   have HF5:=Lib.hid (n5.few (by omega) (by omega))
   have HE3:=Lib.hid e3
   have HE4:=Lib.hid e4
   have HE5:=Lib.hid e5
   have HE6:=Lib.hid e6
   have HE7:=Lib.hid e7
   have HE8:=Lib.hid e8
   have HE9:=Lib.hid e9
   have HE10:=Lib.hid e10
   have HE11:=Lib.hid e11
   have HE12:=Lib.hid e12
   have HE13:=Lib.hid e13
   have HE14:=Lib.hid e14
   have HE15:=Lib.hid e15
   obtain ⟨c0,c1,c2⟩:=nd.cells
   clear nd nc hl hs e1 e2 n1 e3 e4 n2 e5 n3 e6 e7 e8 n4 e9 e10 e11 n5 e12 e13 n6 e14 e15
   go_wp2_with fail
   refine HSY.out.mono ?_
   rintro e v1 ⟨rfl,hn1,_⟩
   have HN1:=Lib.hid hn1
   clear hn1 HSY c0 c1 c2
   try simp only at HN1
   -- one more
   obtain ⟨v2,hv2⟩:∃ v2,v2=v1.drew:=⟨_,rfl⟩
   have HV2:=Lib.hid (show Below v1.heap.size v1 v2 by rw [hv2];exact (Below.refl _ _).drew)
   have hT:v2.cell? ⟨jn,1,none⟩=some (.pointer (some ⟨j,0,none⟩)):=(HN1.out.below HV2.out).cells.2.1
   have hS:True:=trivial
   go_wp2_with fail
   refine wp_region_two (T:=fun W => W.cell? ⟨jn,1,none⟩=some (.pointer (some ⟨j,0,none⟩))) (S:=fun _ => True) (n:=99) (by kernel_rfl) ?_
   rw [← hv2]
   clear hv2
   refine tk 0 36 hT hS ?_
   refine tk 1 37 hT hS ?_
   try simp only [xq]
   refine tk 2 38 hT hS ?_
   refine tk 3 39 hT hS ?_
   try simp only [xq]
   refine two_one 4 rfl (by kernel_rfl) ?_
   intro K hK
   go_simp
   refine (spanD_any _ _).mono ?_
   rintro e v3 ⟨rfl,hb3⟩
   have HV3:=Lib.hid (HV2.out.trans (hb3.mono HV2.out.size))
   have hT1:v3.cell? ⟨jn,1,none⟩=some (.pointer (some ⟨j,0,none⟩)):=(HN1.out.below HV3.out).cells.2.1
   refine hK.out _ _ hT1 (fun _ _ => hS) ?_
   clear hK K hb3 hT
   try simp only [xq]
   have ha:=(HN1.out.below HV3.out).app HE.out HF1.out (spanD 4) (by show (⟨#[97]⟩:ByteArray).size≤maxLen;decide) (by show (⟨#[104]⟩:ByteArray).size≤maxLen;decide) (by show (⟨#[]⟩:ByteArray).size≤maxLen;decide) rfl
   rw [HE3.out,HE4.out] at ha
   have HA:=Lib.hid ha
   clear ha
   refine two_one 5 rfl (by kernel_rfl) ?_
   intro K hK
   go_simp
   refine HA.out.mono ?_
   rintro e v4 ⟨rfl,hn4,_⟩
   have hT2:v4.cell? ⟨jn,1,none⟩=some (.pointer (some ⟨j,0,none⟩)):=hn4.cells.2.1
   have HN4:=Lib.hid hn4
   refine hK.out _ _ hT2 (fun _ _ => hS) ?_
   clear hK K hn4 hT1 hT2 HA HN1 HE3 HE4
   try simp only at HN4
   try simp only [xq]
   refine two_done (by kernel_rfl) ?_ _
   -- three steps
   have HS5:=Lib.hid (HN4.out.step HE.out HF2.out 5 ⟨by decide,by decide⟩ HE5.out)
   obtain ⟨c0,c1,c2⟩:=HN4.out.cells
   clear HN4 HE5
   go_wp2_with fail
   refine HS5.out.mono ?_
   rintro e v5 ⟨rfl,hn5,_⟩
   try simp only at hn5
   have HS7:=Lib.hid (hn5.step HE.out HF3.out 7 ⟨by decide,by rw [HE6.out];decide⟩ HE7.out)
   obtain ⟨c0,c1,c2⟩:=hn5.cells
   clear hn5 HS5 HE7
   go_wp2_with fail
   refine HS7.out.mono ?_
   rintro e v6 ⟨rfl,hn6,_⟩
   try simp only at hn6
   have HS8:=Lib.hid (hn6.step HE.out HF3.out 8 ⟨by decide,by rw [HE6.out];decide⟩ HE8.out)
   obtain ⟨c0,c1,c2⟩:=hn6.cells
   clear hn6 HS7 HE8
   go_wp2_with fail
   refine HS8.out.mono ?_
   rintro e v7 ⟨rfl,hn7,_⟩
   try simp only at hn7
   have HN7:=Lib.hid hn7
   clear hn7 HS8 c0 c1 c2
   -- what was sent is read
   have HDB:=Lib.hid (decBatch_ok 0 0 (LsE 3) v7 (by decide) (by decide) (by decide) (by decide) (fun y hy => by
    have h9:y=spanD 1∨y=spanD 2∨y=spanD 3:=by simpa [LsE] using hy
    rcases h9 with rfl | rfl | rfl <;> exact spanD_may (by omega)))
   obtain ⟨BT,hBT⟩:∃ BT,BT=batchB 0 0 (LsE 3):=⟨_,rfl⟩
   rw [← hBT] at HDB ⊢
   have hBN:BT.toList.isEmpty=false:=by
    cases hq:BT.toList.isEmpty with
    | true => exact absurd (hBT ▸ noB_of hq) (batchB_ne _ _ _)
    | false => rfl
   clear hBT
   go_wp2_with fail
   refine HDB.out.mono ?_
   rintro e v8 ⟨sv,rfl,hsv,hb8⟩
   obtain ⟨sx,sc,hsx⟩:=OwnRow.shape hsv
   have hL3:(LsE 3).length=3:=rfl
   rw [hL3] at hsx
   subst hsx
   have HN8:=Lib.hid (HN7.out.below hb8)
   clear hsv hb8 HDB HN7 hL3
   obtain ⟨qb,hqb⟩:∃ q,q=v8.heap.size:=⟨_,rfl⟩
   obtain ⟨v9,hv9⟩:∃ y,y=v8.alloc (.cells #[.int .i64 0,.int .i64 0,.slice sx 3 sc] 63 (0,0)):=⟨_,rfl⟩
   have hb9:Below v8.heap.size v8 v9:=by rw [hv9];exact (Below.refl _ _).alloc (Nat.le_refl _) _
   have hk9:Blk v9 qb 63 #[.int .i64 0,.int .i64 0,.slice sx 3 sc]:=by rw [hv9,hqb];exact Blk.alloc_new v8 _ _
   have HN9:=Lib.hid (HN8.out.add hb9)
   have HQK:=Lib.hid (show Also NoK v8 v9 qb from .inr ⟨by omega,hk9.lt⟩)
   have HV9:=Lib.hid hv9
   have HQB:=Lib.hid hqb
   have HK9:=Lib.hid hk9
   clear HN8 hb9 hv9 hqb hk9
   go_wp2_with fail
   rw [← HV9.out,← HQB.out]
   -- an answer
   obtain ⟨u1,hu1⟩:∃ y,y=v9.drew:=⟨_,rfl⟩
   have Hu1:=Lib.hid (show Below v9.heap.size v9 u1 by rw [hu1];exact (Below.refl _ _).drew)
   have hT:u1.cell? ⟨jn,2,none⟩=some (.pointer (some ⟨jx,0,none⟩)):=(HN9.out.below Hu1.out).cells.2.2
   have hS:True:=trivial
   go_wp2_with fail
   refine wp_region_two (T:=fun W => W.cell? ⟨jn,2,none⟩=some (.pointer (some ⟨jx,0,none⟩))) (S:=fun _ => True) (n:=99) (by kernel_rfl) ?_
   rw [← hu1]
   clear hu1
   refine tk 0 72 hT hS ?_
   refine tk 1 73 hT hS ?_
   try simp only [xq]
   refine tk 2 74 hT hS ?_
   refine tk 3 75 hT hS ?_
   try simp only [xq]
   refine two_one 4 rfl (by kernel_rfl) ?_
   intro K hK
   go_simp
   refine (ackD_any 0 0 2 _).mono ?_
   rintro e u2 ⟨rfl,hb3⟩
   have Hu2:=Lib.hid (Hu1.out.trans (hb3.mono Hu1.out.size))
   have hT1:u2.cell? ⟨jn,2,none⟩=some (.pointer (some ⟨jx,0,none⟩)):=(HN9.out.below Hu2.out).cells.2.2
   refine hK.out _ _ hT1 (fun _ _ => hS) ?_
   clear hK K hb3 hT
   try simp only [xq]
   have hak:Po.AckOk 0 0 2:=⟨by decide,by decide,by decide,by decide⟩
   have HA:=Lib.hid ((HN9.out.below Hu2.out).take HF4.out (encAck 0 0 2).1 (by rw [encAck_of hak];exact ackB_size hak) (R:=((false,0),x4,d3)) (by rw [encAck_of hak,ackS_list];exact HE10.out))
   have HKK:=Lib.hid (fun (W:World) (k:Keeps (Also NoK v8 v9) u2 W) => show Blk W qb 63 #[.int .i64 0,.int .i64 0,.slice sx 3 sc] from (HK9.out.below Hu2.out).chg k fun e => e HQK.out)
   clear hak
   refine two_one 5 rfl (by kernel_rfl) ?_
   intro K hK
   go_simp
   refine HA.out.mono ?_
   rintro e u3 ⟨rfl,hn4,hkp⟩
   have hT2:u3.cell? ⟨jn,2,none⟩=some (.pointer (some ⟨jx,0,none⟩)):=hn4.cells.2.2
   have HM3:=Lib.hid hn4
   have HL3:=Lib.hid (HKK.out _ hkp)
   refine hK.out _ _ hT2 (fun _ _ => hS) ?_
   clear hK K hn4 hT1 HA hkp HKK HN9 HK9 Hu1 Hu2
   have hT:=hT2
   clear hT2
   try simp only at HM3
   try simp only [xq]
   refine tk 6 71 hT hS ?_
   refine tk 7 78 hT hS ?_
   try simp only [xq]
   refine tk 8 79 hT hS ?_
   refine tk 9 11 hT hS ?_
   try simp only [xq]
   refine tk 10 12 hT hS ?_
   try simp only [xq]
   refine two_done (by kernel_rfl) ?_ _
   clear hT hS
   -- an answer
   obtain ⟨u4,hu4⟩:∃ y,y=u3.drew:=⟨_,rfl⟩
   have Hu4:=Lib.hid (show Below u3.heap.size u3 u4 by rw [hu4];exact (Below.refl _ _).drew)
   have hT:u4.cell? ⟨jn,2,none⟩=some (.pointer (some ⟨jx,0,none⟩)):=(HM3.out.below Hu4.out).cells.2.2
   have hS:True:=trivial
   go_wp2_with fail
   refine wp_region_two (T:=fun W => W.cell? ⟨jn,2,none⟩=some (.pointer (some ⟨jx,0,none⟩))) (S:=fun _ => True) (n:=99) (by kernel_rfl) ?_
   rw [← hu4]
   clear hu4
   refine tk 0 81 hT hS ?_
   refine tk 1 82 hT hS ?_
   try simp only [xq]
   refine tk 2 83 hT hS ?_
   refine tk 3 84 hT hS ?_
   try simp only [xq]
   refine two_one 4 rfl (by kernel_rfl) ?_
   intro K hK
   go_simp
   refine (ackD_any 0 0 3 _).mono ?_
   rintro e u5 ⟨rfl,hb3⟩
   have Hu5:=Lib.hid (Hu4.out.trans (hb3.mono Hu4.out.size))
   have hT1:u5.cell? ⟨jn,2,none⟩=some (.pointer (some ⟨jx,0,none⟩)):=(HM3.out.below Hu5.out).cells.2.2
   refine hK.out _ _ hT1 (fun _ _ => hS) ?_
   clear hK K hb3 hT
   try simp only [xq]
   have hak:Po.AckOk 0 0 3:=⟨by decide,by decide,by decide,by decide⟩
   have HA:=Lib.hid ((HM3.out.below Hu5.out).take HF4.out (encAck 0 0 3).1 (by rw [encAck_of hak];exact ackB_size hak) (R:=((true,0),x5,d5)) (by rw [encAck_of hak,ackS_list];exact HE11.out))
   have HKK:=Lib.hid (fun (W:World) (k:Keeps (Also NoK v8 v9) u5 W) => show Blk W qb 63 #[.int .i64 0,.int .i64 0,.slice sx 3 sc] from (HL3.out.below Hu5.out).chg k fun e => e HQK.out)
   clear hak
   refine two_one 5 rfl (by kernel_rfl) ?_
   intro K hK
   go_simp
   refine HA.out.mono ?_
   rintro e u6 ⟨rfl,hn4,hkp⟩
   have hT2:u6.cell? ⟨jn,2,none⟩=some (.pointer (some ⟨jx,0,none⟩)):=hn4.cells.2.2
   have HM6:=Lib.hid hn4
   have HL6:=Lib.hid (HKK.out _ hkp)
   refine hK.out _ _ hT2 (fun _ _ => hS) ?_
   clear hK K hn4 hT1 HA hkp HKK HM3 HL3 Hu4 Hu5
   have hT:=hT2
   clear hT2
   try simp only at HM6
   try simp only [xq]
   refine tk 6 80 hT hS ?_
   refine tk 7 87 hT hS ?_
   try simp only [xq]
   refine tk 8 88 hT hS ?_
   refine tk 9 13 hT hS ?_
   try simp only [xq]
   refine tk 10 14 hT hS ?_
   try simp only [xq]
   refine two_done (by kernel_rfl) ?_ _
   clear hT hS
   have HS9:=Lib.hid (HM6.out.step HE.out HF5.out 9 ⟨by decide,by rw [HE12.out];decide⟩ HE13.out)
   have HL7:=Lib.hid (fun (W:World) (k:Keeps (Also NoK v8 v9) u6 W) => show Blk W qb 63 #[.int .i64 0,.int .i64 0,.slice sx 3 sc] from HL6.out.chg k fun e => e HQK.out)
   obtain ⟨c0,c1,c2⟩:=HM6.out.cells
   clear HM6 HL6 HE9 HE10 HE11 HE13
   go_wp2_with fail
   refine HS9.out.mono ?_
   rintro e v10 ⟨rfl,hn10,hkp⟩
   have hk10:=HL7.out _ hkp
   try simp only at hn10
   have HCU:=Lib.hid hn10.cursor
   rw [HE14.out,HE15.out] at HCU
   obtain ⟨c0,c1,c2⟩:=hn10.cells
   have k1:=hk10.cell 1
   have k2:=hk10.cell 2
   simp only [List.getElem?_toArray,List.getElem?_cons_zero,List.getElem?_cons_succ] at k1 k2
   have HB10:=Lib.hid hn10.base
   have hno:noB.toList.isEmpty=true:=noB_is
   have hBB:(BT.toList == BT.toList)=true:=by simp
   unfold curV at HCU
   clear hn10 HS9 HL7 hkp hk10
   go_wp2_with fail
   refine HCU.out.mono ?_
   rintro e v11 ⟨rfl,hb11⟩
   have HB11:=Lib.hid (HB10.out.trans (hb11.mono HB10.out.size))
   clear hb11 HCU
   go_wp2_with fail
   go_ret
   exact ⟨rfl,HB11.out⟩
end Go.Proofs.YtdacanghbepjpaaGreatDoor
namespace Go.Proofs.YtdacanghbepjpaaGreatDoor
set_option linter.unusedSimpArgs false
set_option linter.unusedVariables false
set_option maxRecDepth 100000
open Go.RowKit Go.Maps
open Dsk
section
variable {w0 w w':World} {K S:Nat→Prop} {jn bd j jx:Nat} {d d':Dk} {h h':Hl} {x x':Dm} {s c k:Nat} {l:List Sg} {t:Str} {dr:Files}
theorem NE.row (n:NE w0 w K jn bd j jx d h x) (c:Chg S w w') (hS:∀ k,S k→k<w.heap.size→K k∧k≠jn∧w0.heap.size≤k):NE w0 w' K jn bd j jx d h x:=by
 obtain ⟨P,n,hK⟩:=n
 exact ⟨P,n.other c fun k hk e => ⟨(hS k e hk).2.2,(hK k (hS k e hk).1).1,(hS k e hk).2.1⟩,fun k e => ⟨(hK k e).1,Nat.lt_of_lt_of_le (hK k e).2 c.size⟩⟩
end
end Go.Proofs.YtdacanghbepjpaaGreatDoor
namespace Go.Proofs.YtdacanghbepjpaaGreatDoor
set_option linter.unusedSimpArgs false
set_option linter.unusedVariables false
set_option maxRecDepth 100000
open Go.RowKit Go.Maps
open Dsk
section
variable {w0 w w':World} {K S:Nat→Prop} {jn bd j jx qc:Nat} {a b a' b' many now:Int} {hv u:Value} {had had':List Bool} {d d':Dk} {h h':Hl} {x x':Dm} {s c k:Nat}
theorem NE.rowAdd (n:NE w0 w K jn bd j jx d h x) (c:Chg S w w') (hS:∀ k,S k→k<w.heap.size→K k∧k≠jn∧w0.heap.size≤k):NE w0 w' (Also K w w') jn bd j jx d h x:=by
 obtain ⟨P,n,hK⟩:=n
 refine ⟨P,n.other c fun k hk e => ⟨(hS k e hk).2.2,(hK k (hS k e hk).1).1,(hS k e hk).2.1⟩,fun k e => ?_⟩
 rcases e with e | e
 · exact ⟨(hK k e).1,Nat.lt_of_lt_of_le (hK k e).2 c.size⟩
 · exact ⟨fun e2 => by have:=n.na.lt k e2;omega,e.2⟩
theorem NE.jlt (n:NE w0 w K jn bd j jx d h x):jn<w.heap.size:=by obtain ⟨P,n,_⟩:=n;exact n.blk.lt
end
end Go.Proofs.YtdacanghbepjpaaGreatDoor
