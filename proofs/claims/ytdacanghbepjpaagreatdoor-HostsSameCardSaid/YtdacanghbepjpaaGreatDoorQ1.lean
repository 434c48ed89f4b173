/- A log is opened on a disk that has files: walked. What the rows say of the library's variables. A daemon's node whose disk may fail, and which records were answered, over the law's acts: plainly. No program in sight. Rows of truth values: which records were answered: walked. A law's node whose disk may fail, in memory: other rows change, it falls, is started and opened again: walked. A law's node whose disk may fail, with a cursor and a row beside it: what stays. -/
import Derived.Test.YtdacanghbepjpaaGreatDoorM13
import Derived.Test.YtdacanghbepjpaaGreatDoorM10
import Derived.Test.YtdacanghbepjpaaGreatDoorM7
import Derived.Test.YtdacanghbepjpaaGreatDoorRows
import Derived.LaidMore
import Derived.LaidHandle
import Derived.LaidSub
import Derived.Stop.LaidErr
import Derived.Test.YtdacanghbepjpaaGreatDoorM14
import Derived.Test.YtdacanghbepjpaaGreatDoorDmH
namespace Go.Proofs.YtdacanghbepjpaaGreatDoor
set_option linter.unusedSimpArgs false
set_option linter.unusedVariables false
set_option maxRecDepth 100000
open Go.RowKit Go.Maps
open Dsk
section
variable {w0 w w' w2:World} {P P' Q S:Nat→Prop} {bd j jx:Nat} {d d' d2:Dk} {h h' h2:Hl} {x x' x2:Dm} {s:Nat} {l:List Sg} {t:Str} {dr:Files}
theorem DA.opened (n:DA w0 P w bd d) (he:LEnv w0) (hoff:d.off=false) (hs:LSt d l t s dr) (hb:nextOf l≤999999999) (h9:(openP d l t).1=0) :
  Calls Tryz.prog 101 #[.pointer (some ⟨bd,0,none⟩)] w fun e w' => ∃ j',e=.returned (.tuple #[.pointer (some ⟨j',0,none⟩),.int .i64 0])∧∃ P',Gr P P' w∧LA w0 P' w' bd j' (openP d l t).2 ⟨d.starts,false,l⟩∧Chg P w w':=by
 obtain ⟨X,n,hP,hU⟩:=n
 refine (hopen_any n hoff he hs hb).mono ?_
 rintro e w' (⟨_,j',rfl,N,hN,hS,hK⟩ | ⟨e1,_⟩)
 · exact ⟨j',rfl,LA.made n hP hN hS hK⟩
 · exact absurd h9 e1
end
end Go.Proofs.YtdacanghbepjpaaGreatDoor
namespace Go.Proofs.YtdacanghbepjpaaGreatDoor
set_option maxRecDepth 100000
open Go.RowKit Go.ChangeShapes
theorem es_star : "*" ++ "errors.errorString" = "*errors.errorString" := by decide
theorem es_row (u : TypeId) (h : Tryz.prog.typeName? 3 u = some "*errors.errorString") : u = 285 :=
 typeName_ptr_named (nm := "errors.errorString") (by rw [es_star]; kernel_rfl) (by kernel_rfl) (by decide) u (by rw [es_star]; exact h)
theorem hl_env {W:World} (h:laidMetH Tryz.prog Rows.daemonNoneRow.laid W):LEnv W:=by
 refine ⟨?_,?_⟩
 · have h1 := ((laidMetH_iff.1 h).1).filter fun x => x.1 == "internal/strconv.uint64pow10"
   have e : ((Rows.daemonNoneRow.laid.filter fun x => x.2.handleName?.isNone).filter fun x => x.1 == "internal/strconv.uint64pow10") = [("internal/strconv.uint64pow10", Lib.tabData .u64 Lib.pow10Tab)] := by kernel_rfl
   rw [e] at h1
   exact Lib.tabIs_of_head (g:=0) (t:=264) (e:=216) (n:=20) (by kernel_rfl) (by kernel_rfl) (by kernel_rfl) (by kernel_rfl) (by kernel_rfl) (by kernel_rfl) h1
 · have h1 := ((laidMetH_iff.1 h).1).filter fun x => x.1 == "strconv.ErrSyntax"
   have e : ((Rows.daemonNoneRow.laid.filter fun x => x.2.handleName?.isNone).filter fun x => x.1 == "strconv.ErrSyntax") = [("strconv.ErrSyntax", .iface "*errors.errorString" (.ptr (.agg [.lit (.string [105, 110, 118, 97, 108, 105, 100, 32, 115, 121, 110, 116, 97, 120])])))] := by kernel_rfl
   rw [e] at h1
   obtain ⟨a,s,hv,_⟩:=laid_sentinel (g:=1) (ti:=171) (tp:=285) (te:=287) (ts:=9) h1 (by kernel_rfl) (by kernel_rfl) Tryz.underlying171 es_row (by kernel_rfl) Tryz.underlying287 rfl rfl (by kernel_rfl) (by kernel_rfl) (by kernel_rfl)
   exact ⟨_,_,hv⟩
end Go.Proofs.YtdacanghbepjpaaGreatDoor
namespace Go.Proofs.YtdacanghbepjpaaGreatDoor
set_option linter.unusedSimpArgs false
set_option linter.unusedVariables false
open Dsk
/-! ### which were answered -/
def missN (had:List Bool) (n:Nat):Nat:=(List.range n).countP fun i => !(had.getD i false)
theorem missN_succ (had:List Bool) (n:Nat):missN had (n+1)=missN had n+if had.getD n false=true then 0 else 1:=by
 unfold missN
 rw [List.range_succ,List.countP_append,List.countP_singleton]
 cases had.getD n false <;> rfl
theorem missN_more {had had':List Bool} (h:∀ i,had.getD i false=true→had'.getD i false=true):∀ n,missN had' n≤missN had n
 | 0 => Nat.le_refl _
 | n+1 => by
  have:=missN_more h n
  rw [missN_succ,missN_succ]
  by_cases e:had.getD n false=true
  · rw [if_pos e,if_pos (h n e)];omega
  · rw [if_neg e];split <;> omega
theorem missN_all {had had':List Bool} (h:∀ i,had.getD i false=true→had'.getD i false=true) (n:Nat):∀ m,(∀ i,n≤i→i<n+m→had'.getD i false=true)→missN had' (n+m)≤missN had n
 | 0,_ => missN_more h n
 | m+1,ha => by
  have:=missN_all h n m fun i h1 h2 => ha i h1 (by omega)
  rw [← Nat.add_assoc,missN_succ,if_pos (ha (n+m) (by omega) (by omega))]
  omega
/-! ### the law's acts -/
structure CrI (d:Dk) (h:Hl) (s:Nat) (x:Dm) (had:List Bool) (many:Int) (k:Nat):Prop where
 node:NodeP d h s x
 host:x.host=1
 mny:x.out=noB∨many=x.many
 mb:0≤many∧many≤8
 miss:(missN had x.next.toNat:Int)≤x.gap
 len:had.length≤140000*(k+1)
 next:nextOf h.l≤140000*(k+1)
 tot:total d.files≤120*k
 fls:d.files.length≤k
 room:d.room=1048576
structure CrD (d:Dk) (h:Hl) (s:Nat) (x:Dm) (d':Dk) (had:List Bool) (k:Nat):Prop where
 node:NodeP d h s x
 fell:NodeF d h s x d'
 host:x.host=1
 miss:(missN had x.next.toNat:Int)≤x.gap
 len:had.length≤140000*(k+1)
 next:nextOf h.l≤140000*k
 tot:total d'.files≤120*k
 fls:d'.files.length≤k
 room:d'.room=1048576
section
variable {d d':Dk} {l l':List Sg} {t':Str} {s s' k:Nat} {h h':Hl} {x x':Dm} {had had':List Bool} {many:Int}
theorem keep_grw (ok:Ok d) (x:Dm) (a b:Int):Grw d (keepC d x a b).2.2 120 1:=by
 unfold keepC
 have:=ok.save_grw a b
 simp only
 split
 · exact this
 · exact this
theorem skip_grw (ok:Ok d) (h:Hl) (x:Dm):Grw d (skipC d h x).2.2 120 1:=by
 unfold skipC
 split
 · exact (Grw.refl d).more (Nat.zero_le _) (Nat.zero_le _)
 · exact keep_grw ok x _ _
theorem bat_disk (d:Dk) (h:Hl) (x:Dm):(batC d h x).2.2=d:=by
 unfold batC
 split
 · rfl
 · split <;> rfl
theorem step_grw (ok:Ok d) (now:Int) (h:Hl) (x:Dm):Grw d (stepC now d h x).2.2 120 1:=by
 have g:=skip_grw ok h x
 have z:Grw d d 120 1:=(Grw.refl d).more (Nat.zero_le _) (Nat.zero_le _)
 have hg:Grw d (gatherC d h x).2.2 120 1:=by
  unfold gatherC
  simp only
  split
  · exact g
  · rw [bat_disk];exact g
 unfold stepC
 split
 · exact z
 · split
   · split
     · exact z
     · exact z
   · simp only
     split
     · exact hg
     · exact hg
theorem take_grw (ok:Ok d) (b:Po.Str) (x:Dm):Grw d (takeC b d x).2.2 120 1:=by
 have z:Grw d d 120 1:=(Grw.refl d).more (Nat.zero_le _) (Nat.zero_le _)
 unfold takeC
 split
 · exact z
 · split
   · exact z
   · split
     · exact z
     · have g:=keep_grw ok x (by assumption:Int) x.gap
       simp only
       split
       · exact keep_grw ok x _ _
       · exact keep_grw ok x _ _
theorem NodeP.ok (p:NodeP d h s x):Ok d:=by obtain ⟨dr,f,_⟩:=p.run.file;exact f.ok
theorem Stp.nextC (st:Stp h.l s h'.l s') (p:NodeP d h' s' x):nextOf h'.l≤nextOf h.l+65536:=by
 have h1:=nextOf_recs p.run.chain
 have h2:=p.recs_le
 have h3:=st.first
 have h4:=sureOf_le h.l s
 omega
theorem CrI.few (i:CrI d h s x had many k) (hk:k≤200):d.files.length<1024∧total d.files+19≤d.room∧nextOf h.l≤900000000∧sureOf h.l s≤2147483647:=by
 have h1:=i.fls
 have h2:=i.tot
 have h3:=i.room
 have h4:=i.next
 have h5:=sureOf_le h.l s
 omega
theorem CrI.grw (i:CrI d h s x had many k) (g:Grw d d' 120 1):total d'.files≤120*(k+1)∧d'.files.length≤k+1∧d'.room=1048576:=by
 have h1:=g.total
 have h2:=g.len
 have h3:=i.tot
 have h4:=i.fls
 exact ⟨by omega,by omega,g.room.trans i.room⟩
theorem CrI.fail (i:CrI d h s x had many k) (n:Int) (hn:0≤n) (keep:List Int) (hk:keep.length≤1000):(d.failAt n keep).1=0∧CrI (d.failAt n keep).2 h s x had many k:=by
 have r:=i.node.run.fail n keep (by omega)
 obtain ⟨e1,e2,e3,e4,_⟩:=failAt_head d n keep (by omega) i.node.ok
 refine ⟨?_,i.node.moved r ⟨KR.refl _ _,first_le_sure i.node.run.chain s⟩,i.host,i.mny,i.mb,i.miss,i.len,i.next,by rw [e1];exact i.tot,by rw [e1];exact i.fls,e4.trans i.room⟩
 unfold Dk.failAt
 rw [i.node.off,if_neg (by decide),if_neg (by omega)]
theorem step_host (now:Int) (d:Dk) (h:Hl) (x:Dm):(stepC now d h x).2.1.host=x.host:=by
 unfold stepC gatherC skipC keepC batC
 repeat' split
 all_goals first | rfl | (simp only;repeat' split)
 all_goals rfl
theorem CrI.take (i:CrI d h s x had many k) (hk:k≤200) (b:Po.Str) (hm:∀ j,had.getD j false=true→had'.getD j false=true) (hl:had'.length≤140000*(k+2))
  (hall:x.out≠noB→Po.decAck b=some (x.host,x.next,x.next+x.many)→∀ j,x.next.toNat≤j→j<x.next.toNat+x.many.toNat→had'.getD j false=true) :
  ((takeC b d x).1.1=false∧(takeC b d x).2=(x,d)∧CrI d h s x had' many (k+1)) ∨
  ((takeC b d x).1.1=true∧CrI (takeC b d x).2.2 h s (takeC b d x).2.1 had' 0 (k+1)∧x.next≤(takeC b d x).2.1.next∧x.gap≤(takeC b d x).2.1.gap) ∨
  ((takeC b d x).1.1=false∧(takeC b d x).2.1=x∧CrD d h s x (takeC b d x).2.2 had' (k+1)):=by
 obtain ⟨b1,b2,b3,b4⟩:=i.few hk
 obtain ⟨g1,g2,g3⟩:=i.grw (take_grw i.node.ok b x)
 obtain ⟨q1,q2⟩:=i.node.gap
 have hmi:=i.miss
 have hmo:=missN_more hm x.next.toNat
 rcases i.node.take b b1 b2 b4 with ⟨e1,e2,_⟩ | ⟨e1,e2,e3,e4,p⟩ | ⟨e1,e2,e3,e4,f⟩
 · exact .inl ⟨e1,e2,i.node,i.host,i.mny,i.mb,by omega,hl,Nat.le_trans i.next (by omega),Nat.le_trans i.tot (by omega),Nat.le_succ_of_le i.fls,i.room⟩
 · right;left
   have hmn:1≤x.many∧x.many≤8:=by
    rcases i.node.out with ⟨e,_⟩ | ⟨ss,_,e,e5,e6,_⟩
    · exact absurd e e2
    · omega
   have hms:=missN_all hm x.next.toNat x.many.toNat (hall e2 e3)
   rw [e1]
   rw [e4] at *
   refine ⟨rfl,⟨p,i.host,.inl rfl,⟨Int.le_refl _,by decide⟩,?_,hl,Nat.le_trans i.next (by omega),g1,g2,g3⟩,by show x.next≤x.next+x.many;omega,Int.le_refl _⟩
   show (missN had' (x.next+x.many).toNat:Int)≤x.gap
   have:(x.next+x.many).toNat=x.next.toNat+x.many.toNat:=by omega
   rw [this]
   omega
 · right;right
   rw [e1]
   exact ⟨rfl,e4,i.node,f,i.host,by omega,hl,i.next,g1,g2,g3⟩
theorem open_small {t:Str} {dr:Files} {d3:Dk} (hf:LSt d l t (lastT l++t).length dr) (hoff:d.off=false) (hb:nextOf l≤999999999) (e:openP d l t=(0,d3)):total d3.files≤total d.files∧d3.files.length≤d.files.length∧d3.room=d.room:=by
 obtain ⟨t1,t2⟩:=hf.total
 have h1:=del_le dr lnew
 have h2:=total_sub (del_sub dr lnew)
 rcases open_out hf hoff hb with ⟨d',s',e',k,f,_⟩ | ⟨d',e',_⟩ | ⟨d',e',_⟩
 · rw [e] at e'
   injection e' with _ e'
   subst e'
   obtain ⟨u1,u2⟩:=f.total
   simp only [List.length_nil,Nat.add_zero] at u1
   exact ⟨by omega,by omega,k.2.2.1⟩
 · rw [e] at e';cases e'
 · rw [e] at e';cases e'
theorem CrD.again (c:CrD d h s x d' had k) (hk:k≤200):d'.off=true∧d'.start.1=0∧d'.start.2.off=false∧∃ l' t' dr,LSt d'.start.2 l' t' (lastT l'++t').length dr∧nextOf l'≤999999999∧∃ d3 s3,openP d'.start.2 l' t'=(0,d3)∧loadD d3=((x.next,x.gap),0)∧CrI d3 ⟨d'.start.2.starts,false,l'⟩ s3 ⟨1,x.next,x.gap,noB,0,0⟩ had 0 k:=by
 have h1:=c.fls
 have h2:=c.tot
 have h3:=c.room
 have h4:=c.next
 obtain ⟨a1,a2,a3,l',t',dr,a4,a5,d3,s3,a6,a7,_,a9,_⟩:=c.fell.again c.node (by omega) (by omega) (by omega)
 have hroom:d'.start.2.room=d'.room:=by unfold Dk.start;split <;> rfl
 have hfiles:d'.start.2.files=d'.files:=by unfold Dk.start;split <;> rfl
 obtain ⟨b1,b2,b3⟩:=open_small a4 a3 (by omega) a6
 rw [hfiles] at b1 b2
 rw [c.host] at a7
 exact ⟨a1,a2,a3,l',t',dr,a4,by omega,d3,s3,a6,a9,a7,rfl,.inl rfl,⟨Int.le_refl _,by decide⟩,c.miss,c.len,by show nextOf l'≤_;omega,by omega,by omega,b3.trans (hroom.trans h3)⟩
end
end Go.Proofs.YtdacanghbepjpaaGreatDoor
namespace Go.Proofs.YtdacanghbepjpaaGreatDoor
set_option linter.unusedSimpArgs false
set_option linter.unusedVariables false
set_option maxRecDepth 100000
open Go.RowKit Go.Maps
open Dsk
def blRow (b:Bool):List Value:=[.bool b]
abbrev OwnBl (w:World) (B:Nat) (v:Value) (l:List Bool):Prop:=OwnRow blRow 1 4 w B v l
section
variable {w w':World} {B:Nat} {hv:Value} {had:List Bool}
end
end Go.Proofs.YtdacanghbepjpaaGreatDoor
namespace Go.Proofs.YtdacanghbepjpaaGreatDoor
set_option linter.unusedSimpArgs false
set_option linter.unusedVariables false
set_option maxRecDepth 100000
open Go.RowKit Go.Maps
open Dsk
def DE (w0 W:World) (K:Nat→Prop) (jn bd:Nat) (d:Dk):Prop:=∃ P u1 u2,DA w0 P W bd d∧Blk W jn 43 #[.pointer (some ⟨bd,0,none⟩),.pointer u1,.pointer u2]∧¬ P jn∧w0.heap.size≤jn∧∀ k,K k→¬ P k∧k<W.heap.size∧k≠jn
section
variable {w0 w w':World} {K S:Nat→Prop} {jn bd j jx:Nat} {d d':Dk} {h h':Hl} {x x':Dm} {s c k:Nat} {l:List Sg} {t:Str} {dr:Files}
theorem NE.row (n:NE w0 w K jn bd j jx d h x) (c:Chg S w w') (hS:∀ k,S k→k<w.heap.size→K k∧k≠jn∧w0.heap.size≤k):NE w0 w' K jn bd j jx d h x:=by
 obtain ⟨P,n,hK⟩:=n
 exact ⟨P,n.other c fun k hk e => ⟨(hS k e hk).2.2,(hK k (hS k e hk).1).1,(hS k e hk).2.1⟩,fun k e => ⟨(hK k e).1,Nat.lt_of_lt_of_le (hK k e).2 c.size⟩⟩
theorem NE.failAt (n:NE w0 w K jn bd j jx d h x) (m:Int) (hm:m≤9223372036854775807) (kv:Value) (keep:List Int) (hk:KeepR w (fun k => w0.heap.size≤k) kv keep) (hkl:keep.length≤1000000) :
  Calls Tryz.prog 34 #[.pointer (some ⟨bd,0,none⟩),.int .i64 m,kv] w fun e w' => e=.returned (.int .i64 (d.failAt m keep).1)∧NEP w0 w K jn bd j jx (d.failAt m keep).2 h x w':=by
 obtain ⟨P,n,hK⟩:=n
 refine (n.na.failAt m hm kv keep hk hkl).mono ?_
 rintro e w' ⟨rfl,hp⟩
 exact ⟨rfl,(n.acted hp).ne hK⟩
theorem DE.cell (n:DE w0 w K jn bd d):w.cell? ⟨jn,0,none⟩=some (.pointer (some ⟨bd,0,none⟩)):=by obtain ⟨_,_,_,_,h,_⟩:=n;exact h.cell 0
theorem DE.start (n:DE w0 w K jn bd d):Calls Tryz.prog 38 #[.pointer (some ⟨bd,0,none⟩)] w fun e w' => e=.returned (.int .i64 d.start.1)∧DE w0 w' K jn bd d.start.2∧Keeps K w w':=by
 obtain ⟨P,u1,u2,hd,hb,ho,hn,hK⟩:=n
 refine hd.start.mono ?_
 rintro e w' ⟨rfl,P',hg,hd',hc⟩
 exact ⟨rfl,⟨P',u1,u2,hd',hb.chg hc ho,hg.not hb.lt ho,hn,fun k e => ⟨hg.not (hK k e).2.1 (hK k e).1,Nat.lt_of_lt_of_le (hK k e).2.1 hc.size,(hK k e).2.2⟩⟩,Chg.mono hc fun k _ e e2 => (hK k e2).1 e⟩
theorem DE.opened (n:DE w0 w K jn bd d) (he:LEnv w0) (hoff:d.off=false) (hs:LSt d l t s dr) (hb:nextOf l≤999999999) {d3:Dk} (h9:openP d l t=(0,d3)) (host:Int) (hh:Po.HostOk host) {a b:Int} (hl:loadD d3=((a,b),0)) :
  Calls Tryz.prog 39 #[.pointer (some ⟨jn,0,none⟩),.int .i64 host] w fun e w' => e=.returned (.bool true)∧∃ j jx,NE w0 w' K jn bd j jx d3 ⟨d.starts,false,l⟩ ⟨host,a,b,noB,0,0⟩∧Keeps K w w':=by
 obtain ⟨P,u1,u2,hd,hbk,ho,hn,hK⟩:=n
 have hop:=hd.opened he hoff hs hb (by rw [h9])
 rw [h9] at hop
 refine (node_open hd hbk ho hn hop host hh hl).mono ?_
 rintro e w' ⟨rfl,j,jx,P',hg,hnd,hc⟩
 exact ⟨rfl,j,jx,⟨P',hnd,fun k e => ⟨hg.not (hK k e).2.1 (hK k e).1,Nat.lt_of_lt_of_le (hK k e).2.1 hc.size⟩⟩,Chg.mono hc fun k _ e e2 => e.elim (hK k e2).1 (hK k e2).2.2⟩
end
end Go.Proofs.YtdacanghbepjpaaGreatDoor
namespace Go.Proofs.YtdacanghbepjpaaGreatDoor
set_option linter.unusedSimpArgs false
set_option linter.unusedVariables false
set_option maxRecDepth 100000
open Go.RowKit Go.Maps
open Dsk
structure CrM (w wx:World) (K:Nat→Prop) (jn qc:Nat) (a b:Int) (hv:Value) (had:List Bool):Prop where
 cur:Blk wx qc 30 #[.int .i64 a,.int .i64 b]
 row:OwnBl wx w.heap.size hv had
 kq:K qc
 kr:∀ q,hv.ownBlock=some q→K q∧q≠qc
 kn:∀ q,K q→q≠jn∧w.heap.size≤q
section
variable {w0 w w':World} {K S:Nat→Prop} {jn bd j jx qc:Nat} {a b a' b' many now:Int} {hv u:Value} {had had':List Bool} {d d':Dk} {h h':Hl} {x x':Dm} {s c k:Nat}
theorem CrM.keeps (m:CrM w0 w K jn qc a b hv had) (c:Keeps K w w'):CrM w0 w' K jn qc a b hv had :=
 ⟨m.cur.chg c fun e => e m.kq,OwnRow.chg m.row (show Chg (fun k => ¬ K k) w w' from c) fun q hq e => e (m.kr q hq).1,m.kq,m.kr,m.kn⟩
theorem CrM.below (m:CrM w0 w K jn qc a b hv had) (y:Below w.heap.size w w'):CrM w0 w' K jn qc a b hv had:=m.keeps (Keeps.below y)
theorem step_sent (now:Int) (d:Dk) (h:Hl) (x:Dm):(stepC now d h x).2.1.sent=x.sent∨(stepC now d h x).2.1.sent=now:=by
 have hk:∀ a b,(keepC d x a b).2.1.sent=x.sent:=fun a b => by
  unfold keepC
  simp only
  split <;> rfl
 have hs:(skipC d h x).2.1.sent=x.sent:=by
  unfold skipC
  split
  · rfl
  · exact hk _ _
 have hb:∀ (d2:Dk) (y:Dm),(batC d2 h y).2.1.sent=y.sent:=fun d2 y => by
  unfold batC
  split
  · rfl
  · split <;> rfl
 have hg:(gatherC d h x).2.1.sent=x.sent:=by
  unfold gatherC
  simp only
  split
  · exact hs
  · rw [hb];exact hs
 unfold stepC
 split
 · exact .inl rfl
 · split
   · split
     · exact .inl rfl
     · exact .inr rfl
   · simp only
     split
     · exact .inl hg
     · exact .inr rfl
theorem take_sent (b:Po.Str) (d:Dk) (x:Dm):(takeC b d x).2.1.sent=x.sent:=by
 have hk:∀ a b,(keepC d x a b).2.1.sent=x.sent:=fun a b => by
  unfold keepC
  simp only
  split <;> rfl
 unfold takeC
 split
 · rfl
 · split
   · rfl
   · split
     · rfl
     · simp only
       split
       · exact hk _ _
       · exact hk _ _
def CrUp (w wr:World) (jn bd qc:Nat) (a b:Int) (hv:Value) (many now:Int) (k:Nat):Prop :=
 ∃ K j jx d h s x had,NE w wr K jn bd j jx d h x∧CrI d h s x had many k∧CrM w wr K jn qc a b hv had∧0≤x.sent∧x.sent≤now∧a≤x.next∧b≤x.gap
def CrDn (w wr:World) (jn bd qc:Nat) (a b:Int) (hv:Value) (k:Nat):Prop :=
 ∃ K d h s x had d',DE w wr K jn bd d'∧CrD d h s x d' had k∧CrM w wr K jn qc a b hv had∧x.next=a∧x.gap=b
def CrSt (w wr:World) (jn bd qc:Nat) (a b:Int) (hv:Value) (k:Nat):Prop :=
 ∃ K d h s x had d',DE w wr K jn bd d'.start.2∧CrD d h s x d' had k∧CrM w wr K jn qc a b hv had∧x.next=a∧x.gap=b
theorem CrDn.start (c:CrDn w0 w jn bd qc a b hv k) (hk:k≤200):Calls Tryz.prog 38 #[.pointer (some ⟨bd,0,none⟩)] w fun e w' => e=.returned (.int .i64 0)∧CrSt w0 w' jn bd qc a b hv k:=by
 obtain ⟨K,d,h,s,x,had,d',de,cd,m,e1,e2⟩:=c
 refine de.start.mono ?_
 rintro e w' ⟨rfl,hde,hkp⟩
 rw [(cd.again hk).2.1]
 exact ⟨rfl,K,d,h,s,x,had,d',hde,cd,m.keeps hkp,e1,e2⟩
theorem CrSt.again (c:CrSt w0 w jn bd qc a b hv k) (he:LEnv w0) (hk:k≤200) (now:Int) (hnow:0≤now):Calls Tryz.prog 39 #[.pointer (some ⟨jn,0,none⟩),.int .i64 1] w fun e w' => e=.returned (.bool true)∧CrUp w0 w' jn bd qc a b hv 0 now k:=by
 obtain ⟨K,d,h,s,x,had,d',de,cd,m,rfl,rfl⟩:=c
 obtain ⟨_,_,a3,l',t',dr,a4,a5,d3,s3,a6,a7,a8⟩:=cd.again hk
 refine (de.opened he a3 a4 a5 a6 1 (by decide) a7).mono ?_
 rintro e w' ⟨rfl,j,jx,hn,hkp⟩
 exact ⟨rfl,K,j,jx,d3,_,s3,_,had,hn,a8,m.keeps hkp,Int.le_refl _,hnow,Int.le_refl _,Int.le_refl _⟩
end
end Go.Proofs.YtdacanghbepjpaaGreatDoor
