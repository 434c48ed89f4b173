/- A log is opened on a disk that has files: walked. Small numbers that come in. What the rows say of the library's variables. A daemon's node whose disk may fail, and which records were answered, over the law's acts: plainly. No program in sight. Rows of truth values: which records were answered: walked. A law's node whose disk may fail, in memory: other rows change, it falls, is started and opened again: walked. A law's node whose disk may fail, with a cursor and a row beside it: what stays. Statements of DaemonCrash: what its acts come to in memory, and places in its code. -/
import Derived.Test.YtdacanghbepjpaaGreatDoorM13
import Derived.Test.YtdacanghbepjpaaGreatDoorM10
import Derived.Test.YtdacanghbepjpaaGreatDoorM14
import Derived.Test.YtdacanghbepjpaaGreatDoorM7
import Derived.Test.YtdacanghbepjpaaGreatDoorRows
import Derived.LaidMore
import Derived.LaidHandle
import Derived.LaidSub
import Derived.Stop.LaidErr
import Derived.Test.YtdacanghbepjpaaGreatDoorDmH
import Derived.Deep.DeepCutAuto
import Derived.Deep.CutBlock
namespace Go.Proofs.YtdacanghbepjpaaGreatDoor
set_option linter.unusedSimpArgs false
set_option linter.unusedVariables false
set_option maxRecDepth 100000
open Go.RowKit Go.Maps
open Dsk
section
variable {w0 w w' w2:World} {P P' Q S:Nat→Prop} {bd j jx:Nat} {d d' d2:Dk} {h h' h2:Hl} {x x' x2:Dm} {s:Nat} {l:List Sg} {t:Str} {dr:Files}
theorem DA.opened (n:DA w0 P w bd d) (he:LEnv w0) (hoff:d.off=false) (hs:LSt d l t s dr) (hb:nextOf l≤999999999) (h9:(openP d l t).1=0) :
  Calls Tryz.prog 101 #[.pointer (some ⟨bd,0,none⟩)] w fun e w' => ∃ j',e=.returned (.tuple #[.pointer (some ⟨j',0,none⟩),.int .i64 0])∧∃ P',Gr P P' w∧LA w0 P' w' bd j' (openP d l t).2 ⟨d.starts,false,l⟩∧Chg P w w':=by
 obtain ⟨X,n,hP,hU⟩:=n
 refine (hopen_any n hoff he hs hb).mono ?_
 rintro e w' (⟨_,j',rfl,N,hN,hS,hK⟩ | ⟨e1,_⟩)
 · exact ⟨j',rfl,LA.made n hP hN hS hK⟩
 · exact absurd h9 e1
end
end Go.Proofs.YtdacanghbepjpaaGreatDoor
namespace Go.Proofs.YtdacanghbepjpaaGreatDoor
set_option linter.unusedSimpArgs false
set_option linter.unusedVariables false
set_option maxRecDepth 100000
open Go.RowKit Go.Maps
open Go.WideShapes Go.ChangeAt Go.Deep
open Go.ChangeShapes (open_ints)
section
variable {H:Type} {enc:TypeId×Value→H} {w:World} {base:Nat} {sp:Nat→Bool} {held:Bool}
def RdU (w:World) (v:Value) (l:List Int):Prop :=
 ∃ x c,v=.slice x l.length c∧∀ (j:Nat) (hj:j<l.length),0≤l[j]∧l[j]≤255∧∃ b off,x=some ⟨b,off,none⟩∧b<w.heap.size∧w.cell? ⟨b,off+j,none⟩=some (.int .u8 l[j])
theorem RdU.below {w':World} {v:Value} {l:List Int} (h:RdU w v l) (x:Below w.heap.size w w'):RdU w' v l:=by
 obtain ⟨a,c,rfl,h⟩:=h
 refine ⟨a,c,rfl,fun j hj => ?_⟩
 obtain ⟨h1,h2,b,off,e,hb,hc⟩:=h j hj
 exact ⟨h1,h2,b,off,e,Nat.lt_of_lt_of_le hb x.size,(x.cell (p:=⟨b,_,none⟩) hb).trans hc⟩
theorem u8s_under:Tryz.prog.underlying 78=some (.slice 5):=by kernel_rfl
theorem u8sIn {fuel:Nat} {v:Value} {y:DataW H×List MemPlace} (h:DataW.trod enc Tryz.prog w base sp held fuel 78 [v]=some y) :
  ∃ l,RdU w v l∧l.length≤maxLen:=by
 rcases open_ints u8s_under hl_under_u8 (by kernel_rfl) h with ⟨hcs,_⟩ | ⟨a,len,cap,zs,hcs,_,hl,hm,hz,_,hcell,hwf⟩
 · simp at hcs
   subst hcs
   exact ⟨[],⟨none,0,rfl,fun j hj => absurd hj (by simp)⟩,Nat.zero_le _⟩
 · simp at hcs
   subst hcs
   have hlen:len≤zs.length:=by rw [hz];split <;> omega
   have ht:(zs.take len).length=len:=by rw [List.length_take];omega
   refine ⟨zs.take len,⟨some a,cap,by rw [ht],fun j hj => ?_⟩,by rw [ht];omega⟩
   have hj':j<len:=by rw [← ht];exact hj
   have hc:=hcell j (by omega)
   have hc0:=hcell 0 (by omega)
   obtain ⟨b,off,spot⟩:=a
   have hspot:spot=none:=by simpa [Addr.add] using World.cell?_spot hc0
   subst hspot
   have e:(⟨b,off,none⟩:Addr).add j=⟨b,off+j,none⟩:=by unfold Addr.add;split <;> simp_all
   rw [e] at hc
   have hb:b<w.heap.size:=by
    rcases Nat.lt_or_ge b w.heap.size with hlt | hge
    · exact hlt
    · simp [World.cell?,Array.getElem?_eq_none hge] at hc
   have hbd:=bounds_u8 (hwf (zs.take len)[j] (List.mem_of_mem_take (List.getElem_mem hj)))
   refine ⟨hbd.1,hbd.2,b,off,rfl,hb,?_⟩
   rw [hc]
   simp [List.getElem_take,List.getD_eq_getElem?_getD,List.getElem?_eq_getElem (show j<zs.length by omega)]
theorem openU8s {r:Reach} {b0:Nat} {v:Value} {d:DataW H} {p:List MemPlace} (hv:Value.okWide Tryz.prog w r b0 78 v) (h:DataW.Trod enc Tryz.prog w base sp held 78 v d p) :
  ∃ a:Value×List Int,v=a.1∧RdU w a.1 a.2∧a.2.length≤maxLen:=by
 obtain ⟨a0,len,cap,rfl⟩:=okWide_slice u8s_under hv
 obtain ⟨fuel,hf⟩:=h
 obtain ⟨l,hk,hl⟩:=u8sIn (by simpa [Value.cells] using hf)
 exact ⟨(_,l),rfl,hk,hl⟩
end
end Go.Proofs.YtdacanghbepjpaaGreatDoor
namespace Go.Proofs.YtdacanghbepjpaaGreatDoor
set_option maxRecDepth 100000
open Go.RowKit Go.ChangeShapes
theorem es_star : "*" ++ "errors.errorString" = "*errors.errorString" := by decide
theorem es_row (u : TypeId) (h : Tryz.prog.typeName? 3 u = some "*errors.errorString") : u = 285 :=
 typeName_ptr_named (nm := "errors.errorString") (by rw [es_star]; kernel_rfl) (by kernel_rfl) (by decide) u (by rw [es_star]; exact h)
theorem hl_env {W:World} (h:laidMetH Tryz.prog Rows.daemonNoneRow.laid W):LEnv W:=by
 refine ⟨?_,?_⟩
 · have h1 := ((laidMetH_iff.1 h).1).filter fun x => x.1 == "internal/strconv.uint64pow10"
   have e : ((Rows.daemonNoneRow.laid.filter fun x => x.2.handleName?.isNone).filter fun x => x.1 == "internal/strconv.uint64pow10") = [("internal/strconv.uint64pow10", Lib.tabData .u64 Lib.pow10Tab)] := by kernel_rfl
   rw [e] at h1
   exact Lib.tabIs_of_head (g:=0) (t:=264) (e:=216) (n:=20) (by kernel_rfl) (by kernel_rfl) (by kernel_rfl) (by kernel_rfl) (by kernel_rfl) (by kernel_rfl) h1
 · have h1 := ((laidMetH_iff.1 h).1).filter fun x => x.1 == "strconv.ErrSyntax"
   have e : ((Rows.daemonNoneRow.laid.filter fun x => x.2.handleName?.isNone).filter fun x => x.1 == "strconv.ErrSyntax") = [("strconv.ErrSyntax", .iface "*errors.errorString" (.ptr (.agg [.lit (.string [105, 110, 118, 97, 108, 105, 100, 32, 115, 121, 110, 116, 97, 120])])))] := by kernel_rfl
   rw [e] at h1
   obtain ⟨a,s,hv,_⟩:=laid_sentinel (g:=1) (ti:=171) (tp:=285) (te:=287) (ts:=9) h1 (by kernel_rfl) (by kernel_rfl) Tryz.underlying171 es_row (by kernel_rfl) Tryz.underlying287 rfl rfl (by kernel_rfl) (by kernel_rfl) (by kernel_rfl)
   exact ⟨_,_,hv⟩
end Go.Proofs.YtdacanghbepjpaaGreatDoor
namespace Go.Proofs.YtdacanghbepjpaaGreatDoor
set_option linter.unusedSimpArgs false
set_option linter.unusedVariables false
open Dsk
/-! ### which were answered -/
def missN (had:List Bool) (n:Nat):Nat:=(List.range n).countP fun i => !(had.getD i false)
theorem missN_succ (had:List Bool) (n:Nat):missN had (n+1)=missN had n+if had.getD n false=true then 0 else 1:=by
 unfold missN
 rw [List.range_succ,List.countP_append,List.countP_singleton]
 cases had.getD n false <;> rfl
theorem missN_add (had:List Bool) (n:Nat):∀ m,missN had (n+m)≤missN had n+m
 | 0 => Nat.le_refl _
 | m+1 => by
  have:=missN_add had n m
  rw [← Nat.add_assoc,missN_succ]
  split <;> omega
theorem missN_more {had had':List Bool} (h:∀ i,had.getD i false=true→had'.getD i false=true):∀ n,missN had' n≤missN had n
 | 0 => Nat.le_refl _
 | n+1 => by
  have:=missN_more h n
  rw [missN_succ,missN_succ]
  by_cases e:had.getD n false=true
  · rw [if_pos e,if_pos (h n e)];omega
  · rw [if_neg e];split <;> omega
theorem missN_all {had had':List Bool} (h:∀ i,had.getD i false=true→had'.getD i false=true) (n:Nat):∀ m,(∀ i,n≤i→i<n+m→had'.getD i false=true)→missN had' (n+m)≤missN had n
 | 0,_ => missN_more h n
 | m+1,ha => by
  have:=missN_all h n m fun i h1 h2 => ha i h1 (by omega)
  rw [← Nat.add_assoc,missN_succ,if_pos (ha (n+m) (by omega) (by omega))]
  omega
def markN (had:List Bool) (a b:Nat):List Bool:=(List.range (max had.length b)).map fun i => if a≤i∧i<b then true else had.getD i false
theorem markN_len (had:List Bool) (a b:Nat):(markN had a b).length=max had.length b:=by simp [markN]
theorem markN_get (had:List Bool) (a b i:Nat):(markN had a b).getD i false=if a≤i∧i<b then true else had.getD i false:=by
 unfold markN
 rw [List.getD_eq_getElem?_getD,List.getElem?_map]
 by_cases h:i<max had.length b
 · rw [List.getElem?_range h];rfl
 · rw [List.getElem?_eq_none (by simp;omega)]
   rw [if_neg (by omega),List.getD_eq_getElem?_getD,List.getElem?_eq_none (by omega)]
   rfl
theorem markN_more (had:List Bool) (a b:Nat):∀ i,had.getD i false=true→(markN had a b).getD i false=true:=fun i h => by
 rw [markN_get]
 split
 · rfl
 · exact h
/-! ### the law's acts -/
structure CrI (d:Dk) (h:Hl) (s:Nat) (x:Dm) (had:List Bool) (many:Int) (k:Nat):Prop where
 node:NodeP d h s x
 host:x.host=1
 mny:x.out=noB∨many=x.many
 mb:0≤many∧many≤8
 miss:(missN had x.next.toNat:Int)≤x.gap
 len:had.length≤140000*(k+1)
 next:nextOf h.l≤140000*(k+1)
 tot:total d.files≤120*k
 fls:d.files.length≤k
 room:d.room=1048576
structure CrD (d:Dk) (h:Hl) (s:Nat) (x:Dm) (d':Dk) (had:List Bool) (k:Nat):Prop where
 node:NodeP d h s x
 fell:NodeF d h s x d'
 host:x.host=1
 miss:(missN had x.next.toNat:Int)≤x.gap
 len:had.length≤140000*(k+1)
 next:nextOf h.l≤140000*k
 tot:total d'.files≤120*k
 fls:d'.files.length≤k
 room:d'.room=1048576
section
variable {d d':Dk} {l l':List Sg} {t':Str} {s s' k:Nat} {h h':Hl} {x x':Dm} {had had':List Bool} {many:Int}
theorem keep_grw (ok:Ok d) (x:Dm) (a b:Int):Grw d (keepC d x a b).2.2 120 1:=by
 unfold keepC
 have:=ok.save_grw a b
 simp only
 split
 · exact this
 · exact this
theorem skip_grw (ok:Ok d) (h:Hl) (x:Dm):Grw d (skipC d h x).2.2 120 1:=by
 unfold skipC
 split
 · exact (Grw.refl d).more (Nat.zero_le _) (Nat.zero_le _)
 · exact keep_grw ok x _ _
theorem bat_disk (d:Dk) (h:Hl) (x:Dm):(batC d h x).2.2=d:=by
 unfold batC
 split
 · rfl
 · split <;> rfl
theorem step_grw (ok:Ok d) (now:Int) (h:Hl) (x:Dm):Grw d (stepC now d h x).2.2 120 1:=by
 have g:=skip_grw ok h x
 have z:Grw d d 120 1:=(Grw.refl d).more (Nat.zero_le _) (Nat.zero_le _)
 have hg:Grw d (gatherC d h x).2.2 120 1:=by
  unfold gatherC
  simp only
  split
  · exact g
  · rw [bat_disk];exact g
 unfold stepC
 split
 · exact z
 · split
   · split
     · exact z
     · exact z
   · simp only
     split
     · exact hg
     · exact hg
theorem take_grw (ok:Ok d) (b:Po.Str) (x:Dm):Grw d (takeC b d x).2.2 120 1:=by
 have z:Grw d d 120 1:=(Grw.refl d).more (Nat.zero_le _) (Nat.zero_le _)
 unfold takeC
 split
 · exact z
 · split
   · exact z
   · split
     · exact z
     · have g:=keep_grw ok x (by assumption:Int) x.gap
       simp only
       split
       · exact keep_grw ok x _ _
       · exact keep_grw ok x _ _
theorem NodeP.ok (p:NodeP d h s x):Ok d:=by obtain ⟨dr,f,_⟩:=p.run.file;exact f.ok
theorem Stp.nextC (st:Stp h.l s h'.l s') (p:NodeP d h' s' x):nextOf h'.l≤nextOf h.l+65536:=by
 have h1:=nextOf_recs p.run.chain
 have h2:=p.recs_le
 have h3:=st.first
 have h4:=sureOf_le h.l s
 omega
theorem CrI.few (i:CrI d h s x had many k) (hk:k≤200):d.files.length<1024∧total d.files+19≤d.room∧nextOf h.l≤900000000∧sureOf h.l s≤2147483647:=by
 have h1:=i.fls
 have h2:=i.tot
 have h3:=i.room
 have h4:=i.next
 have h5:=sureOf_le h.l s
 omega
theorem CrI.grw (i:CrI d h s x had many k) (g:Grw d d' 120 1):total d'.files≤120*(k+1)∧d'.files.length≤k+1∧d'.room=1048576:=by
 have h1:=g.total
 have h2:=g.len
 have h3:=i.tot
 have h4:=i.fls
 exact ⟨by omega,by omega,g.room.trans i.room⟩
theorem CrI.later (i:CrI d h s x had many k):CrI d h s x had many (k+1) :=
 ⟨i.node,i.host,i.mny,i.mb,i.miss,Nat.le_trans i.len (by omega),Nat.le_trans i.next (by omega),Nat.le_trans i.tot (by omega),Nat.le_succ_of_le i.fls,i.room⟩
theorem CrI.fail (i:CrI d h s x had many k) (n:Int) (hn:0≤n) (keep:List Int) (hk:keep.length≤1000):(d.failAt n keep).1=0∧CrI (d.failAt n keep).2 h s x had many k:=by
 have r:=i.node.run.fail n keep (by omega)
 obtain ⟨e1,e2,e3,e4,_⟩:=failAt_head d n keep (by omega) i.node.ok
 refine ⟨?_,i.node.moved r ⟨KR.refl _ _,first_le_sure i.node.run.chain s⟩,i.host,i.mny,i.mb,i.miss,i.len,i.next,by rw [e1];exact i.tot,by rw [e1];exact i.fls,e4.trans i.room⟩
 unfold Dk.failAt
 rw [i.node.off,if_neg (by decide),if_neg (by omega)]
theorem CrI.act (i:CrI d h s x had many k) (hk:k≤200) (g:Grw d d' 120 1) (a:ActC d h s x.next x.gap d' h'):(∃ s',CrI d' h' s' x had many (k+1))∨CrD d h s x d' had (k+1):=by
 obtain ⟨g1,g2,g3⟩:=i.grw g
 rcases i.node.act a with ⟨s',p,st⟩ | f
 · have:=st.nextC p
   have:=i.next
   exact .inl ⟨s',p,i.host,i.mny,i.mb,i.miss,Nat.le_trans i.len (by omega),by omega,g1,g2,g3⟩
 · exact .inr ⟨i.node,f,i.host,i.miss,Nat.le_trans i.len (by omega),i.next,g1,g2,g3⟩
theorem CrI.wr (i:CrI d h s x had many k) (hk:k≤200) (kd a:Nat) (y:Sp.Span):(∃ s',CrI (wrP kd a y d h).2.2 (wrP kd a y d h).2.1 s' x had many (k+1))∨CrD d h s x (wrP kd a y d h).2.2 had (k+1):=by
 have hb:nextOf h.l≤999999999:=by have:=i.next;omega
 unfold wrP
 split
 · exact i.act hk (i.node.ok.app_grw h y) (i.node.run.app hb y)
 split
 · exact i.act hk (i.node.ok.syncP_grw h) i.node.run.sync
 split
 · exact i.act hk (i.node.ok.rot_grw h) (i.node.run.rot hb)
 split
 · exact i.act hk (i.node.ok.ret_grw h _) (i.node.run.ret _)
 · exact .inl ⟨s,i.later⟩
theorem step_many (now:Int) (d:Dk) (h:Hl) (x:Dm) (he:(stepC now d h x).1.1=noB):(stepC now d h x).2.1.out=noB∨(stepC now d h x).2.1=x∨(stepC now d h x).1.2≠0:=by
 unfold stepC at he ⊢
 split at he
 · rename_i h1
   rw [if_pos h1]
   exact .inr (.inl rfl)
 · rename_i h1
   rw [if_neg h1]
   split at he
   · rename_i h2
     rw [if_pos h2]
     split at he
     · rename_i h3
       rw [if_pos h3]
       exact .inr (.inl rfl)
     · exact absurd he h2
   · rename_i h2
     rw [if_neg h2]
     simp only at he ⊢
     split at he
     · rename_i h3
       rw [if_pos h3]
       exact .inr (.inr h3)
     · rename_i h3
       rw [if_neg h3]
       exact .inl he
theorem CrI.step (i:CrI d h s x had many k) (hk:k≤200) (now:Int) :
  (((stepC now d h x).1.1=noB∧CrI (stepC now d h x).2.2 h s (stepC now d h x).2.1 had many (k+1))∨((stepC now d h x).1.1≠noB∧(stepC now d h x).1.1=(stepC now d h x).2.1.out∧CrI (stepC now d h x).2.2 h s (stepC now d h x).2.1 had (stepC now d h x).2.1.many (k+1)))∧x.next≤(stepC now d h x).2.1.next∧x.gap≤(stepC now d h x).2.1.gap ∨
  (stepC now d h x).1.1=noB∧(stepC now d h x).2.1=x∧CrD d h s x (stepC now d h x).2.2 had (k+1):=by
 obtain ⟨b1,b2,b3,b4⟩:=i.few hk
 obtain ⟨g1,g2,g3⟩:=i.grw (step_grw i.node.ok now h x)
 have hsm:=step_many now d h x
 have hh:(stepC now d h x).2.1.host=x.host:=by
  unfold stepC gatherC skipC keepC batC
  repeat' split
  all_goals first | rfl | (simp only;repeat' split) 
  all_goals rfl
 rcases i.node.step now b1 b2 b4 with ⟨e1,p,e2,e3,e4⟩ | ⟨e1,e2,e3⟩
 · left
   obtain ⟨R,hR⟩:∃ R,R=stepC now d h x:=⟨_,rfl⟩
   rw [← hR] at e1 p e2 e3 e4 g1 g2 g3 hsm hh ⊢
   obtain ⟨⟨bt,r⟩,x',d'⟩:=R
   simp only at e1 p e2 e3 e4 g1 g2 g3 hsm hh ⊢
   obtain ⟨q1,q2⟩:=i.node.gap
   have hmiss:(missN had x'.next.toNat:Int)≤x'.gap:=by
    have hm:=i.miss
    obtain ⟨m,hm2⟩:∃ m:Nat,x'.next.toNat=x.next.toNat+m:=⟨x'.next.toNat-x.next.toNat,by omega⟩
    rw [hm2]
    have:=missN_add had x.next.toNat m
    omega
   have hmany:x'.out=noB∨(0≤x'.many∧x'.many≤8):=by
    rcases p.out with ⟨e,_⟩ | ⟨ss,_,e,e5,e6,_⟩
    · exact .inl e
    · exact .inr (by omega)
   refine ⟨?_,e3,by omega⟩
   by_cases hb:bt=noB
   · left
     refine ⟨hb,p,hh.trans i.host,?_,i.mb,hmiss,Nat.le_trans i.len (by omega),Nat.le_trans i.next (by omega),g1,g2,g3⟩
     rcases hsm hb with e | e | e
     · exact .inl e
     · rw [e];exact i.mny
     · exact absurd e1 e
   · right
     rcases e2 with e2 | e2
     · exact absurd e2 hb
     refine ⟨hb,e2,p,hh.trans i.host,.inr rfl,?_,hmiss,Nat.le_trans i.len (by omega),Nat.le_trans i.next (by omega),g1,g2,g3⟩
     rcases hmany with e | e
     · exact absurd (e2.trans e) hb
     · exact e
 · right
   rw [e1]
   exact ⟨rfl,e2,i.node,e3,i.host,i.miss,Nat.le_trans i.len (by omega),i.next,g1,g2,g3⟩
theorem CrI.take (i:CrI d h s x had many k) (hk:k≤200) (b:Po.Str) (hm:∀ j,had.getD j false=true→had'.getD j false=true) (hl:had'.length≤140000*(k+2))
  (hall:x.out≠noB→Po.decAck b=some (x.host,x.next,x.next+x.many)→∀ j,x.next.toNat≤j→j<x.next.toNat+x.many.toNat→had'.getD j false=true) :
  ((takeC b d x).1.1=false∧(takeC b d x).2=(x,d)∧CrI d h s x had' many (k+1)) ∨
  ((takeC b d x).1.1=true∧CrI (takeC b d x).2.2 h s (takeC b d x).2.1 had' 0 (k+1)∧x.next≤(takeC b d x).2.1.next∧x.gap≤(takeC b d x).2.1.gap) ∨
  ((takeC b d x).1.1=false∧(takeC b d x).2.1=x∧CrD d h s x (takeC b d x).2.2 had' (k+1)):=by
 obtain ⟨b1,b2,b3,b4⟩:=i.few hk
 obtain ⟨g1,g2,g3⟩:=i.grw (take_grw i.node.ok b x)
 obtain ⟨q1,q2⟩:=i.node.gap
 have hmi:=i.miss
 have hmo:=missN_more hm x.next.toNat
 rcases i.node.take b b1 b2 b4 with ⟨e1,e2,_⟩ | ⟨e1,e2,e3,e4,p⟩ | ⟨e1,e2,e3,e4,f⟩
 · exact .inl ⟨e1,e2,i.node,i.host,i.mny,i.mb,by omega,hl,Nat.le_trans i.next (by omega),Nat.le_trans i.tot (by omega),Nat.le_succ_of_le i.fls,i.room⟩
 · right;left
   have hmn:1≤x.many∧x.many≤8:=by
    rcases i.node.out with ⟨e,_⟩ | ⟨ss,_,e,e5,e6,_⟩
    · exact absurd e e2
    · omega
   have hms:=missN_all hm x.next.toNat x.many.toNat (hall e2 e3)
   rw [e1]
   rw [e4] at *
   refine ⟨rfl,⟨p,i.host,.inl rfl,⟨Int.le_refl _,by decide⟩,?_,hl,Nat.le_trans i.next (by omega),g1,g2,g3⟩,by show x.next≤x.next+x.many;omega,Int.le_refl _⟩
   show (missN had' (x.next+x.many).toNat:Int)≤x.gap
   have:(x.next+x.many).toNat=x.next.toNat+x.many.toNat:=by omega
   rw [this]
   omega
 · right;right
   rw [e1]
   exact ⟨rfl,e4,i.node,f,i.host,by omega,hl,i.next,g1,g2,g3⟩
theorem open_small {t:Str} {dr:Files} {d3:Dk} (hf:LSt d l t (lastT l++t).length dr) (hoff:d.off=false) (hb:nextOf l≤999999999) (e:openP d l t=(0,d3)):total d3.files≤total d.files∧d3.files.length≤d.files.length∧d3.room=d.room:=by
 obtain ⟨t1,t2⟩:=hf.total
 have h1:=del_le dr lnew
 have h2:=total_sub (del_sub dr lnew)
 rcases open_out hf hoff hb with ⟨d',s',e',k,f,_⟩ | ⟨d',e',_⟩ | ⟨d',e',_⟩
 · rw [e] at e'
   injection e' with _ e'
   subst e'
   obtain ⟨u1,u2⟩:=f.total
   simp only [List.length_nil,Nat.add_zero] at u1
   exact ⟨by omega,by omega,k.2.2.1⟩
 · rw [e] at e';cases e'
 · rw [e] at e';cases e'
theorem CrD.again (c:CrD d h s x d' had k) (hk:k≤200):d'.off=true∧d'.start.1=0∧d'.start.2.off=false∧∃ l' t' dr,LSt d'.start.2 l' t' (lastT l'++t').length dr∧nextOf l'≤999999999∧∃ d3 s3,openP d'.start.2 l' t'=(0,d3)∧loadD d3=((x.next,x.gap),0)∧CrI d3 ⟨d'.start.2.starts,false,l'⟩ s3 ⟨1,x.next,x.gap,noB,0,0⟩ had 0 k:=by
 have h1:=c.fls
 have h2:=c.tot
 have h3:=c.room
 have h4:=c.next
 obtain ⟨a1,a2,a3,l',t',dr,a4,a5,d3,s3,a6,a7,_,a9,_⟩:=c.fell.again c.node (by omega) (by omega) (by omega)
 have hroom:d'.start.2.room=d'.room:=by unfold Dk.start;split <;> rfl
 have hfiles:d'.start.2.files=d'.files:=by unfold Dk.start;split <;> rfl
 obtain ⟨b1,b2,b3⟩:=open_small a4 a3 (by omega) a6
 rw [hfiles] at b1 b2
 rw [c.host] at a7
 exact ⟨a1,a2,a3,l',t',dr,a4,by omega,d3,s3,a6,a9,a7,rfl,.inl rfl,⟨Int.le_refl _,by decide⟩,c.miss,c.len,by show nextOf l'≤_;omega,by omega,by omega,b3.trans (hroom.trans h3)⟩
end
end Go.Proofs.YtdacanghbepjpaaGreatDoor
namespace Go.Proofs.YtdacanghbepjpaaGreatDoor
set_option linter.unusedSimpArgs false
set_option linter.unusedVariables false
set_option maxRecDepth 100000
open Go.RowKit Go.Maps
open Dsk
def blRow (b:Bool):List Value:=[.bool b]
theorem blRow_len:∀ b,(blRow b).length=1:=fun _ => rfl
theorem blRow_one:∀ b,∀ u∈blRow b,u.oneCell'=true:=by
 intro b u hu
 have e:u=.bool b:=by simpa [blRow] using hu
 rw [e]
 rfl
abbrev OwnBl (w:World) (B:Nat) (v:Value) (l:List Bool):Prop:=OwnRow blRow 1 4 w B v l
theorem under_bools:Tryz.prog.underlying 80=some (.slice 4):=by kernel_rfl
theorem info_bool:(Tryz.prog.info? 4).map (fun i => (i.zero,i.size,i.bytes))=some (some (.bool false),1,1):=by kernel_rfl
def setUp (l:List Bool) (a i:Nat):List Bool:=(List.range l.length).map fun j => if a≤j∧j<i then true else l.getD j false
theorem setUp_len (l:List Bool) (a i:Nat):(setUp l a i).length=l.length:=by simp [setUp]
theorem setUp_get (l:List Bool) (a i j:Nat) (hj:j<l.length):(setUp l a i)[j]'(by rw [setUp_len];exact hj)=if a≤j∧j<i then true else l.getD j false:=by simp [setUp]
theorem setUp_start (l:List Bool) (a:Nat):setUp l a a=l:=by
 apply List.ext_getElem (setUp_len l a a)
 intro j h1 h2
 rw [setUp_get l a a j h2,if_neg (by omega),List.getD_eq_getElem?_getD,List.getElem?_eq_getElem h2]
 rfl
theorem setUp_next (l:List Bool) (a i:Nat) (h:a≤i):setUp l a (i+1)=(setUp l a i).set i true:=by
 apply List.ext_getElem
 · rw [List.length_set,setUp_len,setUp_len]
 · intro j h1 h2
   have hj:j<l.length:=by rw [setUp_len] at h1;exact h1
   rw [setUp_get l a (i+1) j hj,List.getElem_set,setUp_get l a i j hj]
   by_cases e:i=j
   · subst e;rw [if_pos rfl,if_pos (by omega)]
   · rw [if_neg e]
     by_cases e2:a≤j∧j<i
     · rw [if_pos (by omega),if_pos e2]
     · rw [if_neg (by omega),if_neg e2]
theorem setUp_mark (had:List Bool) (a b:Nat):setUp (had++List.replicate (b-had.length) false) a b=markN had a b:=by
 apply List.ext_getElem
 · rw [setUp_len,markN_len,List.length_append,List.length_replicate];omega
 · intro j h1 h2
   have h3:j<(had++List.replicate (b-had.length) false).length:=by rw [setUp_len] at h1;exact h1
   have e:=markN_get had a b j
   rw [List.getD_eq_getElem?_getD,List.getElem?_eq_getElem h2] at e
   simp only [Option.getD_some] at e
   rw [setUp_get _ a b j h3,e]
   have e2:(had++List.replicate (b-had.length) false).getD j false=had.getD j false:=by
    rw [List.getD_eq_getElem?_getD,List.getD_eq_getElem?_getD]
    by_cases hj:j<had.length
    · rw [List.getElem?_append_left hj]
    · rw [List.getElem?_append_right (by omega),List.getElem?_eq_none (l:=had) (by omega),List.getElem?_replicate]
      split <;> rfl
   rw [e2]
section
variable {w w':World} {B:Nat} {hv:Value} {had:List Bool}
set_option maxHeartbeats 4000000 in
theorem missing_any (h:OwnBl w B hv had) (hl:had.length≤100000000) (n:Nat) (hn:n≤1000000000) :
  Calls Tryz.prog 40 #[hv,.int .i64 n] w fun e w' => e=.returned (.int .i64 (missN had n:Nat))∧w=w':=by
 obtain ⟨x,c,hs⟩:=OwnRow.shape h
 obtain ⟨m,hm⟩:∃ m,m=had.length:=⟨_,rfl⟩
 rw [← hm] at hs hl
 subst hs
 have HM:=Lib.hid hm
 have HAT:=Lib.hid (fun (i:Nat) (hi:i<had.length) => OwnRow.at_ blRow_len h i hi)
 have hle:∀ i,missN had i≤i:=fun i => by have:=missN_add had 0 i;rw [Nat.zero_add] at this;have e:missN had 0=0:=rfl;omega
 have HLE:=Lib.hid hle
 clear h hm hle
 go_enter Tryz.func40,Tryz.ntmps40
 go_wp2_with fail
 go_loop [5,6] (fun v5 v6 => ∃ (i r:Nat),v6=.int .i64 i∧v5=.int .i64 r∧i≤n∧r=missN had i) (fun _ v6 => n-(intOf v6).toNat)
 case atStart => exact ⟨0,0,rfl,rfl,Nat.zero_le _,rfl⟩
 case round =>
  obtain ⟨i,r,rfl,rfl,hi,hr⟩:=hrel
  have HR:=Lib.hid hr
  have hri:r≤i:=by rw [hr];exact HLE.out i
  clear hr
  by_cases hlt:i<n
  case neg =>
   obtain rfl:i=n:=by omega
   have hge:¬ (i:Int)<i:=by omega
   go_wp2_with fail
   go_ret
   exact ⟨by rw [HR.out];rfl,rfl⟩
  case pos =>
  have hlt2:(i:Int)<n:=by omega
  by_cases him:i<m
  case neg =>
   have h1:(i:Int)≥m:=by omega
   have h2:¬ (i:Int)<m:=by omega
   have HS:=Lib.hid (show r+1=missN had (i+1) by
    rw [missN_succ,HR.out,if_neg]
    rw [List.getD_eq_getElem?_getD,List.getElem?_eq_none (by rw [← HM.out];omega)]
    exact fun e => by cases e)
   go_wp2_with fail
   go_round
   case rel => exact ⟨i+1,r+1,by go_num,by go_num,by omega,HS.out⟩
   case measure => simp [intOf];omega
  case pos =>
  have h1:¬ (i:Int)≥m:=by omega
  have h2:(i:Int)<m:=by omega
  have hil:i<had.length:=by rw [← HM.out];exact him
  obtain ⟨g,c',hx,hc1,_,_,hcl⟩:=HAT.out i hil
  have hx1:x=some ⟨g,0,none⟩:=by injection hx
  subst hx1
  have d0:=(hcl 0 _ rfl).1
  rw [Nat.mul_one,Nat.add_zero] at d0
  have hgd:had.getD i false=had[i]:=by rw [List.getD_eq_getElem?_getD,List.getElem?_eq_getElem hil];rfl
  obtain ⟨bv,hbv⟩:∃ bv,bv=had[i]:=⟨_,rfl⟩
  rw [← hbv] at d0 hgd
  clear hx hc1 hcl hbv
  cases bv with
  | true =>
   have HS:=Lib.hid (show r=missN had (i+1) by rw [missN_succ,HR.out,if_pos hgd];rfl)
   clear hgd
   go_wp2_with fail
   go_round
   case rel => exact ⟨i+1,r,by go_num,rfl,by omega,HS.out⟩
   case measure => simp [intOf];omega
  | false =>
   have HS:=Lib.hid (show r+1=missN had (i+1) by rw [missN_succ,HR.out,if_neg (by rw [hgd];decide)])
   clear hgd
   go_wp2_with fail
   go_round
   case rel => exact ⟨i+1,r+1,by go_num,by go_num,by omega,HS.out⟩
   case measure => simp [intOf];omega
set_option maxHeartbeats 8000000 in
theorem marked_any (h:OwnBl w B hv had) (hB:B≤w.heap.size) (hl:had.length≤100000000) (a b:Nat) (hb:b≤100000000) (hab:a≤b) :
  Calls Tryz.prog 36 #[hv,.int .i64 a,.int .i64 b] w fun e w' => ∃ u,e=.returned u∧OwnBl w' B u (markN had a b)∧(u.ownBlock=hv.ownBlock∨∃ q,u.ownBlock=some q∧w.heap.size≤q)∧Chg (fun q => hv.ownBlock=some q) w w':=by
 have H0:=Lib.hid h
 obtain ⟨M,hM⟩:∃ M,M=b-had.length:=⟨_,rfl⟩
 have HMM:=Lib.hid hM
 have hM2:M=b-had.length:=hM
 go_enter Tryz.func36,Tryz.ntmps36
 clear h
 go_wp2_with fail
 go_loopg [0] M (fun g v0 wr => ∃ (k:Nat),k≤M∧g=M-k∧OwnBl wr B v0 (had++List.replicate k false)∧(v0.ownBlock=hv.ownBlock∨∃ q,v0.ownBlock=some q∧w.heap.size≤q)∧Chg (fun q => hv.ownBlock=some q) w wr)
 case atStart => exact ⟨0,Nat.zero_le _,by omega,by rw [List.replicate_zero,List.append_nil];exact H0.out,.inl rfl,Chg.refl _ _⟩
 case round =>
  obtain ⟨k,hk,rfl,ho,hob,hc⟩:=hrel
  obtain ⟨x,c,hs⟩:=OwnRow.shape ho
  obtain ⟨n,hn⟩:∃ n,n=(had++List.replicate k false).length:=⟨_,rfl⟩
  have hn2:n=had.length+k:=by rw [hn,List.length_append,List.length_replicate]
  rw [← hn] at hs
  subst hs
  by_cases hlt:k<M
  case pos =>
   have hlt2:(n:Int)<b:=by omega
   obtain ⟨w1,hw1⟩:∃ w1,w1=wr.alloc (.cells #[.bool false] 4 (0,0)):=⟨_,rfl⟩
   have hb1:Below wr.heap.size wr w1:=by rw [hw1];exact (Below.refl _ _).alloc (Nat.le_refl _) _
   have hkb:Blk w1 wr.heap.size 4 (blRow false).toArray:=by rw [hw1];exact Blk.alloc_new wr _ _
   have hz:=hc.size
   obtain ⟨u',w2,r1,r2,r3,r4⟩:=run_append_rows (ty:=80) blRow_len (by omega) under_bools info_bool (by rfl) (by omega) (OwnRow.below ho hb1) (.slice (some ⟨wr.heap.size,0,none⟩) 1 1) [false] (RdRow.one hkb rfl) (fun a _ => blRow_one a) (by rw [← hn];simp;omega) (by rw [← hn];simp;omega) (by have:=hb1.size;omega)
   have HRUN:=Lib.hid r1
   have HFIN:=Lib.hid (show OwnBl w2 B u' (had++List.replicate (k+1) false)∧(u'.ownBlock=hv.ownBlock∨∃ q,u'.ownBlock=some q∧w.heap.size≤q)∧Chg (fun q => hv.ownBlock=some q) w w2 from by
    refine ⟨?_,?_,?_⟩
    · rw [List.replicate_succ',← List.append_assoc];exact r2
    · rcases r4 with e | e
      · rw [e];exact hob
      · exact .inr ⟨_,e,by have:=hb1.size;omega⟩
    · refine Chg.thenOn (Chg.thenOn hc (Chg.of_below (S:=fun _ => False) hb1) (fun _ _ e => e.elim)) (chg_of_grown r3) fun i hi e => ?_
      rcases hob with e2 | ⟨q,e2,e3⟩
      · rw [← e2];exact e
      · rw [e2] at e;injection e with e;omega)
   have HW1:=Lib.hid hw1
   clear hw1 hb1 hkb ho hob hc r1 r2 r3 r4 hn hz
   rw [HW1.out] at HRUN
   go_wp2_with (at_builtin;refine Lib.wpList_append_run _ rfl _ _ _ _ rfl _ _ rfl rfl _ _ HRUN.out ?_)
   go_roundg (M-(k+1))
   case measure => omega
   case rel => exact ⟨k+1,by omega,rfl,HFIN.out.1,HFIN.out.2.1,HFIN.out.2.2⟩
  case neg =>
   obtain rfl:k=M:=by omega
   have hge:¬ (n:Int)<b:=by omega
   have hbn:b≤n:=by omega
   have H1:=Lib.hid (show OwnBl wr B (.slice x n c) (setUp (had++List.replicate k false) a a) from by rw [setUp_start];exact ho)
   have HOB:=Lib.hid hob
   have HC:=Lib.hid hc
   have HN:=Lib.hid hn
   have HZ:=Lib.hid (show B≤wr.heap.size from Nat.le_trans hB hc.size)
   have HSM:=Lib.hid (show setUp (had++List.replicate k false) a b=markN had a b from by rw [HMM.out];exact setUp_mark had a b)
   obtain ⟨l1,hl1⟩:∃ l1,l1=had++List.replicate k false:=⟨_,rfl⟩
   rw [← hl1] at H1 HN HSM
   have hnb:n≤300000000:=by omega
   clear ho hob hc hn hlt hk hl1 H0 hn2 hM2
   go_wp2_with fail
   go_loopg [7] (b-a) (fun g v7 wx => ∃ (i:Nat),v7=.int .i64 i∧a≤i∧i≤b∧g=b-i∧OwnBl wx B (.slice x n c) (setUp l1 a i)∧Chg (fun q => (Value.slice x n c).ownBlock=some q) wr wx)
   case atStart => exact ⟨a,rfl,Nat.le_refl _,hab,rfl,H1.out,Chg.refl _ _⟩
   case round =>
    clear H1
    obtain ⟨i,rfl,hai,hib,rfl,ho,hc⟩:=hrel
    by_cases hlt:i<b
    case pos =>
     have hlt2:(i:Int)<b:=by omega
     have hin:(i:Int)<n:=by omega
     have hil:i<(setUp l1 a i).length:=by rw [setUp_len,← HN.out];omega
     obtain ⟨g,c',hx,_,_,_,hcl⟩:=OwnRow.at_ blRow_len ho i hil
     have hx1:x=some ⟨g,0,none⟩:=by injection hx
     subst hx1
     have d0:=(hcl 0 _ rfl).1
     have f0:=(hcl 0 _ rfl).2
     rw [Nat.mul_one,Nat.add_zero] at d0 f0
     have hp:=OwnRow.put blRow_len ho i hil 0 (.bool true) true (by omega) rfl (n:=n) (c:=c) rfl
     rw [Nat.mul_one,Nat.add_zero,← setUp_next l1 a i hai] at hp
     have hc2:=hc.setCell (p:=⟨g,i,none⟩) (fun _ => rfl) (.bool true)
     obtain ⟨ov,d1⟩:∃ ov,wr.cell? ⟨g,i,none⟩=some ov:=⟨_,d0⟩
     have HFIN:=Lib.hid (And.intro hp hc2)
     clear hx hcl hp hc2 d0 ho hc hil
     go_wp2_with fail
     go_roundg (b-(i+1))
     case measure => omega
     case rel => exact ⟨i+1,by go_num,by omega,by omega,rfl,HFIN.out.1,HFIN.out.2⟩
    case neg =>
     obtain rfl:i=b:=by omega
     have hge2:¬ (i:Int)<i:=by omega
     have HFIN:=Lib.hid (show OwnBl wr B (.slice x n c) (markN had a i)∧Chg (fun q => hv.ownBlock=some q) w wr from ⟨by rw [← HSM.out];exact ho,Chg.thenOn HC.out hc fun q hq e => by
      rcases HOB.out with e2 | ⟨q2,e2,e3⟩
      · rw [← e2];exact e
      · rw [e2] at e;injection e with e;omega⟩)
     clear ho hc hlt
     go_wp2_with fail
     go_ret
     exact ⟨_,rfl,HFIN.out.1,HOB.out,HFIN.out.2⟩
end
end Go.Proofs.YtdacanghbepjpaaGreatDoor
namespace Go.Proofs.YtdacanghbepjpaaGreatDoor
set_option linter.unusedSimpArgs false
set_option linter.unusedVariables false
set_option maxRecDepth 100000
open Go.RowKit Go.Maps
open Dsk
def DE (w0 W:World) (K:Nat→Prop) (jn bd:Nat) (d:Dk):Prop:=∃ P u1 u2,DA w0 P W bd d∧Blk W jn 43 #[.pointer (some ⟨bd,0,none⟩),.pointer u1,.pointer u2]∧¬ P jn∧w0.heap.size≤jn∧∀ k,K k→¬ P k∧k<W.heap.size∧k≠jn
section
variable {w0 w w':World} {K S:Nat→Prop} {jn bd j jx:Nat} {d d':Dk} {h h':Hl} {x x':Dm} {s c k:Nat} {l:List Sg} {t:Str} {dr:Files}
theorem NE.row (n:NE w0 w K jn bd j jx d h x) (c:Chg S w w') (hS:∀ k,S k→k<w.heap.size→K k∧k≠jn∧w0.heap.size≤k):NE w0 w' K jn bd j jx d h x:=by
 obtain ⟨P,n,hK⟩:=n
 exact ⟨P,n.other c fun k hk e => ⟨(hS k e hk).2.2,(hK k (hS k e hk).1).1,(hS k e hk).2.1⟩,fun k e => ⟨(hK k e).1,Nat.lt_of_lt_of_le (hK k e).2 c.size⟩⟩
theorem NE.failAt (n:NE w0 w K jn bd j jx d h x) (m:Int) (hm:m≤9223372036854775807) (kv:Value) (keep:List Int) (hk:KeepR w (fun k => w0.heap.size≤k) kv keep) (hkl:keep.length≤1000000) :
  Calls Tryz.prog 34 #[.pointer (some ⟨bd,0,none⟩),.int .i64 m,kv] w fun e w' => e=.returned (.int .i64 (d.failAt m keep).1)∧NEP w0 w K jn bd j jx (d.failAt m keep).2 h x w':=by
 obtain ⟨P,n,hK⟩:=n
 refine (n.na.failAt m hm kv keep hk hkl).mono ?_
 rintro e w' ⟨rfl,hp⟩
 exact ⟨rfl,(n.acted hp).ne hK⟩
theorem NE.up (n:NE w0 w K jn bd j jx d h x):Calls Tryz.prog 37 #[.pointer (some ⟨bd,0,none⟩)] w fun e w' => e=.returned (.bool (!d.off))∧w=w':=by obtain ⟨P,n,_⟩:=n;exact n.na.up
theorem NE.down (n:NE w0 w K jn bd j jx d h x) (hn:∀ k,K k→k≠jn):DE w0 w K jn bd d:=by
 obtain ⟨P,n,hK⟩:=n
 exact ⟨P,_,_,n.na.disk,n.blk,n.out,n.new,fun k e => ⟨(hK k e).1,(hK k e).2,hn k e⟩⟩
theorem DE.cell (n:DE w0 w K jn bd d):w.cell? ⟨jn,0,none⟩=some (.pointer (some ⟨bd,0,none⟩)):=by obtain ⟨_,_,_,_,h,_⟩:=n;exact h.cell 0
theorem DE.base (n:DE w0 w K jn bd d):Below w0.heap.size w0 w:=by obtain ⟨_,_,_,h,_⟩:=n;exact h.base
theorem DE.start (n:DE w0 w K jn bd d):Calls Tryz.prog 38 #[.pointer (some ⟨bd,0,none⟩)] w fun e w' => e=.returned (.int .i64 d.start.1)∧DE w0 w' K jn bd d.start.2∧Keeps K w w':=by
 obtain ⟨P,u1,u2,hd,hb,ho,hn,hK⟩:=n
 refine hd.start.mono ?_
 rintro e w' ⟨rfl,P',hg,hd',hc⟩
 exact ⟨rfl,⟨P',u1,u2,hd',hb.chg hc ho,hg.not hb.lt ho,hn,fun k e => ⟨hg.not (hK k e).2.1 (hK k e).1,Nat.lt_of_lt_of_le (hK k e).2.1 hc.size,(hK k e).2.2⟩⟩,Chg.mono hc fun k _ e e2 => (hK k e2).1 e⟩
theorem DE.opened (n:DE w0 w K jn bd d) (he:LEnv w0) (hoff:d.off=false) (hs:LSt d l t s dr) (hb:nextOf l≤999999999) {d3:Dk} (h9:openP d l t=(0,d3)) (host:Int) (hh:Po.HostOk host) {a b:Int} (hl:loadD d3=((a,b),0)) :
  Calls Tryz.prog 39 #[.pointer (some ⟨jn,0,none⟩),.int .i64 host] w fun e w' => e=.returned (.bool true)∧∃ j jx,NE w0 w' K jn bd j jx d3 ⟨d.starts,false,l⟩ ⟨host,a,b,noB,0,0⟩∧Keeps K w w':=by
 obtain ⟨P,u1,u2,hd,hbk,ho,hn,hK⟩:=n
 have hop:=hd.opened he hoff hs hb (by rw [h9])
 rw [h9] at hop
 refine (node_open hd hbk ho hn hop host hh hl).mono ?_
 rintro e w' ⟨rfl,j,jx,P',hg,hnd,hc⟩
 exact ⟨rfl,j,jx,⟨P',hnd,fun k e => ⟨hg.not (hK k e).2.1 (hK k e).1,Nat.lt_of_lt_of_le (hK k e).2.1 hc.size⟩⟩,Chg.mono hc fun k _ e e2 => e.elim (hK k e2).1 (hK k e2).2.2⟩
end
end Go.Proofs.YtdacanghbepjpaaGreatDoor
namespace Go.Proofs.YtdacanghbepjpaaGreatDoor
set_option linter.unusedSimpArgs false
set_option linter.unusedVariables false
set_option maxRecDepth 100000
open Go.RowKit Go.Maps
open Dsk
structure CrM (w wx:World) (K:Nat→Prop) (jn qc:Nat) (a b:Int) (hv:Value) (had:List Bool):Prop where
 cur:Blk wx qc 30 #[.int .i64 a,.int .i64 b]
 row:OwnBl wx w.heap.size hv had
 kq:K qc
 kr:∀ q,hv.ownBlock=some q→K q∧q≠qc
 kn:∀ q,K q→q≠jn∧w.heap.size≤q
section
variable {w0 w w':World} {K S:Nat→Prop} {jn bd j jx qc:Nat} {a b a' b' many now:Int} {hv u:Value} {had had':List Bool} {d d':Dk} {h h':Hl} {x x':Dm} {s c k:Nat}
theorem NE.rowAdd (n:NE w0 w K jn bd j jx d h x) (c:Chg S w w') (hS:∀ k,S k→k<w.heap.size→K k∧k≠jn∧w0.heap.size≤k):NE w0 w' (Also K w w') jn bd j jx d h x:=by
 obtain ⟨P,n,hK⟩:=n
 refine ⟨P,n.other c fun k hk e => ⟨(hS k e hk).2.2,(hK k (hS k e hk).1).1,(hS k e hk).2.1⟩,fun k e => ?_⟩
 rcases e with e | e
 · exact ⟨(hK k e).1,Nat.lt_of_lt_of_le (hK k e).2 c.size⟩
 · exact ⟨fun e2 => by have:=n.na.lt k e2;omega,e.2⟩
theorem NE.jlt (n:NE w0 w K jn bd j jx d h x):jn<w.heap.size:=by obtain ⟨P,n,_⟩:=n;exact n.blk.lt
theorem CrM.keeps (m:CrM w0 w K jn qc a b hv had) (c:Keeps K w w'):CrM w0 w' K jn qc a b hv had :=
 ⟨m.cur.chg c fun e => e m.kq,OwnRow.chg m.row (show Chg (fun k => ¬ K k) w w' from c) fun q hq e => e (m.kr q hq).1,m.kq,m.kr,m.kn⟩
theorem CrM.below (m:CrM w0 w K jn qc a b hv had) (y:Below w.heap.size w w'):CrM w0 w' K jn qc a b hv had:=m.keeps (Keeps.below y)
theorem CrM.add (m:CrM w0 w K jn qc a b hv had) (hj:jn<w.heap.size) (hw:w0.heap.size≤w.heap.size) (y:Below w.heap.size w w'):CrM w0 w' (Also K w w') jn qc a b hv had :=
 ⟨m.cur.below y,OwnRow.below m.row y,.inl m.kq,fun q hq => ⟨.inl (m.kr q hq).1,(m.kr q hq).2⟩,fun q hq => by
  rcases hq with hq | hq
  · exact m.kn q hq
  · omega⟩
theorem CrM.marked (m:CrM w0 w K jn qc a b hv had) (hj:jn<w.heap.size) (hw:w0.heap.size≤w.heap.size) (hr:OwnBl w' w0.heap.size u had') (hu:u.ownBlock=hv.ownBlock∨∃ q,u.ownBlock=some q∧w.heap.size≤q) (c:Chg (fun q => hv.ownBlock=some q) w w'):CrM w0 w' (Also K w w') jn qc a b u had' :=
 ⟨m.cur.chg c fun e => (m.kr qc e).2 rfl,hr,.inl m.kq,fun q hq => by
  rcases hu with e | ⟨q2,e,e2⟩
  · rw [e] at hq
    exact ⟨.inl (m.kr q hq).1,(m.kr q hq).2⟩
  · rw [e] at hq
    injection hq with hq
    subst hq
    exact ⟨.inr ⟨e2,(OwnRow.lt hr q2 e).2⟩,by have:=m.cur.lt;omega⟩,fun q hq => by
  rcases hq with hq | hq
  · exact m.kn q hq
  · omega⟩
theorem CrM.rowS (m:CrM w0 w K jn qc a b hv had):∀ k,hv.ownBlock=some k→k<w.heap.size→K k∧k≠jn∧w0.heap.size≤k:=fun k hk _ => ⟨(m.kr k hk).1,(m.kn k (m.kr k hk).1).1,(m.kn k (m.kr k hk).1).2⟩
theorem CrM.turn (m:CrM w0 w K jn qc a b hv had):CrM w0 ((w.setCell ⟨qc,0,none⟩ (.int .i64 a')).setCell ⟨qc,1,none⟩ (.int .i64 b')) K jn qc a' b' hv had∧Chg (fun k => k=qc) w ((w.setCell ⟨qc,0,none⟩ (.int .i64 a')).setCell ⟨qc,1,none⟩ (.int .i64 b')):=by
 have hc:Chg (fun k => k=qc) w ((w.setCell ⟨qc,0,none⟩ (.int .i64 a')).setCell ⟨qc,1,none⟩ (.int .i64 b')):=((Chg.refl (fun k => k=qc) w).setCell (p:=⟨qc,_,none⟩) (fun _ => rfl) _).setCell (p:=⟨qc,_,none⟩) (fun _ => rfl) _
 have hb:=(m.cur.set 0 (.int .i64 a')).set 1 (.int .i64 b')
 simp only [List.setIfInBounds_toArray,List.set_cons_zero,List.set_cons_succ] at hb
 exact ⟨⟨hb,OwnRow.chg m.row hc fun q hq e => (m.kr q hq).2 e,m.kq,m.kr,m.kn⟩,hc⟩
theorem CrM.turnS (m:CrM w0 w K jn qc a b hv had):∀ k,k=qc→k<w.heap.size→K k∧k≠jn∧w0.heap.size≤k:=fun k hk _ => by rw [hk];exact ⟨m.kq,(m.kn qc m.kq).1,(m.kn qc m.kq).2⟩
theorem step_sent (now:Int) (d:Dk) (h:Hl) (x:Dm):(stepC now d h x).2.1.sent=x.sent∨(stepC now d h x).2.1.sent=now:=by
 have hk:∀ a b,(keepC d x a b).2.1.sent=x.sent:=fun a b => by
  unfold keepC
  simp only
  split <;> rfl
 have hs:(skipC d h x).2.1.sent=x.sent:=by
  unfold skipC
  split
  · rfl
  · exact hk _ _
 have hb:∀ (d2:Dk) (y:Dm),(batC d2 h y).2.1.sent=y.sent:=fun d2 y => by
  unfold batC
  split
  · rfl
  · split <;> rfl
 have hg:(gatherC d h x).2.1.sent=x.sent:=by
  unfold gatherC
  simp only
  split
  · exact hs
  · rw [hb];exact hs
 unfold stepC
 split
 · exact .inl rfl
 · split
   · split
     · exact .inl rfl
     · exact .inr rfl
   · simp only
     split
     · exact .inl hg
     · exact .inr rfl
theorem take_sent (b:Po.Str) (d:Dk) (x:Dm):(takeC b d x).2.1.sent=x.sent:=by
 have hk:∀ a b,(keepC d x a b).2.1.sent=x.sent:=fun a b => by
  unfold keepC
  simp only
  split <;> rfl
 unfold takeC
 split
 · rfl
 · split
   · rfl
   · split
     · rfl
     · simp only
       split
       · exact hk _ _
       · exact hk _ _
def CrW (w wr:World) (jn bd qc:Nat) (hv:Value) (many now:Int) (k:Nat):Prop :=
 ∃ K j jx d h s x had,NE w wr K jn bd j jx d h x∧CrI d h s x had many k∧CrM w wr K jn qc x.next x.gap hv had∧0≤x.sent∧x.sent≤now
def CrUp (w wr:World) (jn bd qc:Nat) (a b:Int) (hv:Value) (many now:Int) (k:Nat):Prop :=
 ∃ K j jx d h s x had,NE w wr K jn bd j jx d h x∧CrI d h s x had many k∧CrM w wr K jn qc a b hv had∧0≤x.sent∧x.sent≤now∧a≤x.next∧b≤x.gap
def CrDn (w wr:World) (jn bd qc:Nat) (a b:Int) (hv:Value) (k:Nat):Prop :=
 ∃ K d h s x had d',DE w wr K jn bd d'∧CrD d h s x d' had k∧CrM w wr K jn qc a b hv had∧x.next=a∧x.gap=b
theorem CrDn.up (c:CrDn w0 w jn bd qc a b hv k) (hk:k≤200):Calls Tryz.prog 37 #[.pointer (some ⟨bd,0,none⟩)] w (fun e w' => e=.returned (.bool false)∧w=w')∧w.cell? ⟨jn,0,none⟩=some (.pointer (some ⟨bd,0,none⟩)):=by
 obtain ⟨K,d,h,s,x,had,d',de,cd,m,e1,e2⟩:=c
 refine ⟨?_,de.cell⟩
 obtain ⟨P,u1,u2,hd,_⟩:=de
 have:=hd.up
 rw [(cd.again hk).1] at this
 exact this
theorem CrUp.up (c:CrUp w0 w jn bd qc a b hv many now k):Calls Tryz.prog 37 #[.pointer (some ⟨bd,0,none⟩)] w (fun e w' => e=.returned (.bool true)∧w=w')∧w.cell? ⟨jn,0,none⟩=some (.pointer (some ⟨bd,0,none⟩)):=by
 obtain ⟨K,j,jx,d,h,s,x,had,n,i,_⟩:=c
 refine ⟨?_,n.cells.1⟩
 have:=n.up
 rw [i.node.off] at this
 exact this
def CrSt (w wr:World) (jn bd qc:Nat) (a b:Int) (hv:Value) (k:Nat):Prop :=
 ∃ K d h s x had d',DE w wr K jn bd d'.start.2∧CrD d h s x d' had k∧CrM w wr K jn qc a b hv had∧x.next=a∧x.gap=b
theorem CrDn.start (c:CrDn w0 w jn bd qc a b hv k) (hk:k≤200):Calls Tryz.prog 38 #[.pointer (some ⟨bd,0,none⟩)] w fun e w' => e=.returned (.int .i64 0)∧CrSt w0 w' jn bd qc a b hv k:=by
 obtain ⟨K,d,h,s,x,had,d',de,cd,m,e1,e2⟩:=c
 refine de.start.mono ?_
 rintro e w' ⟨rfl,hde,hkp⟩
 rw [(cd.again hk).2.1]
 exact ⟨rfl,K,d,h,s,x,had,d',hde,cd,m.keeps hkp,e1,e2⟩
theorem CrSt.again (c:CrSt w0 w jn bd qc a b hv k) (he:LEnv w0) (hk:k≤200) (now:Int) (hnow:0≤now):Calls Tryz.prog 39 #[.pointer (some ⟨jn,0,none⟩),.int .i64 1] w fun e w' => e=.returned (.bool true)∧CrUp w0 w' jn bd qc a b hv 0 now k:=by
 obtain ⟨K,d,h,s,x,had,d',de,cd,m,rfl,rfl⟩:=c
 obtain ⟨_,_,a3,l',t',dr,a4,a5,d3,s3,a6,a7,a8⟩:=cd.again hk
 refine (de.opened he a3 a4 a5 a6 1 (by decide) a7).mono ?_
 rintro e w' ⟨rfl,j,jx,hn,hkp⟩
 exact ⟨rfl,K,j,jx,d3,_,s3,_,had,hn,a8,m.keeps hkp,Int.le_refl _,hnow,Int.le_refl _,Int.le_refl _⟩
end
end Go.Proofs.YtdacanghbepjpaaGreatDoor
namespace Go.Proofs.YtdacanghbepjpaaGreatDoor
set_option linter.unusedSimpArgs false
set_option linter.unusedVariables false
set_option maxRecDepth 100000
open Go.RowKit Go.Maps
open Dsk
section
variable {w wr:World} {K:Nat→Prop} {jn bd j jx qc:Nat} {a b many now:Int} {hv:Value} {had had':List Bool} {d d':Dk} {h h':Hl} {x x':Dm} {s k:Nat}
theorem CrI.fw (i:CrI d h s x had many k) (hk:k≤200):Few d h s x:=by
 obtain ⟨b1,b2,b3,_⟩:=i.few hk
 exact ⟨i.node,b3,b1,b2⟩
theorem cr_writes (n:NE w wr K jn bd j jx d h x) (i:CrI d h s x had many k) (m:CrM w wr K jn qc a b hv had) (ha:x.next=a) (hb:x.gap=b) (h1:0≤x.sent) (h2:x.sent≤now) (he:LEnv w) (hk:k≤150) (z:DAct) (hz:DActOk z) (hlt:z.kind % 9<5) :
  Calls Tryz.prog 25 #[.pointer (some ⟨jn,0,none⟩),.agg (dactC z).toArray] wr fun e w' => e=.returned (.bool true)∧(CrUp w w' jn bd qc a b hv many now (k+1)∨CrDn w w' jn bd qc a b hv (k+1)):=by
 subst ha hb
 refine (n.writes he (i.fw (by omega)) z hz).mono ?_
 rintro e w' ⟨rfl,n',kp⟩
 rw [decide_eq_true hlt]
 refine ⟨rfl,?_⟩
 rcases i.wr (by omega) z.kind z.n z.s with ⟨s',i'⟩ | c
 · exact .inl ⟨K,j,jx,_,_,s',x,had,n',i',m.keeps kp,h1,h2,Int.le_refl _,Int.le_refl _⟩
 · exact .inr ⟨K,d,h,s,x,had,_,n'.down fun q hq => (m.kn q hq).1,c,m.keeps kp,rfl,rfl⟩
theorem cr_writes_no (n:NE w wr K jn bd j jx d h x) (i:CrI d h s x had many k) (he:LEnv w) (hk:k≤150) (z:DAct) (hz:DActOk z) (hge:¬ z.kind % 9<5) :
  Calls Tryz.prog 25 #[.pointer (some ⟨jn,0,none⟩),.agg (dactC z).toArray] wr fun e w' => e=.returned (.bool false)∧NE w w' K jn bd j jx d h x∧Keeps K wr w':=by
 refine (n.writes he (i.fw (by omega)) z hz).mono ?_
 rintro e w' ⟨rfl,n',kp⟩
 rw [decide_eq_false hge]
 have hw:wrP z.kind z.n z.s d h=(0,h,d):=by unfold wrP;rw [if_neg (by omega),if_neg (by omega),if_neg (by omega),if_neg (by omega)]
 rw [hw] at n'
 exact ⟨rfl,n',kp⟩
theorem cr_step (n:NE w wr K jn bd j jx d h x) (i:CrI d h s x had many k) (m:CrM w wr K jn qc a b hv had) (ha:x.next=a) (hb:x.gap=b) (h1:0≤x.sent) (h2:x.sent≤now) (h3:now≤1000000) (he:LEnv w) (hk:k≤150) :
  Calls Tryz.prog 14 #[.pointer (some ⟨jx,0,none⟩),.int .i64 now] wr fun e w' =>
   (∃ r,e=.returned (.tuple #[.string noB,.int .i64 r])∧(CrUp w w' jn bd qc a b hv many now (k+1)∨CrDn w w' jn bd qc a b hv (k+1))) ∨
   (∃ (r nx:Int) (ss:List Sp.Span) (K:Nat→Prop) (j jx:Nat) (d:Dk) (h:Hl) (s:Nat) (x':Dm) (had:List Bool),e=.returned (.tuple #[.string (batchB 1 nx ss),.int .i64 r])∧(1≤ss.length∧ss.length≤8)∧(∀ y∈ss,Sp.May y)∧Po.RecOk nx∧Po.RecOk (nx+ss.length)∧NE w w' K jn bd j jx d h x'∧CrI d h s x' had ss.length (k+1)∧CrM w w' K jn qc a b hv had∧0≤x'.sent∧x'.sent≤now∧a≤x'.next∧b≤x'.gap∧x'.next=nx):=by
 subst ha hb
 refine (n.step he (i.fw (by omega)) now ⟨by omega,by omega⟩ rfl).mono ?_
 rintro e w' ⟨rfl,n',kp⟩
 have hs:=step_sent now d h x
 obtain ⟨R,hR⟩:∃ R,R=stepC now d h x:=⟨_,rfl⟩
 rcases i.step (by omega) now with ⟨ho,g1,g2⟩ | ⟨e1,e2,c⟩
 · rw [← hR] at n' hs ho g1 g2 ⊢
   obtain ⟨⟨bt,r⟩,x',d'⟩:=R
   simp only at n' hs ho g1 g2 ⊢
   have hs2:0≤x'.sent∧x'.sent≤now:=by omega
   rcases ho with ⟨rfl,i'⟩ | ⟨hb,rfl,i'⟩
   · exact .inl ⟨r,rfl,.inl ⟨K,j,jx,_,_,s,x',had,n',i',m.keeps kp,hs2.1,hs2.2,g1,g2⟩⟩
   · right
     rcases i'.node.out with ⟨e9,_⟩ | ⟨ss,e1,e2,e3,e4,e5,e6⟩
     · exact absurd e9 hb
     · have hn:=i'.next
       have hsu:=sureOf_le h.l s
       have hgp:=i'.node.gap
       rw [e1,i'.host]
       rw [e2] at i'
       exact ⟨r,x'.next,ss,K,j,jx,d',h,s,x',had,rfl,⟨e3,e4⟩,e5,⟨by omega,by omega⟩,⟨by omega,by omega⟩,n',i',m.keeps kp,hs2.1,hs2.2,g1,g2,rfl⟩
 · left
   rw [e1]
   exact ⟨_,rfl,.inr ⟨K,d,h,s,x,had,_,n'.down fun q hq => (m.kn q hq).1,c,m.keeps kp,rfl,rfl⟩⟩
end
def nav:List Nat→Code→Code
 | [],c => c
 | 0::p,.seq a _ => nav p a
 | 1::p,.seq _ b => nav p b
 | 2::p,.cond _ a _ => nav p a
 | 3::p,.cond _ _ b => nav p b
 | 4::p,.block _ c => nav p c
 | 4::p,.loop c => nav p c
 | 4::p,.scope c => nav p c
 | _,c => c
noncomputable def crC (p:List Nat):Code:=nav p ((Tryz.f7.body).getD .skip)
end Go.Proofs.YtdacanghbepjpaaGreatDoor
