/- Arguments that hold structs: each field's own reading. Rows of elements of several cells: read, owned, appended to, one cell stored. Rows of numbers: one of the call's own; one that is only read. Rows of strings: one of the call's own; one that is only read. The disk in memory, and what each of its small functions computes. The disk's small functions, walked. The disk's names, sizes. The disk's Unsynced; whether it crashes with a change. The disk's crash. The disk's crash: the loop over all files. The disk's changes. -/
import Derived.Test.YtdacanghbepjpaaGreatDoorM2
import Derived.Deep.Slices
import Derived.Deep.Fields
import Derived.SliceStrings
import Derived.ProofKit
import Derived.OpenShut
import Derived.Test.YtdacanghbepjpaaGreatDoorIter
import Derived.Maps.OwnSet
import Derived.Maps.OwnOps
import Derived.StillTailTactics
import Derived.Deep.QuietTactic
import Derived.Laws.EntriesVeiled
namespace Go.Proofs.YtdacanghbepjpaaGreatDoor
set_option linter.unusedSimpArgs false
set_option linter.unusedVariables false
open Go.RowKit
open Go.WideShapes Go.ChangeAt Go.Deep
open Go.ChangeShapes (open_ints)
theorem add_none (b off k:Nat):(⟨b,off,none⟩:Addr).add k=⟨b,off+k,none⟩:=by unfold Addr.add;split <;> simp_all
section
variable {H:Type} {enc:TypeId×Value→H} {P:Program} {w:World} {base:Nat} {spare:Nat→Bool} {held:Bool}
theorem fieldsOf {t:TypeId} {fs:Array Field} {fuel:Nat} {cs:List Value} {x:DataW H×List MemPlace} (ht:P.underlying t=some (.struct fs)) (hone:oneCellFields P fs=true) (hC:P.cellsOf t=fs.size)
  (h:DataW.trod enc P w base spare held fuel t cs=some x):cs.length=fs.size∧∃ n,∀ (j:Nat) (f:Field),fs[j]?=some f→∃ v y,cs[j]?=some v∧DataW.trod enc P w base spare held n f.type [v]=some y:=by
 obtain ⟨ys,n,_,_,hlen,hyl,hf⟩:=DataW.trod_struct ht h
 rw [hC] at hlen
 refine ⟨hlen,n,fun j f hj => ?_⟩
 obtain ⟨ho,hk⟩:=hone_of hone j f hj
 have hjl:j<fs.size:=(Array.getElem?_eq_some_iff.1 hj).1
 have h1:=hf j f hj
 rw [ho,hk,List.drop_eq_getElem_cons (show j<cs.length by omega)] at h1
 refine ⟨cs[j]'(by omega),ys[j]'(by omega),List.getElem?_eq_getElem (by omega),?_⟩
 rw [List.getElem?_eq_getElem (show j<ys.length by omega)] at h1
 exact h1
theorem fieldVal {fs:Array Field} {cs:List Value} {n:Nat} (hf:∀ (j:Nat) (f:Field),fs[j]?=some f→∃ v y,cs[j]?=some v∧DataW.trod enc P w base spare held n f.type [v]=some y)
  (j:Nat) (t:TypeId) (h:(fs[j]?).map (·.type)=some t):∃ v y,cs[j]?=some v∧DataW.trod enc P w base spare held n t [v]=some y:=by
 obtain ⟨f,hj,rfl⟩:=Option.map_eq_some_iff.1 h
 exact hf j f hj
theorem rowOf {t e:TypeId} {fs:Array Field} {fuel:Nat} {a:Option Addr} {len cap:Nat} {x:DataW H×List MemPlace} (ht:P.underlying t=some (.slice e)) (hC:P.cellsOf e=fs.size) (hpos:0<fs.size)
  (h:DataW.trod enc P w base spare held fuel t [.slice a len cap]=some x) :
  len≤maxLen∧(a=none→len=0∧cap=0)∧∀ i,i<len→∃ b off cs n,a=some ⟨b,off,none⟩∧b<w.heap.size∧cs.length=fs.size∧(∀ j,j<fs.size→w.cell? ⟨b,off+(i*fs.size+j),none⟩=cs[j]?)∧∃ y,DataW.trod enc P w base spare held n e cs=some y:=by
 rcases Go.Deep.open_slice ht h with ⟨h0,_⟩ | ⟨a',len',cap',m,n,D,Pl,hcs,hb,hl,hm,hmm,hx,hi⟩
 · simp at h0
   obtain ⟨rfl,rfl,rfl⟩:=h0
   exact ⟨Nat.zero_le _,fun _ => ⟨rfl,rfl⟩,fun i hi => absurd hi (by omega)⟩
 · simp at hcs
   obtain ⟨rfl,rfl,rfl⟩:=hcs
   refine ⟨by omega,fun e => (by cases e),fun i hlt => ?_⟩
   obtain ⟨cs',hc,htr⟩:=hi i (by rw [hmm];split <;> omega)
   rw [hC] at hc
   obtain ⟨_,hcl,hat⟩:=World.cells?_some hc
   obtain ⟨cs0,hc0,_⟩:=hi 0 (by rw [hmm];split <;> omega)
   rw [hC,Nat.zero_mul] at hc0
   obtain ⟨_,hcl0,hat0⟩:=World.cells?_some hc0
   have h0:=hat0 0 hpos
   rw [List.getElem?_eq_getElem (show 0<cs0.length by omega)] at h0
   have e0:∀ x:Addr,x.add 0=x:=fun x => by unfold Addr.add;simp
   rw [e0,e0] at h0
   obtain ⟨b,off,spot⟩:=a'
   have hspot:spot=none:=World.cell?_spot h0
   subst hspot
   have ea:∀ j,(((⟨b,off,none⟩:Addr).add (i*fs.size)).add j)=⟨b,off+(i*fs.size+j),none⟩:=fun j => by
    rw [add_none,add_none,Nat.add_assoc]
   refine ⟨b,off,cs',n,rfl,?_,hcl,fun j hj => ?_,_,htr⟩
   · rcases Nat.lt_or_ge b w.heap.size with hlt | hge
     · exact hlt
     · simp [World.cell?,Array.getElem?_eq_none hge] at h0
   · rw [← ea j];exact hat j hj
end
end Go.Proofs.YtdacanghbepjpaaGreatDoor
namespace Go.Proofs.YtdacanghbepjpaaGreatDoor
set_option linter.unusedSimpArgs false
set_option linter.unusedVariables false
set_option maxRecDepth 100000
open Go.RowKit
section
variable {α:Type} {row:α→List Value} {z:Nat}
theorem rows_length (hz:∀ a,(row a).length=z):∀ l:List α,(l.flatMap row).length=l.length*z
 | [] => by simp
 | a::l => by rw [List.flatMap_cons,List.length_append,rows_length hz l,hz,List.length_cons,Nat.succ_mul,Nat.add_comm]
theorem rows_get (hz:∀ a,(row a).length=z):∀ (l:List α) (j i:Nat) (hj:j<l.length),i<z→(l.flatMap row)[j*z+i]?=(row l[j])[i]?
 | [],j,i,hj,_ => absurd hj (by simp)
 | a::l,0,i,hj,hi => by rw [List.flatMap_cons,Nat.zero_mul,Nat.zero_add,List.getElem?_append_left (by rw [hz];exact hi)];rfl
 | a::l,j+1,i,hj,hi => by
  rw [List.flatMap_cons,List.getElem?_append_right (by rw [hz,Nat.succ_mul];omega),hz,show (j+1)*z+i-z=j*z+i by rw [Nat.succ_mul];omega]
  exact rows_get hz l j i (by simpa using hj) hi
variable (row z)
def RdRow (w:World) (v:Value) (l:List α):Prop :=
 ∃ x c,v=.slice x l.length c∧l.length≤c∧∀ (j:Nat) (hj:j<l.length),∃ b off,x=some ⟨b,off,none⟩∧b<w.heap.size∧∀ i u,(row l[j])[i]?=some u→w.cell? ⟨b,off+j*z+i,none⟩=some u
def OwnRow (e:TypeId) (w:World) (B:Nat) (v:Value) (l:List α):Prop:=w.ownsRow B e z v l.length (l.flatMap row)
variable {row z} {e:TypeId} {w w':World} {B:Nat} {v:Value} {l:List α} {S:Nat→Prop}
theorem RdRow.chg (h:RdRow row z w v l) (x:Chg S w w') (hS:∀ k,v.ownBlock=some k→¬ S k):RdRow row z w' v l:=by
 obtain ⟨y,c,rfl,hc,hx⟩:=h
 refine ⟨y,c,rfl,hc,fun j hj => ?_⟩
 obtain ⟨b,off,rfl,hb,h1⟩:=hx j hj
 exact ⟨b,off,rfl,Nat.lt_of_lt_of_le hb x.size,fun i u hu => (x.cell (p:=⟨b,_,none⟩) hb (hS b rfl)).trans (h1 i u hu)⟩
theorem RdRow.below (h:RdRow row z w v l) (x:Below w.heap.size w w'):RdRow row z w' v l:=h.chg (S:=fun _ => False) (Chg.of_below x) fun _ _ e => e
theorem OwnRow.nil (w:World) (B:Nat):OwnRow row z e w B (.slice none 0 0) ([]:List α):=World.ownsRow_nil w B _ _
theorem OwnRow.lt (h:OwnRow row z e w B v l):∀ k,v.ownBlock=some k→B≤k∧k<w.heap.size:=World.ownsRow.lt h
theorem OwnRow.chg (h:OwnRow row z e w B v l) (x:Chg S w w') (hS:∀ k,v.ownBlock=some k→¬ S k):OwnRow row z e w' B v l:=by
 have hlt:=World.ownsRow.lt h
 obtain ⟨h1,h2⟩:=h
 refine ⟨h1,?_⟩
 rcases h2 with h2 | ⟨g,cap,cur,hv,hg,hh,r⟩
 · exact .inl h2
 · refine .inr ⟨g,cap,cur,hv,hg,?_,r⟩
   rw [x.block g (hlt g (by rw [hv];rfl)).2 (hS g (by rw [hv];rfl)),hh]
theorem OwnRow.below (h:OwnRow row z e w B v l) (x:Below w.heap.size w w'):OwnRow row z e w' B v l:=h.chg (S:=fun _ => False) (Chg.of_below x) fun _ _ e => e
theorem OwnRow.base (h:OwnRow row z e w B v l) {B':Nat} (hB:B'≤B):OwnRow row z e w B' v l:=by
 obtain ⟨h1,h2⟩:=h
 refine ⟨h1,?_⟩
 rcases h2 with h2 | ⟨g,cap,cur,hv,hg,r⟩
 · exact .inl h2
 · exact .inr ⟨g,cap,cur,hv,Nat.le_trans hB hg,r⟩
theorem OwnRow.shape (h:OwnRow row z e w B v l):∃ x c,v=.slice x l.length c:=by
 rcases h.2 with ⟨rfl,hn⟩ | ⟨g,cap,cur,rfl,_⟩
 · exact ⟨none,0,by rw [hn]⟩
 · exact ⟨_,cap,rfl⟩
theorem OwnRow.rd (hz:∀ a,(row a).length=z) (h:OwnRow row z e w B v l):RdRow row z w v l:=by
 have hlt:=World.ownsRow.lt h
 have hcs:=fun g (hg:v.ownBlock=some g) => World.ownsRow.cells h hg
 obtain ⟨_,h4⟩:=h
 rcases h4 with ⟨rfl,hn⟩ | ⟨g,cap,cur,hv,hg,hh,hnc,_⟩
 · exact ⟨none,0,by rw [hn],by omega,fun j hj => absurd hj (by omega)⟩
 · refine ⟨some ⟨g,0,none⟩,cap,hv,hnc,fun j hj => ⟨g,0,rfl,(hlt g (by rw [hv];rfl)).2,fun i u hu => ?_⟩⟩
   have hi:i<z:=by have:=(List.getElem?_eq_some_iff.1 hu).1;rw [hz] at this;exact this
   have e:(⟨g,0,none⟩:Addr).add (j*z+i)=⟨g,0+j*z+i,none⟩:=by rw [add_none,Nat.add_assoc]
   rw [← e]
   refine hcs g (by rw [hv];rfl) _ _ ?_
   rw [rows_get hz _ j i hj hi]
   exact hu
theorem OwnRow.at_ (hz:∀ a,(row a).length=z) (h:OwnRow row z e w B v l) (j:Nat) (hj:j<l.length):∃ g c,v=.slice (some ⟨g,0,none⟩) l.length c∧l.length≤c∧B≤g∧g<w.heap.size∧∀ i u,(row l[j])[i]?=some u→w.cell? ⟨g,j*z+i,none⟩=some u∧w.frozen? ⟨g,j*z+i,none⟩=false:=by
 have hlt:=World.ownsRow.lt h
 have hcs:=fun g (hg:v.ownBlock=some g) => World.ownsRow.cells h hg
 obtain ⟨_,h4⟩:=h
 rcases h4 with ⟨rfl,hn⟩ | ⟨g,cap,cur,hv,hg,hh,hnc,_⟩
 · omega
 · refine ⟨g,cap,hv,hnc,hg,(hlt g (by rw [hv];rfl)).2,fun i u hu => ⟨?_,?_⟩⟩
   · have hi:i<z:=by have:=(List.getElem?_eq_some_iff.1 hu).1;rw [hz] at this;exact this
     have e:(⟨g,0,none⟩:Addr).add (j*z+i)=⟨g,j*z+i,none⟩:=by rw [add_none,Nat.zero_add]
     rw [← e]
     refine hcs g (by rw [hv];rfl) _ _ ?_
     rw [rows_get hz _ j i hj hi]
     exact hu
   · exact Blk.free (t:=e) (cs:=cur) hh _
theorem OwnRow.put (hz:∀ a,(row a).length=z) (h:OwnRow row z e w B v l) (j:Nat) (hj:j<l.length) (i:Nat) (u:Value) (a:α) (hi:i<z) (ha:row a=(row l[j]).set i u) {g n c:Nat} (hv:v=.slice (some ⟨g,0,none⟩) n c) :
  OwnRow row z e (w.setCell ⟨g,j*z+i,none⟩ u) B v (l.set j a):=by
 obtain ⟨h1,h4⟩:=h
 refine ⟨by rw [List.length_set,rows_length hz,List.length_set],?_⟩
 rcases h4 with ⟨rfl,hn⟩ | ⟨g',cap,cur,hv',hg,hh,hnc,hm,hs,ht⟩
 · cases hv
 · rw [hv] at hv'
   injection hv' with e1 e2 e3
   injection e1 with e1
   injection e1 with e1 _ _
   subst e1 e2 e3
   rw [List.length_set]
   refine .inr ⟨g,c,cur.setIfInBounds (j*z+i) u,hv,hg,?_,hnc,hm,by simpa using hs,?_⟩
   · have hb:Blk w g e cur:=hh
     exact hb.set (j*z+i) u
   · have hlt:j*z+i<l.length*z:=by
      have:(j+1)*z≤l.length*z:=Nat.mul_le_mul_right z hj
      rw [Nat.succ_mul] at this
      omega
     apply List.ext_getElem?
     intro k
     have hk:(cur.toList.take (l.length*z))[k]?=(l.flatMap row)[k]?:=by rw [ht]
     rw [List.getElem?_take] at hk ⊢
     rw [Array.toList_setIfInBounds,List.getElem?_set]
     by_cases hkl:k<l.length*z
     · rw [if_pos hkl] at hk ⊢
       have hz0:0<z:=by omega
       have hq:k / z<l.length:=Nat.div_lt_of_lt_mul (by rw [Nat.mul_comm];exact hkl)
       have hd:k=k / z*z+k % z:=by rw [Nat.mul_comm];exact (Nat.div_add_mod k z).symm
       have hr:k % z<z:=Nat.mod_lt _ hz0
       have hg1:=rows_get hz (l.set j a) (k / z) (k % z) (by rw [List.length_set];exact hq) hr
       have hg2:=rows_get hz l (k / z) (k % z) hq hr
       rw [← hd] at hg1 hg2
       rw [hg1,List.getElem_set]
       rw [hg2] at hk
       by_cases hjk:j=k / z
       · subst hjk
         rw [if_pos rfl,ha,List.getElem?_set]
         by_cases hik:i=k % z
         · rw [if_pos hik,if_pos (by omega)]
           have hcs:k<cur.toList.length:=by rw [Array.length_toList,hs];exact Nat.lt_of_lt_of_le hkl (Nat.mul_le_mul_right z hnc)
           simp only [Array.length_toList] at hcs
           rw [if_pos (by rw [Array.length_toList];omega),if_pos (by rw [hz,hik];exact hr)]
         · rw [if_neg hik,if_neg (by omega)]
           exact hk
       · rw [if_neg hjk,if_neg ?_]
         · exact hk
         · intro e2
           apply hjk
           rw [← e2,Nat.mul_comm,Nat.mul_add_div hz0,Nat.div_eq_of_lt hi,Nat.add_zero]
     · rw [if_neg hkl]
       symm
       apply List.getElem?_eq_none
       rw [rows_length hz,List.length_set]
       omega
theorem run_append_rows {sl ty:TypeId} {zero:Value} {bz:Nat} (hz:∀ a,(row a).length=z) (hz0:0<z) (hsl:Tryz.prog.underlying sl=some (.slice e)) (hinfo:(Tryz.prog.info? e).map (fun i => (i.zero,i.size,i.bytes))=some (some zero,z,bz)) (hzc:zero.cells.size=z) (hbz:0<bz)
  (hown:OwnRow row z e w B v l) (x:Value) (m:List α) (hx:RdRow row z w x m) (hone:∀ a∈m,∀ u∈row a,u.oneCell'=true) (hl:l.length+m.length≤140737488355327) (hl2:(l.length+m.length)*bz≤140737488355328) (hB:B≤w.heap.size) :
  ∃ v' w',(Builtin.append_ #[sl,sl] ty #[v,x]).run Tryz.prog w=.ok v' w'∧OwnRow row z e w' B v' (l++m)∧w.grownBy w' v.ownBlock∧(v'.ownBlock=v.ownBlock∨v'.ownBlock=some w.heap.size):=by
 obtain ⟨i0,hi,h0,h1,h2⟩:=info_parts hinfo
 obtain ⟨y,c,rfl,_,hc⟩:=hx
 by_cases hm:m.length=0
 · obtain rfl:=List.length_eq_zero_iff.1 hm
   refine ⟨v,w,?_,by rw [List.append_nil];exact hown,⟨rfl,rfl,rfl,Nat.le_refl _,fun _ _ _ => rfl⟩,.inl rfl⟩
   rcases hown.2 with ⟨rfl,hn⟩ | ⟨g,cap,cur,rfl,_,_,hnc,_⟩ <;> cases y
   all_goals simp [Builtin.append_,run_underlying hsl,sizeOf,typeInfo,hi,Builtin.lenOf,Builtin.firstCells,storeCells,loadCells,loadCellsFrom, *]
 · obtain ⟨b,off,rfl,_⟩:=hc 0 (by omega)
   obtain ⟨v',w',g1,g2,g3,_,g5⟩:=run_append_own_at (P:=Tryz.prog) w B sl ty e i0 zero z bz hsl hi h0 h1 h2 hzc hz0 v l.length (l.flatMap row) hown ⟨b,off,none⟩ m.length c (m.flatMap row) (rows_length hz m) (fun j u hj => by
    have hj':j<m.length*z:=by
     have:=(List.getElem?_eq_some_iff.1 hj).1
     rwa [rows_length hz] at this
    have hd:j=j / z*z+j % z:=by rw [Nat.mul_comm];exact (Nat.div_add_mod j z).symm
    have hq:j / z<m.length:=Nat.div_lt_of_lt_mul (by rw [Nat.mul_comm];exact hj')
    rw [add_none]
    obtain ⟨b',off',e',_,k⟩:=hc (j / z) hq
    cases e'
    rw [hd,rows_get hz m (j / z) (j % z) hq (Nat.mod_lt _ hz0)] at hj
    rw [show off+j=off+j / z*z+j % z by omega]
    exact k _ _ hj) (fun u hu => by
     obtain ⟨c,hcm,hu⟩:=List.mem_flatMap.1 hu
     exact hone c hcm u hu) (by unfold maxLen;omega) hl2 hB
   refine ⟨v',w',g1,?_,g3,g5⟩
   unfold OwnRow
   rw [List.length_append,List.flatMap_append]
   exact g2
theorem RdRow.one {b:Nat} {t:TypeId} {cs:Array Value} {a:α} (h:Blk w b t cs) (ha:row a=cs.toList):RdRow row z w (.slice (some ⟨b,0,none⟩) 1 1) [a]:=by
 refine ⟨_,1,rfl,Nat.le_refl _,fun j hj => ⟨b,0,rfl,h.lt,fun i u hu => ?_⟩⟩
 obtain rfl:j=0:=by simpa using hj
 have e0:0+0*z+i=i:=by rw [Nat.zero_mul];omega
 rw [e0,h.cell,← Array.getElem?_toList,← ha]
 exact hu
theorem step_append_rows {sl:TypeId} {zero:Value} {bz:Nat} {ops:Array Oper} {o:Oper} {a:Act} {K:Act→World→Prop} {Q:Exit→Act→World→Prop} {E:Prop} (hgd:o.guard=none) (s x:Operand)
  (ho:o.op=.call { callee:=.builtin .append,args:=#[s,x],argTypes:=#[sl,sl] })
  (hz:∀ a,(row a).length=z) (hz0:0<z) (hsl:Tryz.prog.underlying sl=some (.slice e)) (hinfo:(Tryz.prog.info? e).map (fun i => (i.zero,i.size,i.bytes))=some (some zero,z,bz)) (hzc:zero.cells.size=z) (hbz:0<bz)
  {u:Value} (hown:OwnRow row z e w B u l) (hs:a.eval s=u) {y:Value} {m:List α} (hx:a.eval x=y) (hy:RdRow row z w y m) (hone:∀ a∈m,∀ u∈row a,u.oneCell'=true) (hl:l.length+m.length≤140737488355327) (hl2:(l.length+m.length)*bz≤140737488355328) (hB:B≤w.heap.size)
  (hK:∀ u' w',OwnRow row z e w' B u' (l++m)→w.grownBy w' u.ownBlock→(u'.ownBlock=u.ownBlock∨u'.ownBlock=some w.heap.size)→K (a.put o.dst u') w'):if Region.wanted o (yielded ops a.tmps)=true then Oper.wp Tryz.prog o a w K Q else E:=by
 have hw:Region.wanted o (yielded ops a.tmps)=true:=by simp [Region.wanted,hgd]
 rw [if_pos hw]
 obtain ⟨u',w',e1,e2,e3,e5⟩:=run_append_rows (ty:=o.type) hz hz0 hsl hinfo hzc hbz hown y m hy hone hl hl2 hB
 unfold Oper.wp execOp
 simp only [ho,resolve,invoke,builtin,Sem.run_bind,Sem.run_pure,Result.andThen_ok,List.map_toArray,List.map_cons,List.map_nil,hs,hx,e1]
 exact hK u' w' e2 e3 e5
end
end Go.Proofs.YtdacanghbepjpaaGreatDoor
namespace Go.Proofs.YtdacanghbepjpaaGreatDoor
open Go.RowKit
theorem Tryz.info_int:(Tryz.prog.info? 3).map (fun i => (i.zero,i.size,i.bytes))=some (some (.int .i64 0),1,8):=by kernel_rfl
theorem under_ints:Tryz.prog.underlying 79=some (.slice 3):=by kernel_rfl
def OwnI (w:World) (B:Nat) (v:Value) (l:List Int):Prop:=w.ownsRow B 3 1 v l.length (l.map (Value.int .i64))
def RdI (w:World) (v:Value) (l:List Int):Prop :=
 (∃ x c,v=.slice x 0 c∧l=[])∨∃ b off c,v=.slice (some ⟨b,off,none⟩) l.length c∧b<w.heap.size∧∀ j (hj:j<l.length),w.cell? ⟨b,off+j,none⟩=some (.int .i64 l[j])
theorem OwnI.nil (w:World) (B:Nat):OwnI w B (.slice none 0 0) []:=World.ownsRow_nil w B _ 1
theorem OwnI.below {w:World} {B:Nat} {v:Value} {l:List Int} (h:OwnI w B v l) {w':World} (hg:w.grownBy w' v.ownBlock) (hB:B≤w.heap.size):Below B w w' :=
 (Below.refl _ _).grown hg hB fun k hk => ((World.ownsRow.lt h) k hk).1
theorem OwnI.kept {w w':World} {B:Nat} {v:Value} {l:List Int} (h:OwnI w B v l) (x:Below w.heap.size w w'):OwnI w' B v l:=by
 have hlt:=World.ownsRow.lt h
 obtain ⟨h1,h2⟩:=h
 refine ⟨h1,?_⟩
 rcases h2 with h2 | ⟨g,cap,cur,hv,hg,hh,r⟩
 · exact .inl h2
 · refine .inr ⟨g,cap,cur,hv,hg,?_,r⟩
   rw [x.block g (hlt g (by rw [hv];rfl)).2,hh]
theorem OwnI.rd {w:World} {B:Nat} {v:Value} {l:List Int} (h:OwnI w B v l):RdI w v l:=by
 have hlt:=World.ownsRow.lt h
 have hcs:=fun g (hg:v.ownBlock=some g) => World.ownsRow.cells h hg
 obtain ⟨h1,h2⟩:=h
 rcases h2 with ⟨rfl,h2⟩ | ⟨g,cap,cur,hv,hg,hh,r⟩
 · exact .inl ⟨none,0,rfl,List.length_eq_zero_iff.1 h2⟩
 · refine .inr ⟨g,0,cap,hv,(hlt g (by rw [hv];rfl)).2,fun j hj => ?_⟩
   have:=hcs g (by rw [hv];rfl) j (.int .i64 l[j]) (by rw [List.getElem?_map,List.getElem?_eq_getElem hj];rfl)
   have e:(⟨g,0,none⟩:Addr).add j=⟨g,0+j,none⟩:=by unfold Addr.add;split <;> simp_all
   rw [← e];exact this
theorem OwnI.chg {w w':World} {B:Nat} {v:Value} {l:List Int} {S:Nat→Prop} (h:OwnI w B v l) (x:Chg S w w') (hS:∀ g,v.ownBlock=some g→¬ S g):OwnI w' B v l:=by
 have hlt:=World.ownsRow.lt h
 obtain ⟨h1,h2⟩:=h
 refine ⟨h1,?_⟩
 rcases h2 with h2 | ⟨g,cap,cur,hv,hg,hh,r⟩
 · exact .inl h2
 · refine .inr ⟨g,cap,cur,hv,hg,?_,r⟩
   rw [x.block g (hlt g (by rw [hv];rfl)).2 (hS g (by rw [hv];rfl)),hh]
theorem OwnI.base {w:World} {B B':Nat} {v:Value} {l:List Int} (h:OwnI w B v l) (hB:B'≤B):OwnI w B' v l:=by
 obtain ⟨h1,h2⟩:=h
 refine ⟨h1,?_⟩
 rcases h2 with h2 | ⟨g,cap,cur,hv,hg,r⟩
 · exact .inl h2
 · exact .inr ⟨g,cap,cur,hv,Nat.le_trans hB hg,r⟩
end Go.Proofs.YtdacanghbepjpaaGreatDoor
namespace Go.Proofs.YtdacanghbepjpaaGreatDoor
open Go.RowKit
def OwnS (w:World) (B:Nat) (v:Value) (l:List ByteArray):Prop:=w.ownsRow B 9 1 v l.length (l.map Value.string)
end Go.Proofs.YtdacanghbepjpaaGreatDoor
namespace Go.Proofs.YtdacanghbepjpaaGreatDoor
set_option maxRecDepth 100000
open Go.RowKit Go.Maps
open Dsk
theorem under_files:Tryz.prog.underlying 154=some (.map 9 185):=by kernel_rfl
theorem key_law:Keyed Tryz.prog 9:=string_keyed under_string
theorem zero_file (w:World):(zeroValue 185).run Tryz.prog w=.ok (.agg #[.string ⟨#[]⟩,.int .i64 0]) w:=by kernel_rfl
def fileElem (v:Value):Option (DataW Unit×List MemPlace) :=
 match v with
 | .agg a => match a.toList with
  | [.string s,.int .i64 n] => if 0≤n then some (encF ⟨s.data.toList,n.toNat⟩,[]) else none
  | _ => none
 | _ => none
theorem fileElem_mk (s:ByteArray) (n:Nat):fileElem (.agg #[.string s,.int .i64 n])=some (encF ⟨s.data.toList,n⟩,[]):=by
 simp [fileElem]
theorem fileElem_inv {v:Value} {z:DataW Unit×List MemPlace} (h:fileElem v=some z):∃ (s:ByteArray) (n:Nat),v=.agg #[.string s,.int .i64 n]∧z=(encF ⟨s.data.toList,n⟩,[]):=by
 unfold fileElem at h
 split at h
 · rename_i a
   split at h
   · rename_i s n ha
     split at h
     · rename_i hn
       refine ⟨s,n.toNat,?_,(Option.some.inj h).symm⟩
       have e:a=#[.string s,.int .i64 n]:=by
        apply Array.toList_inj.1;simpa using ha
       rw [e,Int.toNat_of_nonneg hn]
     · cases h
   · cases h
 · cases h
theorem fileElem_at {v:Value} {f:Fl} {ps:List MemPlace} (h:fileElem v=some (encF f,ps)):v=.agg #[.string ⟨f.data.toArray⟩,.int .i64 f.safe]:=by
 obtain ⟨s,n,rfl,e⟩:=fileElem_inv h
 obtain rfl:=encF_inj (congrArg Prod.fst e)
 rfl
def OwnM (w:World) (b:Nat) (m:Files):Prop:=w.ownsMap Tryz.prog 9 fileElem b m.length (encD m)
theorem OwnM.lt {w:World} {b:Nat} {m:Files} (h:OwnM w b m):b<w.heap.size:=World.ownsMap.lt h
theorem OwnM.of {w:World} {b n:Nat} {m:Files} (h:w.ownsMap Tryz.prog 9 fileElem b n (encD m)):OwnM w b m:=by
 obtain ⟨es,clock,hb,F,hs,hD⟩:=h
 refine ⟨es,clock,hb,F,?_,hD⟩
 have:=congrArg Maps.size hD
 rw [encD_size] at this
 simp [Maps.size,length_sorted] at this
 omega
theorem OwnM.chg {S:Nat→Prop} {w w':World} {b:Nat} {m:Files} (h:OwnM w b m) (x:Chg S w w') (hS:¬ S b):OwnM w' b m:=by
 have hlt:=h.lt
 obtain ⟨es,clock,hb,r⟩:=h
 exact ⟨es,clock,(x.block b hlt hS).trans hb,r⟩
theorem OwnM.below {w w':World} {b:Nat} {m:Files} (h:OwnM w b m) (x:Below w.heap.size w w'):OwnM w' b m:=h.chg (Chg.of_below x) (S:=fun _ => False) (fun e => e)
theorem Chg.grown {w w':World} {b:Nat} (h:w.grownBy w' (some b)):Chg (·=b) w w' :=
 ⟨h.os,h.tape,h.output,h.size,fun i hi hs => h.block i hi (fun e => hs (Option.some.inj e))⟩
def CrashFn (w:World) (F:Nat→Prop) (cv:Value) (fail:Option Int):Prop :=
 match fail with
 | none => cv=.nilFunc
 | some n => ∃ bc,cv=.func (.func 100) #[] #[.pointer (some ⟨bc,0,none⟩)]∧Blk w bc 3 #[.int .i64 n]∧F bc
structure DiskIn (w:World) (F:Nat→Prop) (bd bm:Nat) (cv kv:Value) (d:Dk):Prop where
 blk:Blk w bd 156 #[.int .i64 d.room,.int .i64 d.starts,.bool d.off,.map (some bm),cv,kv]
 map:OwnM w bm d.files
 fn:CrashFn w F cv d.fail
 row:OwnI w 0 kv d.keep
 fd:F bd
 fm:F bm
 fk:∀ k,kv.ownBlock=some k→F k∧k≠bd∧cv≠.func (.func 100) #[] #[.pointer (some ⟨k,0,none⟩)]
 ok:Ok d
 lt:∀ k,F k→k<w.heap.size
def DiskAt (w:World) (F:Nat→Prop) (v:Value) (d:Dk):Prop:=∃ bd bm cv kv,v=.pointer (some ⟨bd,0,none⟩)∧DiskIn w F bd bm cv kv d∧FOk d
theorem map_ne_blk {w:World} {b:Nat} {m:Files} {bd:Nat} {t:TypeId} {cs:Array Value} (h:OwnM w b m) (k:Blk w bd t cs):b≠bd:=fun e => by
 subst e
 obtain ⟨es,clock,hb,_⟩:=h
 unfold Blk at k
 rw [hb] at k
 cases k
theorem map_ne_row {w:World} {b:Nat} {m:Files} {v:Value} {l:List Int} {B:Nat} (h:OwnM w b m) (k:OwnI w B v l):v.ownBlock≠some b:=fun e => by
 obtain ⟨es,clock,hb,_⟩:=h
 obtain ⟨_,h2 | ⟨g,cap,cur,hv,hg,hh,r⟩⟩:=k
 · rw [h2.1] at e;cases e
 · rw [hv] at e
   obtain rfl:g=b:=Option.some.inj e
   rw [hb] at hh
   cases hh
theorem CrashFn.chg {w w':World} {F S:Nat→Prop} {cv:Value} {fail:Option Int} (h:CrashFn w F cv fail) (x:Chg S w w') (hS:∀ k,F k→¬ S k):CrashFn w' F cv fail:=by
 unfold CrashFn at *
 split
 · exact h
 · obtain ⟨bc,e,hb,hF⟩:=h
   exact ⟨bc,e,hb.chg x (hS bc hF),hF⟩
theorem DiskIn.chg {w w':World} {F S:Nat→Prop} {bd bm:Nat} {cv kv:Value} {d:Dk} (h:DiskIn w F bd bm cv kv d) (x:Chg S w w') (hS:∀ k,F k→¬ S k):DiskIn w' F bd bm cv kv d :=
 ⟨h.blk.chg x (hS _ h.fd),h.map.chg x (hS _ h.fm),h.fn.chg x hS,h.row.chg x fun k hk => hS k (h.fk k hk).1,h.fd,h.fm,h.fk,h.ok,fun k hk => Nat.lt_of_lt_of_le (h.lt k hk) x.size⟩
theorem DiskAt.chg {w w':World} {F S:Nat→Prop} {v:Value} {d:Dk} (h:DiskAt w F v d) (x:Chg S w w') (hS:∀ k,F k→¬ S k):DiskAt w' F v d:=by
 obtain ⟨bd,bm,cv,kv,rfl,h,hf⟩:=h
 exact ⟨bd,bm,cv,kv,rfl,h.chg x hS,hf⟩
theorem DiskAt.below {w w':World} {F:Nat→Prop} {v:Value} {d:Dk} (h:DiskAt w F v d) (x:Below w.heap.size w w'):DiskAt w' F v d :=
 h.chg (S:=fun _ => False) (Chg.of_below x) (fun _ _ e => e)
theorem DiskIn.below {w w':World} {F:Nat→Prop} {bd bm:Nat} {cv kv:Value} {d:Dk} (h:DiskIn w F bd bm cv kv d) (x:Below w.heap.size w w'):DiskIn w' F bd bm cv kv d :=
 h.chg (S:=fun _ => False) (Chg.of_below x) (fun _ _ e => e)
theorem DiskAt.ok {w:World} {F:Nat→Prop} {v:Value} {d:Dk} (h:DiskAt w F v d):Ok d:=by obtain ⟨_,_,_,_,_,h,_⟩:=h;exact h.ok
theorem DiskAt.lt {w:World} {F:Nat→Prop} {v:Value} {d:Dk} (h:DiskAt w F v d):∀ k,F k→k<w.heap.size:=by obtain ⟨_,_,_,_,_,h,_⟩:=h;exact h.lt
structure Grow (F F':Nat→Prop) (w w':World):Prop where
 chg:Chg F w w'
 sub:∀ k,F' k→F k∨w.heap.size≤k
theorem Grow.trans {F F' F'':Nat→Prop} {w w' w'':World} (h:Grow F F' w w') (k:Grow F' F'' w' w''):Grow F F'' w w'' :=
 ⟨⟨k.chg.os.trans h.chg.os,k.chg.tape.trans h.chg.tape,k.chg.output.trans h.chg.output,Nat.le_trans h.chg.size k.chg.size,fun i hi hs => (k.chg.block i (Nat.lt_of_lt_of_le hi h.chg.size) (fun hf => (h.sub i hf).elim hs (fun x => absurd hi (by omega)))).trans (h.chg.block i hi hs)⟩,
  fun i hi => (k.sub i hi).elim (h.sub i) (fun x => .inr (Nat.le_trans h.chg.size x))⟩
theorem Grow.below {F F':Nat→Prop} {w w':World} {B:Nat} (h:Grow F F' w w') (hB:B≤w.heap.size) (hF:∀ k,F k→B≤k):Below B w w'∧∀ k,F' k→B≤k :=
 ⟨h.chg.below hB fun k hk hf => absurd (hF k hf) (by omega),fun k hk => (h.sub k hk).elim (hF k) (fun x => Nat.le_trans hB x)⟩
/-! ### at the operation -/
section
variable {ops:Array Oper} {rest:List Oper} {o:Oper} {a:Act} {Q:Exit→Act→World→Prop} {w:World}
theorem wpList_look_ok (hg:o.guard=none) (mo x:Operand) (hop:o.op=Op.lookup 154 mo x true) (b:Nat) (m:Files) (hm:a.eval mo=.map (some b)) (hown:OwnM w b m)
  (name:ByteArray) (hx:a.eval x=.string name) (hn:name.size≤maxLen) (s:ByteArray) (n:Nat) (ok:Bool) (hf:(get m name.data.toList).getD ⟨[],0⟩=⟨s.data.toList,n⟩) (hok:(get m name.data.toList).isSome=ok)
  (hK:wpList Tryz.prog ops Q rest (a.put o.dst (.tuple #[.agg #[.string s,.int .i64 n],.bool ok])) w) :
  wpList Tryz.prog ops Q (o::rest) a w:=by
 refine wpList_plain hg fun K' hK' => ?_
 obtain ⟨v,ps,hrun,hv⟩:=World.ownsMap.look_ok hown key_law under_files (zero_file w) (zd:=encF ⟨[],0⟩) (zp:=[]) (by exact fileElem_mk ⟨#[]⟩ 0) (WideMaps.keyOf_string_mk under_string hn)
 rw [encD_at] at hv
 rw [encD_has,hok] at hrun
 have e:v=.agg #[.string s,.int .i64 n]:=by
  cases hgt:get m name.data.toList with
  | none => rw [hgt] at hv hf; obtain ⟨rfl, rfl⟩ : s = ⟨#[]⟩ ∧ n = 0 := by simp at hf; exact ⟨bytes_ext (by rw [hf.1]), hf.2.symm⟩
            exact fileElem_at hv
  | some f => rw [hgt] at hv hf;obtain rfl:f=⟨s.data.toList,n⟩:=hf;exact fileElem_at hv
 subst e
 unfold Oper.wp
 simp only [execOp,hop,hm,hx]
 rw [Sem.run_bind,hrun]
 exact hK' _ _ hK
theorem wpList_look (hg:o.guard=none) (mo x:Operand) (hop:o.op=Op.lookup 154 mo x false) (b:Nat) (m:Files) (hm:a.eval mo=.map (some b)) (hown:OwnM w b m)
  (name:ByteArray) (hx:a.eval x=.string name) (hn:name.size≤maxLen) (s:ByteArray) (n:Nat) (hf:(get m name.data.toList).getD ⟨[],0⟩=⟨s.data.toList,n⟩)
  (hK:wpList Tryz.prog ops Q rest (a.put o.dst (.agg #[.string s,.int .i64 n])) w) :
  wpList Tryz.prog ops Q (o::rest) a w:=by
 refine wpList_plain hg fun K' hK' => ?_
 obtain ⟨v,ps,hrun,hv⟩:=World.ownsMap.lookup hown key_law under_files (zero_file w) (zd:=encF ⟨[],0⟩) (zp:=[]) (by exact fileElem_mk ⟨#[]⟩ 0) (WideMaps.keyOf_string_mk under_string hn)
 rw [encD_at] at hv
 have e:v=.agg #[.string s,.int .i64 n]:=by
  cases hgt:get m name.data.toList with
  | none => rw [hgt] at hv hf; obtain ⟨rfl, rfl⟩ : s = ⟨#[]⟩ ∧ n = 0 := by simp at hf; exact ⟨bytes_ext (by rw [hf.1]), hf.2.symm⟩
            exact fileElem_at hv
  | some f => rw [hgt] at hv hf;obtain rfl:f=⟨s.data.toList,n⟩:=hf;exact fileElem_at hv
 subst e
 unfold Oper.wp
 simp only [execOp,hop,hm,hx]
 rw [Sem.run_bind,hrun]
 exact hK' _ _ hK
theorem wpList_put (hg:o.guard=none) (mo x v:Operand) (hop:o.op=Op.mapUpdate 154 mo x v) (b:Nat) (m:Files) (hm:a.eval mo=.map (some b)) (hown:OwnM w b m) (hc:m.length≤100000)
  (name:ByteArray) (hx:a.eval x=.string name) (hn:name.size≤maxLen) (s:ByteArray) (n:Nat) (hv:a.eval v=.agg #[.string s,.int .i64 n])
  (hK:∀ w',OwnM w' b (put m name.data.toList ⟨s.data.toList,n⟩)→Chg (·=b) w w'→wpList Tryz.prog ops Q rest (a.put o.dst undef) w') :
  wpList Tryz.prog ops Q (o::rest) a w :=
 wpList_mapUpdate_own w hg mo x v _ hop _ _ key_law under_files fileElem b m.length (encD m) hm hown (by unfold maxLen;omega) _ _ _ hx hv (WideMaps.keyOf_string_mk under_string hn) _ [] (fileElem_mk s n) fun w' h1 h2 => hK w' (OwnM.of (by rw [← encD_put];exact h1)) (Chg.grown h2)
theorem wpList_del (hg:o.guard=none) (mo x:Operand) (hop:o.op=Op.call { callee:=Callee.builtin Builtin.delete,args:=#[mo,x],argTypes:=#[154,9] }) (b:Nat) (m:Files) (hm:a.eval mo=.map (some b)) (hown:OwnM w b m)
  (name:ByteArray) (hx:a.eval x=.string name) (hn:name.size≤maxLen)
  (hK:∀ w',OwnM w' b (del m name.data.toList)→Chg (·=b) w w'→wpList Tryz.prog ops Q rest (a.put o.dst (.tuple #[])) w') :
  wpList Tryz.prog ops Q (o::rest) a w :=
 wpList_delete_own w hg mo x _ _ hop _ key_law under_files fileElem b m.length (encD m) hm hown _ _ hx (WideMaps.keyOf_string_mk under_string hn) fun w' h1 h2 => hK w' (OwnM.of (by rw [← encD_del];exact h1)) (Chg.grown h2.grown)
end
theorem OwnM.len {w:World} {b:Nat} {m:Files} (h:OwnM w b m) (ty:TypeId):(Builtin.len_ #[154] ty #[.map (some b)]).run Tryz.prog w=.ok (.int .i64 m.length) w:=by
 have:=World.ownsMap.len h under_files ty
 rw [encD_size] at this
 exact this
end Go.Proofs.YtdacanghbepjpaaGreatDoor
namespace Go.Proofs.YtdacanghbepjpaaGreatDoor
set_option maxRecDepth 100000
open Go.RowKit Go.Maps
open Dsk
theorem toList_nil (s:ByteArray):s.toList=[]↔s.size=0:=by
 rw [ByteArray.toList_eq]
 have:s.size=s.data.toList.length:=by simp
 rw [this,List.length_eq_zero_iff]
theorem files_neq (w:World) (b:Nat):(binOp .neq 154 (.map (some b)) (.map none)).run Tryz.prog w=.ok (.bool true) w:=run_neq_map_nil w _ _ _ (some b) under_files
theorem file_data (w:World) (s:ByteArray) (n:Int):(Instr.field 185 (.agg #[.string s,.int .i64 n]) 0).run Tryz.prog w=.ok (.string s) w:=by kernel_rfl
theorem file_safe (w:World) (s:ByteArray) (n:Int):(Instr.field 185 (.agg #[.string s,.int .i64 n]) 1).run Tryz.prog w=.ok (.int .i64 n) w:=by kernel_rfl
theorem wpList_safe {ops:Array Oper} {rest:List Oper} {o:Oper} {a:Act} {Q:Exit→Act→World→Prop} {w:World} (hg:o.guard=none) (x:Operand) (hop:o.op=Op.field 185 x 1) (s:ByteArray) (n:Int) (hx:a.eval x=.agg #[.string s,.int .i64 n])
  (hK:wpList Tryz.prog ops Q rest (a.put o.dst (.int .i64 n)) w):wpList Tryz.prog ops Q (o::rest) a w :=
 wpList_runs hg (by simp only [execOp,hop,hx];rw [Sem.run_bind,file_safe];rfl) hK
theorem wpList_data {ops:Array Oper} {rest:List Oper} {o:Oper} {a:Act} {Q:Exit→Act→World→Prop} {w:World} (hg:o.guard=none) (x:Operand) (hop:o.op=Op.field 185 x 0) (s:ByteArray) (n:Int) (hx:a.eval x=.agg #[.string s,.int .i64 n])
  (hK:wpList Tryz.prog ops Q rest (a.put o.dst (.string s)) w):wpList Tryz.prog ops Q (o::rest) a w :=
 wpList_runs hg (by simp only [execOp,hop,hx];rw [Sem.run_bind,file_data];rfl) hK
section
variable {w:World} {F:Nat→Prop} {bd bm:Nat} {cv kv:Value} {d:Dk}
theorem is_in (h:DiskIn w F bd bm cv kv d):Calls Tryz.prog 158 #[.pointer (some ⟨bd,0,none⟩)] w fun e w' => e=.returned (.bool true)∧w=w':=by
 have c3:=h.blk.cell 3
 simp at c3
 clear h
 have hmn:=files_neq w bm
 go_enter Tryz.func158,Tryz.ntmps158
 go_wp2_with fail
 go_ret
 exact ⟨rfl,rfl⟩
theorem runs_in (h:DiskIn w F bd bm cv kv d):Calls Tryz.prog 99 #[.pointer (some ⟨bd,0,none⟩)] w fun e w' => e=.returned (.int .i64 (if d.off then 51 else 0))∧w=w':=by
 have c2:=h.blk.cell 2
 simp at c2
 have his:=is_in h
 clear h
 cases hoff:d.off
 all_goals
  rw [hoff] at c2
  clear hoff
  go_enter Tryz.func99,Tryz.ntmps99
  go_wp2_with (go_at_call 158;refine his.mono ?_;rintro e w' ⟨rfl,rfl⟩)
  go_ret
  exact ⟨rfl,rfl⟩
theorem named_size (s:ByteArray):Named s.data.toList↔1≤s.size∧s.size≤16:=by
 have hl:s.data.toList.length=s.size:=by simp
 unfold Named;rw [hl]
theorem named_any (s:ByteArray) (w:World) (hs:s.size≤maxLen) {b:Bool} (hb:Named s.data.toList↔b=true):Calls Tryz.prog 137 #[.string s] w fun e w' => e=.returned (.bool b)∧w=w':=by
 unfold maxLen at hs
 have HB:=Lib.hid ((named_size s).symm.trans hb)
 have HZ:=Lib.hid (toList_nil s)
 clear hb
 go_enter Tryz.func137,Tryz.ntmps137
 go_wp2
 · have h0:s.toList=[]:=by assumption
   go_ret
   have h1:=HZ.out.1 h0
   refine ⟨?_,rfl⟩
   cases b with
   | false => rfl
   | true => have:=HB.out.2 rfl;omega
 · have h0:¬ s.toList=[]:=by assumption
   go_ret
   have h1:¬ s.size=0:=fun e => h0 (HZ.out.2 e)
   refine ⟨?_,rfl⟩
   have e1:s.toList.isEmpty=false:=by simpa using h0
   show Ending.returned (.bool (!s.toList.isEmpty && decide ((s.size:Int)≤16)))=_
   rw [e1]
   by_cases h2:s.size≤16
   · rw [decide_eq_true (show (s.size:Int)≤16 by omega),HB.out.1 ⟨by omega,h2⟩];rfl
   · rw [decide_eq_false (show ¬ (s.size:Int)≤16 by omega)]
     cases b with
     | false => rfl
     | true => exact absurd (HB.out.2 rfl).2 h2
theorem up_in (h:DiskIn w F bd bm cv kv d):Calls Tryz.prog 37 #[.pointer (some ⟨bd,0,none⟩)] w fun e w' => e=.returned (.bool (!d.off))∧w=w':=by
 have hr:=runs_in h
 clear h
 cases hoff:d.off
 all_goals
  simp only [hoff] at hr
  clear hoff
  go_enter Tryz.func37,Tryz.ntmps37
  go_wp2_with (go_at_call 99;refine hr.mono ?_;rintro e w' ⟨rfl,rfl⟩)
  go_ret
  exact ⟨rfl,rfl⟩
theorem starts_in (h:DiskIn w F bd bm cv kv d):Calls Tryz.prog 127 #[.pointer (some ⟨bd,0,none⟩)] w fun e w' => e=.returned (.int .i64 d.starts)∧w=w':=by
 have c1:=h.blk.cell 1
 simp at c1
 have his:=is_in h
 clear h
 go_enter Tryz.func127,Tryz.ntmps127
 go_wp2_with (go_at_call 158;refine his.mono ?_;rintro e w' ⟨rfl,rfl⟩)
 go_ret
 exact ⟨rfl,rfl⟩
theorem synced_in (h:DiskIn w F bd bm cv kv d) (name:ByteArray) (hn:name.size≤maxLen):Calls Tryz.prog 149 #[.pointer (some ⟨bd,0,none⟩),.string name] w fun e w' => e=.returned (.int .i64 (d.synced name.data.toList))∧w=w':=by
 have c3:=h.blk.cell 3
 simp at c3
 have his:=is_in h
 have Hm:=Lib.hid h.map
 obtain ⟨s,n,hf,hd⟩:∃ (s:ByteArray) (n:Nat),(get d.files name.data.toList).getD ⟨[],0⟩=⟨s.data.toList,n⟩∧d.synced name.data.toList=n:=by
  unfold Dk.synced
  cases get d.files name.data.toList with
  | none => exact ⟨⟨#[]⟩,0,rfl,rfl⟩
  | some f => exact ⟨⟨f.data.toArray⟩,f.safe,rfl,rfl⟩
 rw [hd]
 have Hf:=Lib.hid hf
 clear h hf hd
 go_enter Tryz.func149,Tryz.ntmps149
 go_wp2_with (first
  | (go_at_call 158;refine his.mono ?_;rintro e w' ⟨rfl,rfl⟩)
  | (at_lookup;refine wpList_look rfl (.tmp 11) (.tmp 12) rfl bm _ rfl Hm.out name rfl hn s n Hf.out ?_)
  | (refine wpList_safe rfl (.tmp 13) rfl s n rfl ?_))
 go_ret
 exact ⟨rfl,rfl⟩
def Dk.opened (d:Dk) (name:Str):Fl×Int :=
 if d.off then (⟨[],0⟩,51) else match get d.files name with | none => (⟨[],0⟩,4) | some f => (f,0)
def flV (f:Fl):Value:=.agg #[.string ⟨f.data.toArray⟩,.int .i64 f.safe]
theorem open_in (h:DiskIn w F bd bm cv kv d) (name:ByteArray) (hn:name.size≤maxLen):Calls Tryz.prog 142 #[.pointer (some ⟨bd,0,none⟩),.string name] w fun e w' => e=.returned (.tuple #[flV (Dk.opened d name.data.toList).1,.int .i64 (Dk.opened d name.data.toList).2])∧Below w.heap.size w w':=by
 have c3:=h.blk.cell 3
 simp at c3
 have hbd:=h.blk.lt
 have hr:=runs_in (h.below ((Below.refl _ _).alloc (Nat.le_refl _) (.cells #[.string ⟨#[]⟩,.int .i64 0] 185 (0,0))))
 have Hm:=Lib.hid h.map
 clear h
 unfold Dk.opened
 cases hoff:d.off
 · simp only [hoff] at hr
   cases hg:get d.files name.data.toList with
   | none =>
    have Hg:=Lib.hid hg
    clear hoff hg
    go_enter Tryz.func142,Tryz.ntmps142
    go_wp2_with (first
     | (go_at_call 99;refine hr.mono ?_;rintro e w' ⟨rfl,rfl⟩)
     | (at_lookup;refine wpList_look_ok rfl (.tmp 19) (.tmp 20) rfl bm _ rfl (Hm.out.below ((Below.refl _ _).alloc (Nat.le_refl _) _)) name rfl hn ⟨#[]⟩ 0 false (by rw [Hg.out];rfl) (by rw [Hg.out];rfl) ?_))
    refine bodyPost_ret (v:=.tuple #[flV ⟨[],0⟩,.int .i64 4]) (by simp [results,Tryz.results142,go_sem,flV]) rfl ⟨rfl,?_⟩
    exact ((Below.refl _ _).alloc (Nat.le_refl _) _).alloc (by simp) _
   | some f =>
    have Hg:=Lib.hid hg
    obtain ⟨s,n,hsn⟩:∃ (s:ByteArray) (n:Nat),f=⟨s.data.toList,n⟩:=⟨⟨f.data.toArray⟩,f.safe,rfl⟩
    have Hsn:=Lib.hid hsn
    clear hoff hg hsn
    go_enter Tryz.func142,Tryz.ntmps142
    go_wp2_with (first
     | (go_at_call 99;refine hr.mono ?_;rintro e w' ⟨rfl,rfl⟩)
     | (at_lookup;refine wpList_look_ok rfl (.tmp 19) (.tmp 20) rfl bm _ rfl (Hm.out.below ((Below.refl _ _).alloc (Nat.le_refl _) _)) name rfl hn s n true (by rw [Hg.out,Hsn.out];rfl) (by rw [Hg.out];rfl) ?_))
    refine bodyPost_ret (v:=.tuple #[.agg #[.string s,.int .i64 n],.int .i64 0]) (by simp [results,Tryz.results142,go_sem]) rfl ⟨by rw [Hsn.out];rfl,?_⟩
    exact ((Below.refl _ _).alloc (Nat.le_refl _) _).alloc (by simp) _
 · simp only [hoff] at hr
   clear hoff
   go_enter Tryz.func142,Tryz.ntmps142
   go_wp2_with (go_at_call 99;refine hr.mono ?_;rintro e w' ⟨rfl,rfl⟩)
   refine bodyPost_ret (v:=.tuple #[flV ⟨[],0⟩,.int .i64 51]) (by simp [results,Tryz.results142,go_sem,flV]) rfl ⟨rfl,?_⟩
   exact ((Below.refl _ _).alloc (Nat.le_refl _) _)
end
end Go.Proofs.YtdacanghbepjpaaGreatDoor
namespace Go.Proofs.YtdacanghbepjpaaGreatDoor
set_option maxRecDepth 100000
open Go.RowKit Go.Maps
open Dsk
def strs (l:List Str):List ByteArray:=l.map fun x => ⟨x.toArray⟩
theorem strs_length (l:List Str):(strs l).length=l.length:=by simp [strs]
theorem strs_string (l:List Str):(strs l).map Value.string=l.map Go.Proofs.encStr:=by
 unfold strs
 rw [List.map_map];rfl
theorem OwnS.of {w:World} {B B':Nat} {v:Value} {l:List Str} (hB:B'≤B) (h:w.ownsRow B 9 1 v l.length (l.map Go.Proofs.encStr)):OwnS w B' v (strs l):=by
 unfold OwnS
 rw [strs_length,strs_string]
 obtain ⟨h1,h2⟩:=h
 refine ⟨h1,?_⟩
 rcases h2 with h2 | ⟨g,cap,cur,hv,hg,r⟩
 · exact .inl h2
 · exact .inr ⟨g,cap,cur,hv,Nat.le_trans hB hg,r⟩
theorem OwnS.each {w:World} {B:Nat} {v:Value} {l:List ByteArray} (h:OwnS w B v l):∃ x c,v=.slice x l.length c∧∀ (j:Nat) (hj:j<l.length),∃ b,x=some ⟨b,0,none⟩∧B≤b∧b<w.heap.size∧w.cell? ⟨b,j,none⟩=some (.string l[j]):=by
 have hlt:=World.ownsRow.lt h
 have hcs:=fun g (hg:v.ownBlock=some g) => World.ownsRow.cells h hg
 obtain ⟨h1,h2⟩:=h
 rcases h2 with ⟨rfl,h2⟩ | ⟨g,cap,cur,hv,hg,hh,r⟩
 · exact ⟨none,0,by rw [h2],fun j hj => absurd hj (by omega)⟩
 · refine ⟨some ⟨g,0,none⟩,cap,hv,fun j hj => ⟨g,rfl,hg,(hlt g (by rw [hv];rfl)).2,?_⟩⟩
   have:=hcs g (by rw [hv];rfl) j (.string l[j]) (by rw [List.getElem?_map,List.getElem?_eq_getElem hj];rfl)
   have e:(⟨g,0,none⟩:Addr).add j=⟨g,j,none⟩:=by unfold Addr.add;split <;> simp_all
   rw [← e];exact this
section
variable {w:World} {F:Nat→Prop} {bd bm:Nat} {cv kv:Value} {d:Dk}
set_option maxHeartbeats 400000 in
theorem names_in (h:DiskIn w F bd bm cv kv d):Calls Tryz.prog 159 #[.pointer (some ⟨bd,0,none⟩)] w fun e w' => ∃ v,e=.returned v∧OwnS w' w.heap.size v (strs (names d.files))∧Below w.heap.size w w':=by
 have c3:=h.blk.cell 3
 simp at c3
 have his:=is_in h
 have hc:=h.ok.count
 have hs:Maps.size (encD (H:=Unit) d.files)=d.files.length:=encD_size _
 have hsort:=callsIn_wide.1 (Tryz.slices_Sorted_keys_184_185 bm d.files.length (encD d.files) fileElem w h.map (by rw [hs];unfold maxLen;omega) (by rw [hs];omega))
 have Hr:=Lib.hid h.ok.rising
 clear h hs
 go_enter Tryz.func159,Tryz.ntmps159
 go_wp2_with (first
  | (go_at_call 158;refine his.mono ?_;rintro e w' ⟨rfl,rfl⟩)
  | (go_at_call 185;refine (callsIn_wide.1 (Tryz.maps_Keys_185 _ _)).mono ?_;rintro e w' ⟨rfl,rfl⟩)
  | (go_at_call 184;refine hsort.mono ?_;rintro e w' ⟨v,ss,rfl,hS,hrow,hnil,hb⟩;have Hrow:=Lib.hid hrow;have HS:=Lib.hid hS;have Hb:=Lib.hid hb;clear hS hrow hnil hb))
 go_ret
 have hp:=HS.out
 rw [encD_keys] at hp
 have hsn:=sorted_names Hr.out hp
 have hrow:=Hrow.out
 rw [hsn,hp.length_eq] at hrow
 exact ⟨v,rfl,OwnS.of (by simp) hrow,((Below.refl _ _).alloc (Nat.le_refl _) _).trans (Hb.out.mono (by simp))⟩
theorem strs_get (m:Files) (k:Nat) (hk:k<m.length) (hk':k<(strs (names m)).length):(strs (names m))[k]=⟨m[k].1.toArray⟩:=by simp [strs,names]
theorem name_size {m:Files} (h:∀ p∈m,Named p.1) (k:Nat) (hk:k<m.length):(ByteArray.mk m[k].1.toArray).size≤maxLen:=by
 have:=h _ (List.getElem_mem hk)
 unfold Named at this
 show m[k].1.toArray.size≤maxLen
 rw [List.size_toArray];unfold maxLen;omega
theorem names_len (m:Files):(strs (names m)).length=m.length:=by simp [strs,names]
set_option maxHeartbeats 1000000 in
theorem size_in (h:DiskIn w F bd bm cv kv d):Calls Tryz.prog 138 #[.pointer (some ⟨bd,0,none⟩)] w fun e w' => e=.returned (.int .i64 (total d.files))∧Below w.heap.size w w':=by
 have hbd:=h.blk.lt
 have hcnt:=h.ok.count
 have htot:total d.files≤1048576:=Nat.le_trans h.ok.fits h.ok.room2
 have Hn:=Lib.hid (names_in h)
 have Hok:=Lib.hid h.ok
 have H:=Lib.hid h
 clear h
 go_enter Tryz.func138,Tryz.ntmps138
 go_wp2_with fail
 refine Hn.out.mono ?_
 rintro e w1 ⟨v,rfl,hown,hb1⟩
 obtain ⟨x,c,rfl,hcell⟩:=hown.each
 rw [names_len]
 have h1:=H.out.below hb1
 have c3:=h1.blk.cell 3
 simp at c3
 have Hm:=Lib.hid h1.map
 have Hb:=Lib.hid hb1
 have Hcell:=Lib.hid hcell
 clear hown hb1 h1 hcell
 go_wp2_with fail
 go_loop [3,5,9] (fun v3 _ v9 => ∃ k:Nat,v9=.int .i64 k∧k≤d.files.length∧v3=.int .i64 (total (d.files.take k))) (fun _ _ v9 => d.files.length-(intOf v9).toNat)
 case atStart => exact ⟨0,rfl,Nat.zero_le _,rfl⟩
 case round =>
  obtain ⟨k,rfl,hk,rfl⟩:=hrel
  by_cases hlt:k<d.files.length
  · have ht1:=total_take_succ d.files k hlt
    have ht2:=total_take_le d.files (k+1)
    obtain ⟨b,rfl,_,hbl,hc⟩:=Hcell.out k (by rw [names_len];exact hlt)
    rw [strs_get d.files k hlt] at hc
    have Hns:=Lib.hid (name_size Hok.out.named k hlt)
    have Hg:=Lib.hid (get_nth Hok.out.rising k hlt)
    have Ht1:=Lib.hid ht1
    obtain ⟨s,n,hsn⟩:∃ (s:ByteArray) (n:Nat),d.files[k].2=⟨s.data.toList,n⟩:=⟨⟨d.files[k].2.data.toArray⟩,d.files[k].2.safe,rfl⟩
    have hsz:d.files[k].2.data.length=s.size:=by rw [hsn];simp
    rw [hsz] at ht1
    have Hsn:=Lib.hid hsn
    have Hsz:=Lib.hid hsz
    obtain ⟨name,hname⟩:∃ name:ByteArray,name=⟨d.files[k].1.toArray⟩:=⟨_,rfl⟩
    rw [← hname] at hc
    have Hname:=Lib.hid hname
    obtain ⟨T,hT⟩:∃ T,total (d.files.take k)=T:=⟨_,rfl⟩
    rw [hT] at ht1 ⊢
    have HT:=Lib.hid hT
    have hb2:T+s.size≤1048576:=by omega
    clear ht1 ht2 hsn hsz hname hT
    go_wp2_with (first
     | (at_lookup;refine wpList_look rfl (.tmp 17) (.tmp 18) rfl bm _ rfl Hm.out name rfl (by rw [Hname.out];exact Hns.out) s n (by rw [Hname.out];show (get d.files d.files[k].1).getD _=_;rw [Hg.out,Hsn.out];rfl) ?_)
     | (refine wpList_data rfl (.tmp 19) rfl s n rfl ?_))
    go_round
    case rel => exact ⟨k+1,by go_num,by omega,by rw [Ht1.out,HT.out,Hsz.out];go_num⟩
    case measure => simp [intOf];omega
  · obtain rfl:k=d.files.length:=by omega
    rw [List.take_length]
    go_wp2_with fail
    go_ret
    exact ⟨rfl,Hb.out⟩
end
end Go.Proofs.YtdacanghbepjpaaGreatDoor
namespace Go.Proofs.YtdacanghbepjpaaGreatDoor
set_option maxRecDepth 100000
open Go.RowKit Go.Maps
open Dsk
section
variable {w:World} {F:Nat→Prop} {bd bm:Nat} {cv kv:Value} {d:Dk}
end
end Go.Proofs.YtdacanghbepjpaaGreatDoor
namespace Go.Proofs.YtdacanghbepjpaaGreatDoor
set_option maxRecDepth 100000
open Go.RowKit Go.Maps
open Dsk
theorem CrashFn.chg2 {w w':World} {F:Nat→Prop} {cv:Value} {fail:Option Int} {bm:Nat} {m:Files} (h:CrashFn w F cv fail) (x:Chg (·=bm) w w') (hm:OwnM w bm m):CrashFn w' F cv fail:=by
 unfold CrashFn at *
 split
 · exact h
 · obtain ⟨bc,e,hb,hF⟩:=h
   exact ⟨bc,e,hb.chg x (map_ne_blk hm hb).symm,hF⟩
section
variable {w:World} {F:Nat→Prop} {bd bm:Nat} {cv kv:Value} {d:Dk}
theorem func_neq_nil (w:World):(binOp .neq 22 .nilFunc .nilFunc).run Tryz.prog w=.ok (.bool false) w:=by kernel_rfl
theorem func_neq_some (w:World) (bc:Nat):(binOp .neq 22 (.func (.func 100) #[] #[.pointer (some ⟨bc,0,none⟩)]) .nilFunc).run Tryz.prog w=.ok (.bool true) w:=by kernel_rfl
theorem DiskIn.setFail (h:DiskIn w F bd bm cv kv d) {bc:Nat} {n:Int} (hb:Blk w bc 3 #[.int .i64 n]) (hF:F bc) (hcv:cv=.func (.func 100) #[] #[.pointer (some ⟨bc,0,none⟩)]) (m:Int) :
  DiskIn (w.setCell ⟨bc,0,none⟩ (.int .i64 m)) F bd bm cv kv { d with fail:=some m }∧Chg F w (w.setCell ⟨bc,0,none⟩ (.int .i64 m)):=by
 have hc:Chg (·=bc) w (w.setCell ⟨bc,0,none⟩ (.int .i64 m)):=(Chg.refl (·=bc) w).setCell (p:=⟨bc,0,none⟩) (fun _ => rfl) (.int .i64 m)
 have h1:bd≠bc:=fun e => by
  have a:=h.blk;subst e;unfold Blk at a hb;rw [hb] at a;simp at a
 have h2:bm≠bc:=map_ne_blk h.map hb
 refine ⟨⟨h.blk.chg hc h1,h.map.chg hc h2,⟨bc,hcv,hb.set 0 _,hF⟩,h.row.chg hc fun k hk e => ?_,h.fd,h.fm,h.fk,⟨h.ok.room1,h.ok.room2,h.ok.rising,h.ok.named,h.ok.safe,h.ok.count,h.ok.fits,h.ok.starts,h.ok.keep⟩,fun k hk => Nat.lt_of_lt_of_le (h.lt k hk) hc.size⟩,hc.mono fun k _ e => e ▸ hF⟩
 subst e
 exact (h.fk k hk).2.2 hcv
theorem crashes_none (h:DiskIn w F bd bm cv kv d) (hf:d.fail=none):Calls Tryz.prog 177 #[.pointer (some ⟨bd,0,none⟩)] w fun e w' => e=.returned (.bool false)∧w=w':=by
 have c4:=h.blk.cell 4
 have hfn:=h.fn
 rw [hf] at hfn
 obtain rfl:cv=.nilFunc:=hfn
 simp at c4
 clear h hf
 have hq:=func_neq_nil w
 go_enter Tryz.func177,Tryz.ntmps177
 go_wp2_with fail
 go_ret
 exact ⟨rfl,rfl⟩
theorem crashes_some (h:DiskIn w F bd bm cv kv d) {n:Int} (hf:d.fail=some n) (hn:0≤n∧n≤9223372036854775807) :
  Calls Tryz.prog 177 #[.pointer (some ⟨bd,0,none⟩)] w fun e w' => e=.returned (.bool (decide (n-1<0)))∧DiskIn w' F bd bm cv kv { d with fail:=some (n-1) }∧Chg F w w':=by
 have c4:=h.blk.cell 4
 have hfn:=h.fn
 rw [hf] at hfn
 obtain ⟨bc,hcv,hb,hF⟩:=hfn
 have hset:=h.setFail hb hF hcv (n-1)
 subst hcv
 simp at c4
 have c0:=hb.cell 0
 have f0:=hb.free 0
 simp at c0
 have c1:=(hb.set 0 (.int .i64 (n-1))).cell 0
 simp at c1
 have Hset:=Lib.hid hset
 clear h hf hset
 have hq:=func_neq_some w bc
 obtain ⟨hn1,hn2⟩:=hn
 go_enter Tryz.func177,Tryz.ntmps177
 go_wp2
 go_ret
 exact ⟨rfl,Hset.out⟩
def KeepR (w:World) (S:Nat→Prop) (v:Value) (l:List Int):Prop :=
 ∃ x c,v=.slice x l.length c∧(x=none→c=0)∧∀ (j:Nat) (hj:j<l.length),∃ b off,x=some ⟨b,off,none⟩∧b<w.heap.size∧¬ S b∧w.cell? ⟨b,off+j,none⟩=some (.int .i64 l[j])
theorem KeepR.chg {w w':World} {S T:Nat→Prop} {v:Value} {l:List Int} (h:KeepR w S v l) (x:Chg T w w') (hT:∀ k,T k→S k):KeepR w' S v l:=by
 obtain ⟨a,c,rfl,ha,h⟩:=h
 refine ⟨a,c,rfl,ha,fun j hj => ?_⟩
 obtain ⟨b,off,e,hb,hs,hc⟩:=h j hj
 exact ⟨b,off,e,Nat.lt_of_lt_of_le hb x.size,hs,(x.cell (p:=⟨b,off+j,none⟩) hb fun ht => hs (hT _ ht)).trans hc⟩
theorem KeepR.mono {w:World} {S T:Nat→Prop} {v:Value} {l:List Int} (h:KeepR w S v l) (hT:∀ k,T k→S k):KeepR w T v l:=by
 obtain ⟨a,c,rfl,ha,h⟩:=h
 refine ⟨a,c,rfl,ha,fun j hj => ?_⟩
 obtain ⟨b,off,e,hb,hs,hc⟩:=h j hj
 exact ⟨b,off,e,hb,fun ht => hs (hT _ ht),hc⟩
theorem DiskIn.stop (h:DiskIn w F bd bm cv kv d) {w':World} (hb:Blk w' bd 156 #[.int .i64 d.room,.int .i64 d.starts,.bool true,.map (some bm),.nilFunc,kv]) (hc:Chg (·=bd) w w') :
  DiskIn w' F bd bm .nilFunc kv { d with off:=true,fail:=none } :=
 ⟨hb,h.map.chg hc (map_ne_blk h.map h.blk),rfl,h.row.chg hc (fun k hk => (h.fk k hk).2.1),h.fd,h.fm,fun k hk => ⟨(h.fk k hk).1,(h.fk k hk).2.1,fun e => by cases e⟩,
  ⟨h.ok.room1,h.ok.room2,h.ok.rising,h.ok.named,h.ok.safe,h.ok.count,h.ok.fits,h.ok.starts,h.ok.keep⟩,fun k hk => Nat.lt_of_lt_of_le (h.lt k hk) hc.size⟩
theorem DiskIn.files (h:DiskIn w F bd bm cv kv d) {w':World} {m:Files} (hm:OwnM w' bm m) (hc:Chg (·=bm) w w') (hok:Ok { d with files:=m }):DiskIn w' F bd bm cv kv { d with files:=m } :=
 ⟨h.blk.chg hc (map_ne_blk h.map h.blk).symm,hm,h.fn.chg2 hc h.map,h.row.chg hc (fun _ hk e => map_ne_row h.map h.row (e ▸ hk)),h.fd,h.fm,h.fk,hok,fun k hk => Nat.lt_of_lt_of_le (h.lt k hk) hc.size⟩
end
end Go.Proofs.YtdacanghbepjpaaGreatDoor
namespace Go.Proofs.YtdacanghbepjpaaGreatDoor
set_option maxRecDepth 100000
open Go.RowKit Go.Maps
open Dsk
theorem Chg.drewN' {S:Nat→Prop} {w:World} (n:Nat):Chg S w (w.drewN n):=(Chg.refl S w).drewN n
theorem put_wr (w:World) (b:Nat) (i:Nat) (u:Value):Chg (·=b) w (w.setCell ⟨b,i,none⟩ u):=(Chg.refl (·=b) w).setCell (p:=⟨b,i,none⟩) (fun _ => rfl) u
section
variable {w:World} {F:Nat→Prop} {bd bm:Nat} {cv kv:Value} {d:Dk}
set_option maxRecDepth 100000 in
set_option maxHeartbeats 1600000 in
theorem crash_on (h:DiskIn w F bd bm cv kv d) (hoff:d.off=false) (v:Value) (keep:List Int) (hk:KeepR w (fun k => k=bd∨k=bm) v keep) (hkl:keep.length≤9223372036854775807) :
  Calls Tryz.prog 120 #[.pointer (some ⟨bd,0,none⟩),v] w fun e w' => e=.returned (.int .i64 0)∧DiskIn w' F bd bm .nilFunc kv (d.crashed keep)∧Chg (fun k => k=bd∨k=bm) w w':=by
 have hr:=runs_in h
 rw [hoff] at hr
 have hbd:=h.blk.lt
 have hcnt:=h.ok.count
 have c2:=h.blk.cell 2
 have c4:=h.blk.cell 4
 have f2:=h.blk.free 2
 have f4:=h.blk.free 4
 simp at c2 c4
 obtain ⟨w1,hw1⟩:∃ w1,w1=(w.setCell ⟨bd,2,none⟩ (.bool true)).setCell ⟨bd,4,none⟩ .nilFunc:=⟨_,rfl⟩
 have hc1:Chg (·=bd) w w1:=by rw [hw1];exact (put_wr w bd 2 _).trans (put_wr _ bd 4 _)
 have h1:DiskIn w1 F bd bm .nilFunc kv { d with off:=true,fail:=none }:=h.stop (by rw [hw1];exact (h.blk.set 2 _).set 4 _) hc1
 have hn:=names_in h1
 have H:=Lib.hid h
 have H1:=Lib.hid h1
 have Hc1:=Lib.hid hc1
 have Hn:=Lib.hid hn
 have HW:=Lib.hid hw1
 have hk1:=hk.chg hc1 (fun k e => .inl e)
 have Hk:=Lib.hid hk1
 clear h h1 hc1 hn hw1 hk hk1
 go_enter Tryz.func120,Tryz.ntmps120
 go_wp2_with (go_at_call 99;refine hr.mono ?_;rintro e w' ⟨rfl,rfl⟩)
 rw [← HW.out]
 refine Hn.out.mono ?_
 rintro e w2 ⟨vn,rfl,hown,hb2⟩
 obtain ⟨x,c,rfl,hcell⟩:=hown.each
 rw [names_len]
 have hz1:=hb2.size
 have hz0:=Hc1.out.size
 have h2:=H1.out.below hb2
 have hk2:=Hk.out.chg (Chg.of_below hb2) (T:=fun _ => False) (fun _ e => e.elim)
 have hbd2:=h2.blk.lt
 have Hb2:=Lib.hid hb2
 have Hcell:=Lib.hid hcell
 have H2:=Lib.hid h2
 obtain ⟨vx,vc,rfl,_,hkc⟩:=hk2
 have Hkc:=Lib.hid hkc
 clear hb2 hcell h2 hkc hown c2 c4 f2 f4 Hk hr
 go_wp2_with fail
 go_loopw [6,7,8,23] (fun _ _ _ v23 wr => ∃ k:Nat,v23=.int .i64 k∧k≤d.files.length∧OwnM wr bm (cutTo keep k d.files)∧Chg (·=bm) w2 wr) (fun _ _ _ v23 _ => d.files.length-(intOf v23).toNat)
 case atStart => exact ⟨0,rfl,Nat.zero_le _,by rw [cutTo_zero];exact H2.out.map,Chg.refl _ _⟩
 case round =>
  obtain ⟨k,rfl,hk,hm,hch⟩:=hrel
  have hbm:=map_ne_blk H2.out.map H2.out.blk
  have hz2:=hch.size
  have c3:=(H2.out.blk.chg hch hbm.symm).cell 3
  simp at c3
  have Hm:=Lib.hid hm
  have Hch:=Lib.hid hch
  have hbr:bd<wr.heap.size:=by omega
  clear hm hch
  by_cases hlt:k<d.files.length
  · obtain ⟨b,rfl,hbw,hbl,hc⟩:=Hcell.out k (by rw [names_len];exact hlt)
    rw [strs_get d.files k hlt] at hc
    have hbne:b≠bm:=by have:=H1.out.map.lt;omega
    have hc2:=(Hch.out.cell (p:=⟨b,k,none⟩) hbl hbne).trans hc
    have Hns:=Lib.hid (name_size H.out.ok.named k hlt)
    obtain ⟨hg,hput⟩:=cutTo_step keep k d.files H.out.ok.rising hlt
    have hsf:=H.out.ok.safe _ (List.getElem_mem hlt)
    have hdl:=data_le (List.getElem_mem hlt)
    have hft:=H.out.ok.fits
    have hr2:=H.out.ok.room2
    obtain ⟨s,n,hsn⟩:∃ (s:ByteArray) (n:Nat),d.files[k].2=⟨s.data.toList,n⟩:=⟨⟨d.files[k].2.data.toArray⟩,d.files[k].2.safe,rfl⟩
    have hl:s.data.toList.length=s.size:=by simp
    rw [hsn] at hsf hdl hg hput
    simp only [hl] at hsf hdl
    have hsb:s.size≤1048576:=by omega
    have Hl:=Lib.hid hl
    obtain ⟨name,hname⟩:∃ name:ByteArray,name=⟨d.files[k].1.toArray⟩:=⟨_,rfl⟩
    rw [← hname] at hc2
    have hnl:d.files[k].1=name.data.toList:=by rw [hname]
    rw [hnl] at hg hput
    have HN:=Lib.hid (show name.size≤maxLen by rw [hname];exact Hns.out)
    have HF:=Lib.hid (show (get (cutTo keep k d.files) name.data.toList).getD ⟨[],0⟩=⟨s.data.toList,n⟩ by rw [hg];rfl)
    have Hput:=Lib.hid hput
    clear hsn hname hc hl hdl hft hr2 hnl hg hput
    by_cases hik:k<keep.length
    · have hik2:((k:Int)<keep.length)=True:=by simp;omega
      obtain ⟨bk,koff,rfl,hkb,hkn,hkc⟩:=Hkc.out k hik
      have hk3:=(Hch.out.cell (p:=⟨bk,koff+k,none⟩) hkb (fun e => hkn (.inr e))).trans hkc
      obtain ⟨kx,hkx⟩:∃ kx,keep[k]=kx:=⟨_,rfl⟩
      rw [hkx] at hk3
      have hkbr:bk<wr.heap.size:=by omega
      obtain ⟨m,hm⟩:∃ m:Nat,(n:Int)+min (max kx 0) ((s.size:Int)-n)=m:=⟨((n:Int)+min (max kx 0) ((s.size:Int)-n)).toNat,by omega⟩
      have hms:m≤s.size:=by omega
      have HM:=Lib.hid hm
      have Hsome:=Lib.hid (show cutF ⟨s.data.toList,n⟩ keep[k]?=⟨(s.extract 0 m).data.toList,m⟩ by
       rw [List.getElem?_eq_getElem hik,hkx,extract_list]
       have e:stays ⟨s.data.toList,n⟩ (some kx)=m:=by unfold stays;simp only [Option.getD_some,Hl.out];omega
       unfold cutF;rw [e];simp)
      clear hkn hkc hkx hm
      go_wp2_with (first
       | (at_lookup;refine wpList_look rfl (.tmp 31) (.tmp 32) rfl bm _ rfl Hm.out name rfl HN.out s n HF.out ?_))
      have hz3:(wr.alloc (.cells #[.string s,.int .i64 n] 185 (0,0))).heap.size=wr.heap.size+1:=by simp
      have hblk:=Blk.alloc_new wr 185 #[.string s,.int .i64 n]
      obtain ⟨w3,hw3⟩:∃ w3,w3=wr.alloc (.cells #[.string s,.int .i64 n] 185 (0,0)):=⟨_,rfl⟩
      have hb3:Below wr.heap.size wr w3:=by rw [hw3];exact (Below.refl _ _).alloc (Nat.le_refl _) _
      rw [← hw3] at hblk hz3 ⊢
      have d3:=(hb3.cell (p:=⟨bd,3,none⟩) hbr).trans c3
      have dk:=(hb3.cell (p:=⟨bk,koff+k,none⟩) hkbr).trans hk3
      have d0:=hblk.cell 0
      have d1:=hblk.cell 1
      simp at d0 d1
      have Hblk:=Lib.hid hblk
      have Hb3:=Lib.hid hb3
      have Hw3:=Lib.hid hw3
      clear hblk hb3 hw3 c3 hk3
      have w0:IntKind.i64.wrap ((s.size:Int)-n)=(s.size:Int)-n:=IntWalk.i64_in _ ⟨by omega,by omega⟩
      have w5:IntKind.i64.wrap ((n:Int)+min (max kx 0) ((s.size:Int)-n))=m:=by rw [HM.out];exact IntWalk.i64_in _ ⟨by omega,by omega⟩
      refine wp_region_ext_tail 16 (by kernel_rfl) (by kernel_rfl) fun K hK => ?_
      simp only [List.take_succ_cons,List.take_zero]
      repeat (go_big_quiet_step (fail))
      refine wpQuiet_nil (hK _ fun x => ?_)
      clear hK K
      simp only [List.drop_succ_cons,List.drop_zero]
      have hbx:=Hblk.out.ext x
      have hx:=x.le
      have g3:=(hx.cell (p:=⟨bd,3,none⟩) (by show bd<_;omega)).trans d3
      have g1:=hbx.free 1
      have g0:=hbx.cell 0
      have gf0:=hbx.free 0
      have g1':=hbx.cell 1
      simp at g0 g1'
      have Hbx:=Lib.hid hbx
      have Hx:=Lib.hid hx
      clear hbx hx d0 d1 d3 dk
      go_wp2_with fail
      obtain ⟨w4,hw4⟩:∃ w4,w4=(x.wd.setCell ⟨wr.heap.size,1,none⟩ (.int .i64 m)).setCell ⟨wr.heap.size,0,none⟩ (.string (s.extract 0 m)):=⟨_,rfl⟩
      have hb4:Below wr.heap.size wr w4:=by rw [hw4];exact ((Hb3.out.trans (Hx.out.mono (by omega))).setCell (Nat.le_refl _) _).setCell (Nat.le_refl _) _
      have hbB:Blk w4 wr.heap.size 185 #[.string (s.extract 0 m),.int .i64 m]:=by rw [hw4];exact (Hbx.out.set 1 (.int .i64 m)).set 0 (.string (s.extract 0 m))
      rw [← hw4]
      have b0:=hbB.cell 0
      have b1:=hbB.cell 1
      simp at b0 b1
      have b3:w4.cell? ⟨bd,3,none⟩=some (.map (some bm)):=(hb4.cell (p:=⟨bd,3,none⟩) hbr).trans ((((Hb3.out.trans (Hx.out.mono (by omega))).cell (p:=⟨bd,3,none⟩) hbr).symm).trans g3)
      have hz4:=hb4.size
      have hbl4:=hbB.lt
      have Hb4:=Lib.hid hb4
      clear hw4 hb4 hbB g0 g1 g3 g1' gf0
      refine wp_region_ext_tail 6 (by kernel_rfl) (by kernel_rfl) fun K hK => ?_
      simp only [List.take_succ_cons,List.take_zero]
      repeat (go_big_quiet_step (fail))
      refine wpQuiet_nil (hK _ fun x => ?_)
      clear hK K
      simp only [List.drop_succ_cons,List.drop_zero]
      have Hm2:=Lib.hid ((Hm.out.below Hb4.out).below x.le)
      have Hx2:=Lib.hid x.le
      refine wpList_put rfl (.tmp 63) (.tmp 64) (.tmp 65) rfl bm _ rfl Hm2.out (by rw [cutTo_length];omega) name rfl HN.out (s.extract 0 m) m rfl ?_
      intro w5 hm5 hc5
      have Hm5:=Lib.hid hm5
      have Hc5:=Lib.hid hc5
      clear hm5 hc5
      go_wp2_with fail
      go_roundw
      case rel => exact ⟨k+1,by go_num,by omega,by rw [← Hput.out,Hsome.out];exact Hm5.out,Hch.out.trans ((Chg.of_below (Hb4.out.trans (Hx2.out.mono (by omega)))).trans Hc5.out)⟩
      case measure => simp [intOf];omega
    · have hik2:((k:Int)<keep.length)=False:=by simp;omega
      have Hnone:=Lib.hid (show cutF ⟨s.data.toList,n⟩ keep[k]?=⟨(s.extract 0 n).data.toList,n⟩ by
       rw [List.getElem?_eq_none (by omega),extract_list]
       have e:stays ⟨s.data.toList,n⟩ none=n:=by unfold stays;simp only [Option.getD_none,Hl.out];omega
       unfold cutF;rw [e];simp)
      go_wp2_with (first
       | (at_lookup;refine wpList_look rfl (.tmp 31) (.tmp 32) rfl bm _ rfl Hm.out name rfl HN.out s n HF.out ?_))
      have hz3:(wr.alloc (.cells #[.string (s.extract 0 n),.int .i64 n] 185 (0,0))).heap.size=wr.heap.size+1:=by simp
      have hblk:=Blk.alloc_new wr 185 #[.string (s.extract 0 n),.int .i64 n]
      obtain ⟨w3,hw3⟩:∃ w3,w3=wr.alloc (.cells #[.string (s.extract 0 n),.int .i64 n] 185 (0,0)):=⟨_,rfl⟩
      have hb3:Below wr.heap.size wr w3:=by rw [hw3];exact (Below.refl _ _).alloc (Nat.le_refl _) _
      rw [← hw3] at hblk hz3 ⊢
      have d3:=(hb3.cell (p:=⟨bd,3,none⟩) hbr).trans c3
      have d0:=hblk.cell 0
      have d1:=hblk.cell 1
      simp at d0 d1
      have Hb3:=Lib.hid hb3
      have Hw3:=Lib.hid hw3
      clear hblk hb3 hw3 c3
      refine wp_region_ext_tail 6 (by kernel_rfl) (by kernel_rfl) fun K hK => ?_
      simp only [List.take_succ_cons,List.take_zero]
      repeat (go_big_quiet_step (fail))
      refine wpQuiet_nil (hK _ fun x => ?_)
      clear hK K
      simp only [List.drop_succ_cons,List.drop_zero]
      have Hm2:=Lib.hid ((Hm.out.below Hb3.out).below x.le)
      have Hx:=Lib.hid x.le
      refine wpList_put rfl (.tmp 63) (.tmp 64) (.tmp 65) rfl bm _ rfl Hm2.out (by rw [cutTo_length];omega) name rfl HN.out (s.extract 0 n) n rfl ?_
      intro w4 hm4 hc4
      have Hm4:=Lib.hid hm4
      have Hc4:=Lib.hid hc4
      clear hm4 hc4
      go_wp2_with fail
      go_roundw
      case rel => exact ⟨k+1,by go_num,by omega,by rw [← Hput.out,Hnone.out];exact Hm4.out,Hch.out.trans ((Chg.of_below (Hb3.out.trans (Hx.out.mono (by omega)))).trans Hc4.out)⟩
      case measure => simp [intOf];omega
  · obtain rfl:k=d.files.length:=by omega
    have hend:=Hm.out
    rw [cutTo_end] at hend
    have hok:=H.out.ok.crashed keep
    have hfin:=H2.out.files hend Hch.out hok
    have hcc:Chg (fun k => k=bd∨k=bm) w wr:=(Hc1.out.mono fun _ _ e => .inl e).trans ((Chg.of_below Hb2.out).trans (Hch.out.mono fun _ _ e => .inr e))
    have Hfin:=Lib.hid hfin
    have Hcc:=Lib.hid hcc
    clear hend hok hfin hcc
    go_wp2_with fail
    go_ret
    exact ⟨rfl,Hfin.out,Hcc.out⟩
end
end Go.Proofs.YtdacanghbepjpaaGreatDoor
namespace Go.Proofs.YtdacanghbepjpaaGreatDoor
set_option maxRecDepth 100000
open Go.RowKit Go.Maps
open Dsk
def Dk.ticked (d:Dk):Dk:=match d.fail with | none => d | some n => { d with fail:=some (n-1) }
section
variable {w:World} {F:Nat→Prop} {bd bm:Nat} {cv kv:Value} {d:Dk}
theorem DiskIn.keepR (h:DiskIn w F bd bm cv kv d):KeepR w (fun k => k=bd∨k=bm) kv d.keep:=by
 have hrd:=h.row.rd
 have hown:∀ b,kv.ownBlock=some b→b≠bd∧b≠bm:=fun b hb => ⟨(h.fk b hb).2.1,fun e => map_ne_row h.map h.row (e ▸ hb)⟩
 have hnil:∀ n c,kv=.slice none n c→c=0:=fun n c e => by
  obtain ⟨_,h2 | ⟨g,cap,cur,hv,_⟩⟩:=h.row
  · rw [h2.1] at e;cases e;rfl
  · rw [hv] at e;cases e
 rcases hrd with ⟨x,c,e,hl⟩ | ⟨b,off,c,e,hb,hc⟩
 · exact ⟨x,c,by rw [e,hl];rfl,fun hx => hnil _ _ (by rw [e,hx]),fun j hj => absurd hj (by rw [hl];simp)⟩
 · refine ⟨some ⟨b,off,none⟩,c,e,fun e => (by cases e),fun j hj => ⟨b,off,rfl,hb,?_,hc j hj⟩⟩
   have:=hown b (by rw [e];rfl)
   exact fun x => x.elim this.1 this.2
set_option maxHeartbeats 1000000 in
theorem change_any (h:DiskIn w F bd bm cv kv d) (hf:FOk d) (hoff:d.off=false) {f:FuncId} {caps:Array Value} {Post:Int→World→Prop} (hent:Go.Proofs.Enters Tryz.prog f)
  (hcrash:∀ n,d.fail=some n→n≤0→∀ w',DiskIn w' F bd bm .nilFunc kv (d.crashed d.keep)→Chg F w w'→Post 51 w')
  (hdo:(∀ n,d.fail=some n→0<n)→∀ w1,DiskIn w1 F bd bm cv kv (Dk.ticked d)→Chg F w w1→Calls Tryz.prog f caps w1 fun e w2 => e=.returned (.tuple #[])∧Post 0 w2) :
  Calls Tryz.prog 139 #[.pointer (some ⟨bd,0,none⟩),.func (.func f) #[] caps] w fun e w' => ∃ r,e=.returned (.int .i64 r)∧Post r w':=by
 have Hent:=Lib.hid (fun w => hent caps w)
 clear hent
 cases hfl:d.fail with
 | none =>
  have hc:=crashes_none h hfl
  have hd:=hdo (fun n e => by rw [hfl] at e;cases e) w (by unfold Dk.ticked;rw [hfl];exact h) (Chg.refl _ _)
  have Hd:=Lib.hid hd
  clear h hf hoff hcrash hdo hfl hd
  go_enter Tryz.func139,Tryz.ntmps139
  go_wp2_with (go_at_call 177;refine hc.mono ?_;rintro e w' ⟨rfl,rfl⟩)
  rw [Hent.out]
  refine Hd.out.mono ?_
  rintro e w2 ⟨rfl,hp⟩
  have Hp:=Lib.hid hp
  clear hp
  go_wp2_with fail
  go_ret
  exact ⟨_,rfl,Hp.out⟩
 | some n =>
  obtain ⟨hn1,hn2⟩:=hf n hfl
  have hc:=crashes_some h hfl ⟨hn1,hn2⟩
  by_cases hn:n≤0
  · have hdec:decide (n-1<0)=true:=decide_eq_true (by omega)
    rw [hdec] at hc
    have hcr:=hcrash n hfl hn
    have hkl:=h.ok.keep
    have Hc:=Lib.hid hc
    have Hcr:=Lib.hid hcr
    clear h hf hcrash hdo hfl hn hdec hc hcr
    go_enter Tryz.func139,Tryz.ntmps139
    go_wp2_with fail
    refine Hc.out.mono ?_
    rintro e w1 ⟨rfl,h1,hc1⟩
    have c5:=h1.blk.cell 5
    simp at c5
    have hcra:=crash_on h1 hoff kv d.keep h1.keepR (by omega)
    have Hcra:=Lib.hid hcra
    have Hc1:=Lib.hid hc1
    have Hf:=Lib.hid (show F bd∧F bm from ⟨h1.fd,h1.fm⟩)
    clear h1 hc1 hcra
    go_wp2_with fail
    refine Hcra.out.mono ?_
    rintro e w2 ⟨rfl,h2,hc2⟩
    have Hp:=Lib.hid (Hcr.out w2 h2 (Hc1.out.trans (hc2.mono fun k _ e => e.elim (fun x => x ▸ Hf.out.1) (fun x => x ▸ Hf.out.2))))
    clear h2 hc2
    go_wp2_with fail
    go_ret
    exact ⟨_,rfl,Hp.out⟩
  · have hdec:decide (n-1<0)=false:=decide_eq_false (by omega)
    rw [hdec] at hc
    have hd:=hdo (fun m e => by rw [hfl] at e;cases e;omega)
    unfold Dk.ticked at hd
    rw [hfl] at hd
    have Hc:=Lib.hid hc
    have Hd:=Lib.hid hd
    clear h hf hcrash hdo hfl hn hdec hc hd
    go_enter Tryz.func139,Tryz.ntmps139
    go_wp2_with fail
    refine Hc.out.mono ?_
    rintro e w1 ⟨rfl,h1,hc1⟩
    have Hd1:=Lib.hid (Hd.out w1 h1 hc1)
    clear h1 hc1
    go_wp2_with fail
    rw [Hent.out]
    refine Hd1.out.mono ?_
    rintro e w2 ⟨rfl,hp⟩
    have Hp:=Lib.hid hp
    clear hp
    go_wp2_with fail
    go_ret
    exact ⟨_,rfl,Hp.out⟩
end
end Go.Proofs.YtdacanghbepjpaaGreatDoor
